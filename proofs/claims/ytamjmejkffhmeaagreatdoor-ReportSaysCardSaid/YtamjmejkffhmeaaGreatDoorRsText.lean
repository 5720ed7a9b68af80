/-
  Contract: the document's StateText, at a state that may be.
-/
import Derived.Test.YtamjmejkffhmeaaGreatDoorRsDec
import Derived.Deep.DeepCutAuto
namespace Go.Proofs.YtamjmejkffhmeaaGreatDoor
open Go.RowKit Go.Lib

def stTail (s : St) : List Bs := Lib.itoa s.typ :: Lib.itoa s.holder :: stayW s.stays :: s.regs.map regW
def stPre (s : St) (k : Nat) : ByteArray := bsB (Lib.itoa s.gen ++ joinTail [32] ((stTail s).take (3 + k)))
theorem stPre_all {s : St} {k : Nat} (h : s.regs.length ≤ k) : stPre s k = bsB (stText s) := by
  unfold stPre stText
  rw [List.take_of_length_le (by simp [stTail]; omega), stWords, join_cons]
  rfl
theorem stPre_zero (s : St) : stPre s 0 = bsB (Lib.itoa s.gen) ++ ⟨#[32]⟩ ++ bsB (Lib.itoa s.typ) ++ ⟨#[32]⟩ ++ bsB (Lib.itoa s.holder) ++ ⟨#[32]⟩ ++ bsB (stayW s.stays) := by
  rw [show (⟨#[32]⟩ : ByteArray) = bsB [32] from rfl]
  simp only [bsB_append]
  unfold stPre stTail
  simp [joinTail]
theorem stPre_succ {s : St} {k : Nat} (h : k < s.regs.length) : stPre s (k + 1) = stPre s k ++ ⟨#[32]⟩ ++ bsB (Lib.itoa s.regs[k].1) ++ ⟨#[58]⟩ ++ bsB (Lib.itoa s.regs[k].2) := by
  rw [show (⟨#[32]⟩ : ByteArray) = bsB [32] from rfl, show (⟨#[58]⟩ : ByteArray) = bsB [58] from rfl]
  unfold stPre
  simp only [bsB_append]
  rw [← Nat.add_assoc, joinTail_take_succ [32] (stTail s) (3 + k) (regW s.regs[k]) (by
    unfold stTail
    rw [show 3 + k = k + 1 + 1 + 1 from by omega]
    simp [h])]
  simp [regW]
theorem stPre_size {s : St} (g : Good s) (k : Nat) : (stPre s k).size ≤ 48 := by
  have h1 := g.text_len
  have h2 := joinTail_take_le [32] (stTail s) (3 + k)
  have h3 : (stText s).length = (Lib.itoa s.gen).length + (joinTail [32] (stTail s)).length := by
    have : stText s = Lib.itoa s.gen ++ joinTail [32] (stTail s) := by unfold stText stWords; rw [join_cons]; rfl
    rw [this, List.length_append]
  unfold stPre
  rw [bsB_size, List.length_append]
  omega

theorem decimalI (v : Int) (h0 : 0 ≤ v) (h1 : v ≤ 9223372036854775807) (w : World) :
    Calls Tryz.prog 26 #[.int .i64 v] w fun e w' => e = .returned (.string (bsB (Lib.itoa v))) ∧ Below w.heap.size w w' := by
  obtain ⟨n, rfl⟩ : ∃ n : Nat, v = n := ⟨v.toNat, by omega⟩
  have := decimal_any n w (by omega)
  unfold Lib.itoa
  rw [if_neg (by omega)]
  exact this

set_option maxHeartbeats 4000000 in
set_option maxRecDepth 100000 in
theorem statetext_any (s : St) (a : Option Addr) (cap : Nat) (w : World) (hr : StR w s a) (hg : Good s) :
    Calls Tryz.prog 12 #[stV s a cap] w fun e w' => e = .returned (.string (bsB (stText s))) ∧ Below w.heap.size w w' := by
  have HR := Lib.hid hr
  have g1 := hg.gen
  have g2 := hg.typ_le
  have g3 := hg.holder_le
  have gl := hg.regs_len
  have HG := Lib.hid hg
  have DG := Lib.hid (fun w => decimalI s.gen (by omega) (by omega) w)
  have DT := Lib.hid (fun w => decimalI s.typ (by omega) (by omega) w)
  have DH := Lib.hid (fun w => decimalI s.holder (by omega) (by omega) w)
  have SW := Lib.hid (fun w => (staysword_any s.stays w).mono fun e w' (h : _ ∧ w' = w) => (⟨h.1, h.2 ▸ Below.refl _ _⟩ : _ ∧ Below w.heap.size w w'))
  have l1 := itoa_len_any s.gen (by omega) (by omega)
  have l2 := itoa_len_any s.typ (by omega) (by omega)
  have l3 := itoa_len_any s.holder (by omega) (by omega)
  obtain ⟨A, hA⟩ : ∃ A, A = bsB (Lib.itoa s.gen) := ⟨_, rfl⟩
  obtain ⟨B, hB⟩ : ∃ B, B = bsB (Lib.itoa s.typ) := ⟨_, rfl⟩
  obtain ⟨C, hC⟩ : ∃ C, C = bsB (Lib.itoa s.holder) := ⟨_, rfl⟩
  obtain ⟨D, hD⟩ : ∃ D, D = bsB (stayW s.stays) := ⟨_, rfl⟩
  have sA : A.size ≤ 20 := by rw [hA, bsB_size]; exact l1
  have sB : B.size ≤ 20 := by rw [hB, bsB_size]; exact l2
  have sC : C.size ≤ 20 := by rw [hC, bsB_size]; exact l3
  have sD : D.size ≤ 5 := by rw [hD, bsB_size]; cases s.stays <;> decide
  have HZ := Lib.hid (show stPre s 0 = A ++ ⟨#[32]⟩ ++ B ++ ⟨#[32]⟩ ++ C ++ ⟨#[32]⟩ ++ D from by rw [hA, hB, hC, hD]; exact stPre_zero s)
  rw [← hA] at DG
  rw [← hB] at DT
  rw [← hC] at DH
  rw [← hD] at SW
  have z1 : (⟨#[32]⟩ : ByteArray).size = 1 := rfl
  have a1 := fun w => run_string_add_sum (P := Tryz.prog) w A ⟨#[32]⟩ (by simp only [z1]; omega)
  have a2 := fun w => run_string_add_sum (P := Tryz.prog) w (A ++ ⟨#[32]⟩) B (by simp only [ByteArray.size_append, z1]; omega)
  have a3 := fun w => run_string_add_sum (P := Tryz.prog) w (A ++ ⟨#[32]⟩ ++ B) ⟨#[32]⟩ (by simp only [ByteArray.size_append, z1]; omega)
  have a4 := fun w => run_string_add_sum (P := Tryz.prog) w (A ++ ⟨#[32]⟩ ++ B ++ ⟨#[32]⟩) C (by simp only [ByteArray.size_append, z1]; omega)
  have a5 := fun w => run_string_add_sum (P := Tryz.prog) w (A ++ ⟨#[32]⟩ ++ B ++ ⟨#[32]⟩ ++ C) ⟨#[32]⟩ (by simp only [ByteArray.size_append, z1]; omega)
  have a6 := fun w => run_string_add_sum (P := Tryz.prog) w (A ++ ⟨#[32]⟩ ++ B ++ ⟨#[32]⟩ ++ C ++ ⟨#[32]⟩) D (by simp only [ByteArray.size_append, z1]; omega)
  clear hA hB hC hD sA sB sC sD z1 l1 l2 l3 g1 g2 g3 hr hg
  go_enter Tryz.func12, Tryz.ntmps12
  go_upto_region 1 with fail
  obtain ⟨w1, hw1⟩ : ∃ w1, w1 = w.alloc (.cells #[.int .i64 s.gen, .slice a s.regs.length cap, .int .i64 s.typ, .int .i64 s.holder, .bool s.stays] 24) := ⟨_, rfl⟩
  have V1 := Lib.hid (show w1.heap[w.heap.size]? = some (.cells #[.int .i64 s.gen, .slice a s.regs.length cap, .int .i64 s.typ, .int .i64 s.holder, .bool s.stays] 24 (0, 0)) from hw1 ▸ heap_alloc_new w _)
  have B1 := Lib.hid (show Below w.heap.size w w1 from hw1 ▸ bal w _)
  have L1 : w.heap.size < w1.heap.size := by rw [hw1]; simp
  have hq := bregrown (Below.refl w1.heap.size w1)
  have hcs : w1.cell? ⟨w.heap.size, 0, none⟩ = some (.int .i64 s.gen) ∧ w1.cell? ⟨w.heap.size, 1, none⟩ = some (.slice a s.regs.length cap) ∧ w1.cell? ⟨w.heap.size, 2, none⟩ = some (.int .i64 s.typ) ∧ w1.cell? ⟨w.heap.size, 3, none⟩ = some (.int .i64 s.holder) ∧ w1.cell? ⟨w.heap.size, 4, none⟩ = some (.bool s.stays) := by
    rw [hw1]; simp
  obtain ⟨c0, c1, c2, c3, c4⟩ := hcs
  rw [← hw1]
  clear hw1
  refine wp_region_quiet_below (by kernel_rfl) (by kernel_rfl) ?_
  repeat (go_big_quiet_step (first | (with_reducible exact Calls.regrown_of (DG.out _)) | (with_reducible exact Calls.regrown_of (DT.out _)) | (with_reducible exact Calls.regrown_of (DH.out _)) | (with_reducible exact Calls.regrown_of (SW.out _))))
  refine wpQuiet_nil ?_
  rintro w' ⟨⟨dq, osq⟩, rfl⟩
  obtain ⟨w2, hw2⟩ : ∃ w2, w2 = Go.Sort.grow (redrawn w1 dq) osq := ⟨_, rfl⟩
  have B2 := Lib.hid (show Below w1.heap.size w1 w2 from hw2 ▸ below_regrown w1 dq osq)
  rw [← hw2, ← HZ.out]
  clear hw2 hq c0 c1 c2 c3 c4 a1 a2 a3 a4 a5 a6 dq osq
  go_wp2
  go_loopw [3, 4] (fun t i wr => ∃ k : Nat, k ≤ s.regs.length ∧ i = .int .i64 k ∧ t = .string (stPre s k) ∧ Below w1.heap.size w1 wr) (fun _ i _ => s.regs.length - (intOf i).toNat)
  case atStart => exact ⟨0, by omega, rfl, rfl, B2.out⟩
  case round =>
    obtain ⟨k, hk, rfl, rfl, hb⟩ := hrel
    have HB := Lib.hid hb
    have VR := Lib.hid ((hb.block _ L1).trans V1.out)
    have LR : w.heap.size < wr.heap.size := Nat.lt_of_lt_of_le L1 hb.size
    have hc1 : wr.cell? ⟨w.heap.size, 1, none⟩ = some (.slice a s.regs.length cap) := by simp [World.cell?, VR.out]
    by_cases hlt : k < s.regs.length
    · obtain ⟨b, o, rfl, hbs, h1, h2⟩ := HR.out.rep k hlt
      have BW := Lib.hid (B1.out.trans (hb.mono B1.out.size))
      have d1 := (BW.out.cell (p := ⟨b, o + k * 2, none⟩) hbs).trans h1
      have d2 := (BW.out.cell (p := ⟨b, o + k * 2 + 1, none⟩) hbs).trans h2
      have LB : b < wr.heap.size := Nat.lt_trans hbs LR
      have bd := HG.out.bounds s.regs[k] (List.getElem_mem hlt)
      have HS := Lib.hid (stPre_succ hlt)
      have zP := stPre_size HG.out k
      obtain ⟨r, hr⟩ : ∃ r, s.regs[k] = r := ⟨_, rfl⟩
      rw [hr] at d1 d2 bd HS
      have D1 := Lib.hid (fun w => decimalI r.1 (by omega) (by omega) w)
      have D2 := Lib.hid (fun w => decimalI r.2 (by omega) (by omega) w)
      have l1 := itoa_len_any r.1 (by omega) (by omega)
      have l2 := itoa_len_any r.2 (by omega) (by omega)
      obtain ⟨A, hA⟩ : ∃ A, A = bsB (Lib.itoa r.1) := ⟨_, rfl⟩
      obtain ⟨B, hB⟩ : ∃ B, B = bsB (Lib.itoa r.2) := ⟨_, rfl⟩
      obtain ⟨T, hT⟩ : ∃ T, T = stPre s k := ⟨_, rfl⟩
      have sA : A.size ≤ 20 := by rw [hA, bsB_size]; exact l1
      have sB : B.size ≤ 20 := by rw [hB, bsB_size]; exact l2
      rw [← hA] at D1 HS
      rw [← hB] at D2 HS
      rw [← hT] at zP HS ⊢
      have z1 : (⟨#[32]⟩ : ByteArray).size = 1 := rfl
      have z2 : (⟨#[58]⟩ : ByteArray).size = 1 := rfl
      have a1 := fun w => run_string_add_sum (P := Tryz.prog) w T ⟨#[32]⟩ (by simp only [z1]; omega)
      have a2 := fun w => run_string_add_sum (P := Tryz.prog) w (T ++ ⟨#[32]⟩) A (by simp only [ByteArray.size_append, z1]; omega)
      have a3 := fun w => run_string_add_sum (P := Tryz.prog) w (T ++ ⟨#[32]⟩ ++ A) ⟨#[58]⟩ (by simp only [ByteArray.size_append, z1, z2]; omega)
      have a4 := fun w => run_string_add_sum (P := Tryz.prog) w (T ++ ⟨#[32]⟩ ++ A ++ ⟨#[58]⟩) B (by simp only [ByteArray.size_append, z1, z2]; omega)
      have hq := bregrown (Below.refl wr.heap.size wr)
      clear hA hB hT sA sB z1 z2 l1 l2 bd hr h1 h2 hb zP hbs
      go_wp2
      refine wp_region_quiet_below (by kernel_rfl) (by kernel_rfl) ?_
      repeat (go_big_quiet_step (first | (with_reducible exact Calls.regrown_of (D1.out _)) | (with_reducible exact Calls.regrown_of (D2.out _))))
      refine wpQuiet_nil ?_
      rintro w' ⟨⟨dq, osq⟩, rfl⟩
      go_wp2
      go_roundw
      case rel => exact ⟨k + 1, by omega, by go_num, by rw [HS.out], HB.out.trans ((below_regrown wr dq osq).mono HB.out.size)⟩
      case measure => simp [intOf]; omega
    · have HS := Lib.hid (stPre_all (s := s) (k := k) (by omega))
      go_wp2
      go_ret
      exact ⟨by rw [← HS.out]; rfl, B1.out.trans (hb.mono B1.out.size)⟩
end Go.Proofs.YtamjmejkffhmeaaGreatDoor
