/-
  Contract: the document's Keys.
-/
import Derived.Test.YtamjmejkffhmeaaGreatDoorRsPlain
import Derived.Test.YtamjmejkffhmeaaGreatDoorOthers
namespace Go.Proofs.YtamjmejkffhmeaaGreatDoor
open Go.RowKit

def dkTo (ks : List Int) (m : Nat) : List Int := ((List.range m).map fun i : Nat => (i : Int) + 1).filter fun n => decide (n ∈ ks)
theorem dkTo_all (ks : List Int) : dkTo ks 999 = docKeys ks := rfl
theorem dkTo_hit {ks : List Int} {m : Nat} (h : decide ((m : Int) + 1 ∈ ks) = true) : dkTo ks (m + 1) = dkTo ks m ++ [(m : Int) + 1] := by
  have h2 : (m : Int) + 1 ∈ ks := by simpa using h
  unfold dkTo
  rw [List.range_succ, List.map_append, List.filter_append]
  simp [h2]
theorem dkTo_miss {ks : List Int} {m : Nat} (h : decide ((m : Int) + 1 ∈ ks) = false) : dkTo ks (m + 1) = dkTo ks m := by
  have h2 : ¬ (m : Int) + 1 ∈ ks := by simpa using h
  unfold dkTo
  rw [List.range_succ, List.map_append, List.filter_append]
  simp [h2]
theorem dkTo_len (ks : List Int) (m : Nat) : (dkTo ks m).length ≤ m := by
  unfold dkTo
  exact Nat.le_trans (List.length_filter_le _ _) (by simp)
theorem mem_take_hit {ks : List Int} {k : Nat} (h : k < ks.length) {n : Int} (e : ks[k] = n) : decide (n ∈ ks.take (k + 1)) = true := by
  rw [List.take_succ_eq_append_getElem h, e]; simp
theorem mem_take_miss {ks : List Int} {k : Nat} (h : k < ks.length) {n : Int} (e : ks[k] ≠ n) : decide (n ∈ ks.take (k + 1)) = decide (n ∈ ks.take k) := by
  rw [List.take_succ_eq_append_getElem h]
  have : n ≠ ks[k] := fun x => e x.symm
  simp only [List.mem_append, List.mem_singleton, this, or_false]
theorem mem_take_on {ks : List Int} {k : Nat} (h : k < ks.length) {n : Int} (e : decide (n ∈ ks.take k) = true) : decide (n ∈ ks.take (k + 1)) = true := by
  rw [List.take_succ_eq_append_getElem h]
  have : n ∈ ks.take k := by simpa using e
  simp only [List.mem_append, this, true_or, decide_true]

set_option maxHeartbeats 4000000 in
set_option maxRecDepth 100000 in
theorem rkeys_any (s : St) (a : Option Addr) (cap : Nat) (w : World) (hr : StR w s a) (hl : s.regs.length ≤ 100) :
    Calls Tryz.prog 15 #[stV s a cap] w fun e w' => ∃ v, e = .returned v ∧ OwnI w.heap.size w' v (docKeys (s.regs.map (·.2))) ∧ Below w.heap.size w w' := by
  obtain ⟨g, l, t, h, st⟩ := s
  obtain ⟨_, hr⟩ := hr
  dsimp only at hl hr
  obtain ⟨i0, hi, hz0, hz1, hz2⟩ := info_parts Tryz.infoInt
  obtain ⟨KS, hKS⟩ : ∃ KS, l.map (·.2) = KS := ⟨_, rfl⟩
  have HKS := Lib.hid hKS
  have HKL := Lib.hid (show KS.length = l.length from by rw [← hKS, List.length_map])
  dsimp only
  rw [hKS]
  clear hKS
  go_enter Tryz.func15, Tryz.ntmps15
  go_wp2
  go_loopw [3, 4] (fun v n wr => ∃ m : Nat, m ≤ 999 ∧ n = .int .i64 ((m : Int) + 1) ∧ OwnI (w.heap.size + 1) wr v (dkTo KS m) ∧ Below (w.heap.size + 1) (w.alloc (.cells #[.int .i64 g, .slice a l.length cap, .int .i64 t, .int .i64 h, .bool st] 24)) wr) (fun _ n _ => 1000 - (intOf n).toNat)
  case atStart => exact ⟨0, by omega, rfl, ⟨rfl, .inl ⟨rfl, rfl⟩⟩, Below.refl _ _⟩
  case round =>
    obtain ⟨m, hm, rfl, hown, hb⟩ := hrel
    have HOWN := Lib.hid hown
    have HBLK := Lib.hid hown.blk
    have HB := Lib.hid hb
    have HDL := Lib.hid (dkTo_len KS m)
    have HS := Lib.hid (bsz hb)
    clear hown
    by_cases hlt : m < 999
    · obtain ⟨wo, rfl⟩ : ∃ wo : World, wo = wr := ⟨_, rfl⟩
      have hne : (m : Int) + 1 < 1000 := by omega
      go_wp2
      go_loopw [5, 6] (fun f i wr => ∃ k : Nat, k ≤ l.length ∧ i = .int .i64 k ∧ f = .bool (decide ((m : Int) + 1 ∈ KS.take k)) ∧ Below wo.heap.size wo wr) (fun _ i _ => l.length - (intOf i).toNat)
      case atStart => exact ⟨0, by omega, rfl, by simp, Below.refl _ _⟩
      case round =>
        obtain ⟨k, hk, rfl, rfl, hbo⟩ := hrel
        have hs := HS.out
        have HB2 := Lib.hid (HB.out.trans (hbo.mono (Nat.le_trans (by omega) HS.out)))
        have HBO := Lib.hid hbo
        obtain ⟨⟨e0, e1, e2, e3, e4⟩, f0, f1, f2, f3, f4⟩ := box5 HB2.out (b := w.heap.size) (by omega) (heap_alloc_new _ _)
        by_cases hk2 : k < l.length
        · obtain ⟨b, o, rfl, hbs, h1, h2⟩ := hr k hk2
          have c2 := ((bover HB2.out (by omega)).cell (p := ⟨b, o + k * 2 + 1, none⟩) hbs).trans h2
          have hkk : k < KS.length := by have := HKL.out; omega
          have HKK := Lib.hid (show KS[k] = l[k].2 from by
            have := HKS.out
            subst this
            simp)
          clear hr h1 h2
          obtain ⟨F, hF⟩ : ∃ F, decide ((m : Int) + 1 ∈ KS.take k) = F := ⟨_, rfl⟩
          rw [hF]
          cases F
          · rcases (by omega : l[k].2 = (m : Int) + 1 ∨ l[k].2 ≠ (m : Int) + 1) with he | he
            · have heb : (l[k].2 == (m : Int) + 1) = true := by simp [he]
              have HE := Lib.hid (mem_take_hit hkk (HKK.out.trans he))
              clear he hF
              go_wp2
              go_roundw
              case rel => exact ⟨k + 1, by omega, by go_num, by rw [HE.out], HBO.out⟩
              case measure => simp [intOf]; omega
            · have heb : (l[k].2 == (m : Int) + 1) = false := by simp [he]
              have HE := Lib.hid ((mem_take_miss hkk (by rw [HKK.out]; exact he)).trans hF)
              clear he hF
              go_wp2
              go_roundw
              case rel => exact ⟨k + 1, by omega, by go_num, by rw [HE.out], HBO.out⟩
              case measure => simp [intOf]; omega
          · have HE := Lib.hid (mem_take_on hkk hF)
            clear hF
            go_wp2
            go_roundw
            case rel => exact ⟨k + 1, by omega, by go_num, by rw [HE.out], HBO.out⟩
            case measure => simp [intOf]; omega
        · have hT : KS.take k = KS := List.take_of_length_le (by have := HKL.out; omega)
          rw [hT]
          clear hT
          obtain ⟨F, hF⟩ : ∃ F, decide ((m : Int) + 1 ∈ KS) = F := ⟨_, rfl⟩
          rw [hF]
          have hdl := HDL.out
          cases F
          · have HE := Lib.hid (dkTo_miss hF)
            clear hF
            go_wp2
            go_roundw
            case rel => exact ⟨m + 1, by omega, by go_num, by rw [HE.out]; exact OwnI.below HOWN.out HBO.out, HB2.out⟩
            case measure => simp [intOf]; omega
          · have HE := Lib.hid (dkTo_hit hF)
            have HO2 := Lib.hid (OwnI.below HOWN.out HBO.out)
            clear hF
            go_wp2_with (at_builtin; refine wpList_append_own _ rfl _ _ 38 rfl (w.heap.size + 1) 3 i0 (.int .i64 0) 1 8 Tryz.underlying38 hi hz0 hz1 hz2 rfl (by decide) _ _ _ rfl (HO2.out.alloc _) ⟨wr.heap.size, 0, none⟩ 1 1 [.int .i64 ((m : Int) + 1)] rfl rfl ?c1 ?c2 ?c3 ?c4 ?c5 ?_)
            case c1 =>
              intro j u hj
              match j, hj with
              | 0, hj => simp at hj; subst hj; simp [Addr.add]
            case c2 => intro u hu; simp at hu; subst hu; rfl
            case c3 => unfold maxLen; omega
            case c4 => omega
            case c5 => simp; have := HB2.out.size; simp at this; omega
            intro v' w1 hown1 hg1 _
            have hb1 := (HB2.out.alloc (by have := HB2.out.size; simp at this; omega) _).grown hg1 (by have := HB2.out.size; simp at this; simp; omega) HBLK.out
            have HO1 := Lib.hid hown1
            have HB1 := Lib.hid hb1
            clear hown1 hg1 hb1
            go_wp2
            go_roundw
            case rel => exact ⟨m + 1, by omega, by go_num, by rw [HE.out]; simpa [OwnI] using HO1.out, HB1.out⟩
            case measure => simp [intOf]; omega
    · obtain rfl : m = 999 := by omega
      go_wp2
      go_ret
      exact ⟨_, rfl, by rw [← dkTo_all]; exact HOWN.out.mono (by omega), bover HB.out (by omega)⟩
end Go.Proofs.YtamjmejkffhmeaaGreatDoor
