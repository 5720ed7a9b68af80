/-
  Contracts: strings.IndexByte; strings.ContainsFunc over 'no small letter'; the document's small.
-/
import Derived.Test.YtclhmpknkinjcaaRep
import Derived.Laws.Externs
import Derived.Lib.Bytealg
import Derived.Lib.OthersKept
import Derived.Deep.LoopGhost
namespace Go.Proofs.Ytclhmpknkinjcaa
open Go.RowKit

set_option maxRecDepth 100000 in
theorem liteIndexByte_any (s : ByteArray) (c : Int) (w : World) :
    Calls Try.prog 130 #[.string s, .int .u8 c] w fun e w' => e = .returned (.int .i64 (Lib.indexByte s.data.toList c.toNat.toUInt8)) ∧ w' = w := by
  go_enter Try.func130, Try.ntmps130
  go_wp2
  rw [run_callFunc_extern Try.func133 (by kernel_rfl) (by kernel_rfl) (by kernel_rfl) (e := Extern.BytealgIndexByte.indexByte) (by kernel_rfl), Lib.run_indexByteString]
  simp only [Result.andThen]
  rw [Oper.upon_value]
  go_wp2
  go_ret
  exact ⟨rfl, rfl⟩
theorem indexByte_any (s : ByteArray) (c : Int) (w : World) :
    Calls Try.prog 123 #[.string s, .int .u8 c] w fun e w' => e = .returned (.int .i64 (Lib.indexByte s.data.toList c.toNat.toUInt8)) ∧ w' = w := by
  go_enter Try.func123, Try.ntmps123
  go_wp2_with fail
  refine (liteIndexByte_any s c _).mono ?_
  rintro e w' ⟨rfl, rfl⟩
  go_wp2
  go_ret
  exact ⟨rfl, rfl⟩

/-- small letters alone -/
def smallB (s : ByteArray) : Bool := s.data.toList.all fun b => decide (97 ≤ b.toNat ∧ b.toNat ≤ 122)
theorem small_at {s : ByteArray} {k : Nat} (h : k < s.size) (hb : ¬ (97 ≤ s[k].toNat ∧ s[k].toNat ≤ 122)) : smallB s = false := by
  unfold smallB
  rw [List.all_eq_false]
  exact ⟨s[k], by rw [show s[k] = s.data.toList[k]'(by simpa using h) from rfl]; exact List.getElem_mem _, by simpa using hb⟩
theorem small_all {s : ByteArray} (h : ∀ j (hj : j < s.size), 97 ≤ s[j].toNat ∧ s[j].toNat ≤ 122) : smallB s = true := by
  unfold smallB
  rw [List.all_eq_true]
  intro x hx
  obtain ⟨j, hj, rfl⟩ := List.getElem_of_mem hx
  exact decide_eq_true (h j (by simpa using hj))

theorem decode_high {s : ByteArray} {k : Nat} (h : k < s.size) (hb : ¬ s[k].toNat < 128) : 128 ≤ (Utf8.decode s k).1 := by
  have e : (s.get! k) = s[k] := by cases s with | mk d => exact getElem!_pos d k h
  unfold Utf8.decode
  simp only [Nat.add_zero, e]
  rw [if_neg hb]
  unfold Utf8.runeError
  repeat' split
  all_goals ((try simp only [Bool.and_eq_true, decide_eq_true_eq] at *); (try dsimp only at *); omega)

def badRune (r : Int) : Bool := decide (r < 97 ∨ 122 < r)
theorem check1_any (r : Int) (w : World) :
    Calls Try.prog 113 #[.int .i32 r] w fun e w' => e = .returned (.bool (badRune r)) ∧ w' = w := by
  by_cases h : r < 97
  · have hb := Lib.hid (show badRune r = true from by simp [badRune, h])
    go_enter Try.func113, Try.ntmps113
    go_wp2
    go_ret
    exact ⟨ret_bool hb.out.symm, rfl⟩
  · have hb := Lib.hid (show badRune r = decide (122 < r) from by simp [badRune, h])
    go_enter Try.func113, Try.ntmps113
    go_wp2
    go_ret
    exact ⟨ret_bool hb.out.symm, rfl⟩

def IdxPost (s : ByteArray) (w : World) (e : Ending) (w' : World) : Prop := ∃ i : Int, e = .returned (.int .i64 i) ∧ (decide (0 ≤ i) = !smallB s) ∧ Below w.heap.size w w'

set_option maxRecDepth 100000 in
set_option maxHeartbeats 1000000 in
theorem indexFunc_any (s : ByteArray) (w : World) :
    Calls Try.prog 131 #[.string s, .func (.func 113) #[] #[], .bool true] w (IdxPost s w) := by
  go_enter Try.func131, Try.ntmps131
  go_wp2
  go_loopg [] s.size (fun gf wx => ∃ pos : Nat, wx.heap[w.heap.size]? = some (.stringIter s pos) ∧ Below w.heap.size w wx ∧ (∀ j (hj : j < s.size), j < pos → 97 ≤ s[j].toNat ∧ s[j].toNat ≤ 122) ∧ s.size = pos + gf)
  case atStart => exact ⟨0, World.iter_heap w s 0, (Below.refl _ w).alloc (Nat.le_refl _) _, fun j hj h => by omega, by omega⟩
  case round =>
    obtain ⟨pos, hit, hbw, hleft, hfu⟩ := hrel
    have HL := Lib.hid hleft
    clear hleft
    by_cases hps : pos < s.size
    · obtain ⟨g', rfl⟩ : ∃ g', gk = g' + 1 := ⟨gk - 1, by omega⟩
      have hnx : ∀ ty, (Instr.next (.pointer (some ⟨w.heap.size, 0, none⟩)) true ty).run Try.prog wr = _ := fun ty => Lib.run_next_any_at wr w.heap.size s pos ty hit hps
      have hasc : s[pos].toNat < 128 → Utf8.decode s pos = (s[pos].toNat, 1) := decode_ascii s pos hps
      have hhi : ¬ s[pos].toNat < 128 → 128 ≤ (Utf8.decode s pos).1 := decode_high hps
      obtain ⟨R, hR⟩ : ∃ R, (Utf8.decode s pos).1 = R := ⟨_, rfl⟩
      obtain ⟨K, hK⟩ : ∃ K, (Utf8.decode s pos).2 = K := ⟨_, rfl⟩
      rw [hR, hK] at hnx
      rw [hR] at hhi
      have hit2 := Lib.iterAt_heap wr w.heap.size s pos (pos + K) hit
      have hbw2 := Lib.below_iterAt hbw (k := w.heap.size) (Nat.le_refl _) s (pos + K)
      obtain ⟨W, hWd⟩ : ∃ W, wr.iterAt w.heap.size s (pos + K) = W := ⟨_, rfl⟩
      rw [hWd] at hnx hit2 hbw2
      by_cases hb : 97 ≤ s[pos].toNat ∧ s[pos].toNat ≤ 122
      · have hd := hasc (by omega)
        rw [hd] at hR hK
        dsimp only at hR hK
        subst hR hK
        have HB := Lib.hid (show badRune (s[pos].toNat : Int) = false from by simp [badRune]; omega)
        have HN := Lib.hid (show ∀ j (hj : j < s.size), j < pos + 1 → 97 ≤ s[j].toNat ∧ s[j].toNat ≤ 122 from fun j hj h => by
          rcases (by omega : j < pos ∨ j = pos) with h | rfl
          · exact HL.out j hj h
          · exact hb)
        have HI := Lib.hid hit2
        have HW := Lib.hid hbw2
        clear hd hasc hhi hit hbw hit2 hbw2 hWd
        go_wp2_with fail
        refine (check1_any _ _).mono ?_
        rintro e W' ⟨rfl, rfl⟩
        rw [HB.out]
        go_wp2_with fail
        go_roundg g'
        case measure => omega
        case rel => exact ⟨pos + 1, HI.out, HW.out, HN.out, by omega⟩
      · have HB := Lib.hid (show badRune (R : Int) = true from by
          by_cases ha : s[pos].toNat < 128
          · have hd := hasc ha
            rw [hd] at hR
            dsimp only at hR
            subst hR
            simp [badRune]; omega
          · have := hhi ha
            simp [badRune]; omega)
        have HF := Lib.hid (small_at hps hb)
        have HI := Lib.hid hit2
        have HW := Lib.hid hbw2
        clear hasc hhi hit hbw hit2 hbw2 hWd hR hK hb
        go_wp2_with fail
        refine (check1_any _ _).mono ?_
        rintro e W' ⟨rfl, rfl⟩
        rw [HB.out]
        go_wp2
        go_ret
        exact ⟨_, rfl, by rw [HF.out]; simp, HW.out⟩
    · have hnx : ∀ ty, (Instr.next (.pointer (some ⟨w.heap.size, 0, none⟩)) true ty).run Try.prog wr = _ := fun ty => Lib.run_next_end_at wr w.heap.size s pos ty hit hps
      have HF := Lib.hid (show smallB s = true from small_all (fun j hj => HL.out j hj (by omega)))
      have HW := Lib.hid hbw
      clear hbw
      go_wp2
      go_ret
      exact ⟨_, rfl, by rw [HF.out]; simp, HW.out⟩

theorem containsFunc_any (s : ByteArray) (w : World) :
    Calls Try.prog 112 #[.string s, .func (.func 113) #[] #[]] w fun e w' => e = .returned (.bool (!smallB s)) ∧ Below w.heap.size w w' := by
  have idx : Calls Try.prog 125 #[.string s, .func (.func 113) #[] #[]] w (IdxPost s w) := by
    go_enter Try.func125, Try.ntmps125
    go_wp2_with fail
    refine (indexFunc_any s _).mono ?_
    rintro e w1 ⟨i, rfl, h1, h2⟩
    have H1 := Lib.hid h1
    clear h1
    go_wp2
    go_ret
    exact ⟨_, rfl, H1.out, h2⟩
  have IDX := Lib.hid idx
  clear idx
  go_enter Try.func112, Try.ntmps112
  go_wp2_with fail
  refine IDX.out.mono ?_
  rintro e w1 ⟨i, rfl, h1, h2⟩
  have H1 := Lib.hid h1
  clear h1
  go_wp2
  go_ret
  exact ⟨ret_bool H1.out, h2⟩

set_option maxHeartbeats 1000000 in
theorem small_any (s : ByteArray) (w : World) (hs : s.size ≤ 9223372036854775807) :
    Calls Try.prog 86 #[.string s] w fun e w' => e = .returned (.bool (smallB s)) ∧ w' = w := by
  go_enter Try.func86, Try.ntmps86
  go_wp2
  go_loop [3] (fun i => ∃ k : Nat, k ≤ s.size ∧ i = .int .i64 k ∧ ∀ j (hj : j < s.size), j < k → 97 ≤ s[j].toNat ∧ s[j].toNat ≤ 122) (fun i => s.size - (intOf i).toNat)
  case atStart => exact ⟨0, by omega, rfl, fun j hj h => by omega⟩
  case round =>
    obtain ⟨k, hk, rfl, hK⟩ := hrel
    have HK := Lib.hid hK
    clear hK
    by_cases hlt : k < s.size
    · by_cases hb : 97 ≤ s[k].toNat ∧ s[k].toNat ≤ 122
      · have HN := Lib.hid (show ∀ j (hj : j < s.size), j < k + 1 → 97 ≤ s[j].toNat ∧ s[j].toNat ≤ 122 from fun j hj h => by
          rcases (by omega : j < k ∨ j = k) with h | rfl
          · exact HK.out j hj h
          · exact hb)
        have b1 : ¬ ((s[k].toNat : Int) < 97) := by omega
        have b2 : ¬ (122 < (s[k].toNat : Int)) := by omega
        clear hb
        go_wp2
        go_round
        case rel => exact ⟨k + 1, by omega, by go_num, HN.out⟩
        case measure => simp [intOf]; omega
      · have HF := Lib.hid (small_at hlt hb)
        by_cases b1 : (s[k].toNat : Int) < 97
        · clear hb
          go_wp2
          go_ret
          exact ⟨ret_bool HF.out.symm, rfl⟩
        · have b2 : 122 < (s[k].toNat : Int) := by omega
          clear hb
          go_wp2
          go_ret
          exact ⟨ret_bool HF.out.symm, rfl⟩
    · have HF := Lib.hid (show smallB s = true from small_all (fun j hj => HK.out j hj (by omega)))
      go_wp2
      go_ret
      exact ⟨ret_bool HF.out.symm, rfl⟩
end Go.Proofs.Ytclhmpknkinjcaa
