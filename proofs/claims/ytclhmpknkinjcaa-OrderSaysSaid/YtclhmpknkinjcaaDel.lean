/-
  Contracts: hold.With's first closure, slices.IndexFunc and DeleteFunc with it.
-/
import Derived.Test.YtclhmpknkinjcaaOwn
import Derived.Test.YtclhmpknkinjcaaType
import Derived.Laws.CopyRow
namespace Go.Proofs.Ytclhmpknkinjcaa
open Go.RowKit

theorem with1_any (x y who : Int) (b o : Nat) (w : World) (hp : w.cell? ⟨b, o, none⟩ = some (.int .i64 who)) :
    Calls Try.prog 119 #[.agg #[.int .i64 x, .int .i64 y], .pointer (some ⟨b, o, none⟩)] w fun e w' => e = .returned (.bool (x == who)) ∧ Below w.heap.size w w' := by
  have hb : b < w.heap.size := block_lt_of_cell hp
  go_enter Try.func119, Try.ntmps119
  go_wp2
  go_ret
  exact ⟨rfl, bal w _⟩

theorem indexfunc_any (l : List (Int × Int)) (a : Option Addr) (cap : Nat) (who : Int) (b o : Nat) (w : World) (hl : l.length ≤ maxLen) (hr : Pairs w.heap.size w a l) (hp : w.cell? ⟨b, o, none⟩ = some (.int .i64 who)) :
    Calls Try.prog 127 #[.slice a l.length cap, .func (.func 119) #[] #[.pointer (some ⟨b, o, none⟩)]] w fun e w' => e = .returned (.int .i64 (placeOf who (l.map (·.1)))) ∧ Below w.heap.size w w' := by
  unfold maxLen at hl
  have hb : b < w.heap.size := block_lt_of_cell hp
  go_enter Try.func127, Try.ntmps127
  go_wp2
  go_loopw [8] (fun i wr => ∃ k : Nat, k ≤ l.length ∧ i = .int .i64 k ∧ (∀ j (_ : j < k) (hj : j < l.length), l[j].1 ≠ who) ∧ Below w.heap.size w wr) (fun i _ => l.length - (intOf i).toNat)
  case atStart => exact ⟨0, by omega, rfl, fun j h => absurd h (by omega), Below.refl _ _⟩
  case round =>
    obtain ⟨k, hk, rfl, hK, hbw⟩ := hrel
    have HK := Lib.hid hK; clear hK
    have hs := hbw.size
    by_cases hlt : k < l.length
    · obtain ⟨b', o', rfl, hbs, h1, h2⟩ := hr k hlt
      have c1 := (hbw.cell (p := ⟨b', o' + k * 2, none⟩) hbs).trans h1
      have c2 := (hbw.cell (p := ⟨b', o' + k * 2 + 1, none⟩) hbs).trans h2
      have cp := (hbw.cell (p := ⟨b, o, none⟩) hb).trans hp
      clear hr
      go_wp2_with fail
      refine (with1_any _ _ who b o _ cp).mono ?_
      rintro e w1 ⟨rfl, hb1⟩
      have hb2 := hbw.trans (hb1.mono hs)
      by_cases hv : l[k].1 = who
      · have hvb : (l[k].1 == who) = true := by simp [hv]
        have hpl := placeOf_at who (l.map (·.1)) k (by simpa using hlt) (by simpa using hv) (fun j hj => by simpa using HK.out j hj (by omega))
        have HP := Lib.hid hpl
        clear hpl hv
        go_wp2
        go_ret
        exact ⟨ret_int HP.out.symm, hb2⟩
      · have hvb : (l[k].1 == who) = false := by simp [hv]
        have hn : ∀ j (_ : j < k + 1) (hj : j < l.length), l[j].1 ≠ who := by
          intro j h1 h2
          by_cases e : j = k
          · subst e; exact hv
          · exact HK.out j (by omega) h2
        have HN := Lib.hid hn
        clear hn hv
        go_wp2
        go_roundw
        case rel => exact ⟨k + 1, by omega, by go_num, HN.out, hb2⟩
        case measure => simp [intOf]; omega
    · have hpl : placeOf who (l.map (·.1)) = -1 := placeOf_none who _ (fun hm => by
        obtain ⟨r, hr', e⟩ := List.mem_map.1 hm
        obtain ⟨j, hj, e2⟩ := List.getElem_of_mem hr'
        exact HK.out j (by omega) hj (by rw [e2]; exact e))
      have HP := Lib.hid hpl
      clear hpl
      go_wp2
      go_ret
      exact ⟨ret_int HP.out.symm, hbw⟩
end Go.Proofs.Ytclhmpknkinjcaa
