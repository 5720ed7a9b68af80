/-
  Contract: slices.BinarySearchFunc at api.Reg with hold.With's second closure.
-/
import Derived.Test.YtclhmpknkinjcaaRep
namespace Go.Proofs.Ytclhmpknkinjcaa
open Go.RowKit

theorem with2_any (x y who : Int) (w : World) (hx : 0 ≤ x ∧ x ≤ 1000) (hw : 0 ≤ who ∧ who ≤ 1000) :
    Calls Try.prog 121 #[.agg #[.int .i64 x, .int .i64 y], .int .i64 who] w fun e w' => e = .returned (.int .i64 (x - who)) ∧ Below w.heap.size w w' := by
  obtain ⟨hx1, hx2⟩ := hx
  obtain ⟨hw1, hw2⟩ := hw
  go_enter Try.func121, Try.ntmps121
  go_wp2
  go_ret
  exact ⟨rfl, bal w _⟩

set_option maxHeartbeats 1000000 in
set_option maxRecDepth 100000 in
theorem binsearch_any (l : List (Int × Int)) (a : Option Addr) (cap : Nat) (who : Int) (w : World) (hl : l.length ≤ 1000) (hr : Pairs w.heap.size w a l) (hw : 0 ≤ who ∧ who ≤ 1000) (hb : ∀ r ∈ l, 0 ≤ r.1 ∧ r.1 ≤ 1000) (hs : l.Pairwise (fun a b => a.1 < b.1)) :
    Calls Try.prog 120 #[.slice a l.length cap, .int .i64 who, .func (.func 121) #[] #[]] w fun e w' =>
      ∃ (i : Nat) (f : Bool), e = .returned (.tuple #[.int .i64 i, .bool f]) ∧ i ≤ l.length ∧ (∀ j (h : j < l.length), j < i → l[j].1 < who) ∧ (∀ j (h : j < l.length), i ≤ j → who ≤ l[j].1) ∧ Below w.heap.size w w' := by
  have HS := Lib.hid hs
  have HB := Lib.hid hb
  clear hs hb
  have HW := Lib.hid hw
  obtain ⟨hw1, hw2⟩ := hw
  go_enter Try.func120, Try.ntmps120
  go_wp2
  go_loopw [9, 10] (fun i j wr => ∃ p q : Nat, p ≤ q ∧ q ≤ l.length ∧ i = .int .i64 p ∧ j = .int .i64 q ∧ (∀ m (h : m < l.length), m < p → l[m].1 < who) ∧ (∀ m (h : m < l.length), q ≤ m → who ≤ l[m].1) ∧ Below w.heap.size w wr) (fun i j _ => (intOf j).toNat - (intOf i).toNat)
  case atStart => exact ⟨0, l.length, by omega, by omega, rfl, rfl, fun m h h2 => absurd h2 (by omega), fun m h h2 => absurd h (by omega), Below.refl _ _⟩
  case round =>
    obtain ⟨p, q, hpq, hq, rfl, rfl, hlo, hhi, hbw⟩ := hrel
    have HLO := Lib.hid hlo
    have HHI := Lib.hid hhi
    clear hlo hhi
    have hsz := hbw.size
    by_cases hlt : p < q
    · have hm : (p + q) / 2 < l.length := by omega
      obtain ⟨b, o, rfl, hbs, h1, h2⟩ := hr ((p + q) / 2) hm
      have c1 := (hbw.cell (p := ⟨b, o + (p + q) / 2 * 2, none⟩) hbs).trans h1
      have c2 := (hbw.cell (p := ⟨b, o + (p + q) / 2 * 2 + 1, none⟩) hbs).trans h2
      have hbd := HB.out _ (List.getElem_mem hm)
      clear hr h1 h2
      go_wp2_with fail
      refine (with2_any _ _ who _ hbd HW.out).mono ?_
      rintro e w1 ⟨rfl, hb1⟩
      have hb2 := hbw.trans (hb1.mono hsz)
      have HS2 := Lib.hid (List.pairwise_iff_getElem.1 HS.out)
      by_cases hv : l[(p + q) / 2].1 - who < 0
      · go_wp2
        go_roundw
        case rel =>
          refine ⟨(p + q) / 2 + 1, q, by omega, by omega, by go_num, rfl, fun m h hm2 => ?_, HHI.out, hb2⟩
          rcases (by omega : m < (p + q) / 2 ∨ m = (p + q) / 2) with h3 | h3
          · have := HS2.out m ((p + q) / 2) h hm h3; omega
          · subst h3; omega
        case measure => simp [intOf]; omega
      · go_wp2
        go_roundw
        case rel =>
          refine ⟨p, (p + q) / 2, by omega, by omega, rfl, by go_num, HLO.out, fun m h hm2 => ?_, hb2⟩
          rcases (by omega : (p + q) / 2 < m ∨ m = (p + q) / 2) with h3 | h3
          · have := HS2.out ((p + q) / 2) m hm h h3; omega
          · subst h3; omega
        case measure => simp [intOf]; omega
    · obtain rfl : p = q := by omega
      by_cases hn : p < l.length
      · obtain ⟨b, o, rfl, hbs, h1, h2⟩ := hr p hn
        have c1 := (hbw.cell (p := ⟨b, o + p * 2, none⟩) hbs).trans h1
        have c2 := (hbw.cell (p := ⟨b, o + p * 2 + 1, none⟩) hbs).trans h2
        have hbd := HB.out _ (List.getElem_mem hn)
        clear hr h1 h2
        go_wp2_with fail
        refine (with2_any _ _ who _ hbd HW.out).mono ?_
        rintro e w1 ⟨rfl, hb1⟩
        have hb2 := hbw.trans (hb1.mono hsz)
        go_wp2
        go_ret2
        exact ⟨p, _, rfl, by omega, HLO.out, HHI.out, hb2⟩
      · go_wp2
        go_ret2
        exact ⟨p, _, rfl, by omega, HLO.out, HHI.out, hbw⟩
end Go.Proofs.Ytclhmpknkinjcaa
