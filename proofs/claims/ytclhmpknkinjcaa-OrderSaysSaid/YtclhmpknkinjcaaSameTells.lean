/-
  Contract: SameTells of two lists that are the same: true.
-/
import Derived.Test.YtclhmpknkinjcaaTold
namespace Go.Proofs.Ytclhmpknkinjcaa
open Go.RowKit

set_option maxHeartbeats 1000000 in
set_option maxRecDepth 100000 in
theorem sametells_true (l : List (Int × Int)) (a b : Option Addr) (c d : Nat) (w : World) (hl : l.length ≤ maxLen) (ha : Pairs w.heap.size w a l) (hb : Pairs w.heap.size w b l) :
    Calls Try.prog 62 #[.slice a l.length c, .slice b l.length d] w fun e w' => e = .returned (.bool true) ∧ Below w.heap.size w w' := by
  unfold maxLen at hl
  have q5 : ((l.length : Int) != (l.length : Int)) = false := by simp
  go_enter Try.func62, Try.ntmps62
  go_wp2
  go_loopw [5] (fun i wr => ∃ k : Nat, k ≤ l.length ∧ i = .int .i64 k ∧ Below w.heap.size w wr) (fun i _ => l.length - (intOf i).toNat)
  case atStart => exact ⟨0, by omega, rfl, Below.refl _ _⟩
  case round =>
    obtain ⟨k, hk, rfl, hbw⟩ := hrel
    by_cases hlt : k < l.length
    · obtain ⟨b1, o1, rfl, hs1, h11, h12⟩ := ha k hlt
      obtain ⟨b2, o2, rfl, hs2, h21, h22⟩ := hb k hlt
      have c11 := (hbw.cell (p := ⟨b1, o1 + k * 2, none⟩) hs1).trans h11
      have c12 := (hbw.cell (p := ⟨b1, o1 + k * 2 + 1, none⟩) hs1).trans h12
      have c21 := (hbw.cell (p := ⟨b2, o2 + k * 2, none⟩) hs2).trans h21
      have c22 := (hbw.cell (p := ⟨b2, o2 + k * 2 + 1, none⟩) hs2).trans h22
      clear ha hb h11 h12 h21 h22
      go_wp2
      go_quiet (fail)
      go_wp2
      go_roundw
      case rel => exact ⟨k + 1, by omega, by go_num, below_drewN hbw _⟩
      case measure => simp [intOf]; omega
    · go_wp2
      go_ret
      exact ⟨rfl, hbw⟩
end Go.Proofs.Ytclhmpknkinjcaa
