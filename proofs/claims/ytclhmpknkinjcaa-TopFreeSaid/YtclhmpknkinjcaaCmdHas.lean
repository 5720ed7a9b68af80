/-
  Contracts: code.parts, code.has; the plain fault of a command.
-/
import Derived.Test.YtclhmpknkinjcaaLetters
import Derived.Test.YtclhmpknkinjcaaOrdPlain
namespace Go.Proofs.Ytclhmpknkinjcaa
open Go.RowKit

def partsL (op : Nat) : List UInt8 :=
  match op with
  | 1 => [107, 110, 115]
  | 2 => [107, 110, 115]
  | 3 => [107, 116]
  | 4 => [107, 116]
  | 5 => [107]
  | 6 => [107, 110, 116]
  | 7 => [97]
  | 8 => [97, 100]
  | 9 => [97, 100, 119]
  | _ => []

set_option maxHeartbeats 1000000 in
theorem parts_any (n : Nat) (h : 1 ≤ n ∧ n ≤ 9) (w : World) :
    Calls Try.prog 124 #[.int .i64 n] w fun e w' => e = .returned (.string ⟨(partsL n).toArray⟩) ∧ Below w.heap.size w w' := by
  rcases (by omega : n = 1 ∨ n = 2 ∨ n = 3 ∨ n = 4 ∨ n = 5 ∨ n = 6 ∨ n = 7 ∨ n = 8 ∨ n = 9) with rfl | rfl | rfl | rfl | rfl | rfl | rfl | rfl | rfl
  all_goals
    go_enter Try.func124, Try.ntmps124
    go_wp2
    go_ret
    exact ⟨rfl, bal w _⟩

def hasB (n : Nat) (p : UInt8) : Bool := decide (0 ≤ Lib.indexByte (partsL n) p)

theorem has_any (n : Nat) (h : 1 ≤ n ∧ n ≤ 9) (c : Int) (p : UInt8) (hc : c.toNat.toUInt8 = p) (w : World) :
    Calls Try.prog 111 #[.int .i64 n, .int .u8 c] w fun e w' => e = .returned (.bool (hasB n p)) ∧ Below w.heap.size w w' := by
  have HC := Lib.hid hc
  clear hc
  go_enter Try.func111, Try.ntmps111
  go_wp2_with fail
  refine (parts_any n h _).mono ?_
  rintro e w1 ⟨rfl, b1⟩
  go_wp2_with fail
  refine (indexByte_any _ c _).mono ?_
  rintro e w2 ⟨rfl, rfl⟩
  rw [HC.out]
  go_wp2
  go_ret
  exact ⟨ret_bool rfl, b1⟩
end Go.Proofs.Ytclhmpknkinjcaa
