/-
  Contract: the document's TypeMay.
-/
import Derived.Test.YtamjmejkffhmeaaGreatDoorRep
namespace Go.Proofs.YtamjmejkffhmeaaGreatDoor
open Go.RowKit

theorem typemay_any (n : Int) (w : World) :
    Calls Tryz.prog 22 #[.int .i64 n] w fun e w' => e = .returned (.bool (typeMay n)) ∧ w = w' := by
  by_cases h1 : n = 1
  · subst h1
    go_enter Tryz.func22, Tryz.ntmps22
    go_wp2
    go_ret
    exact ⟨rfl, rfl⟩
  by_cases h3 : n = 3
  · subst h3
    go_enter Tryz.func22, Tryz.ntmps22
    go_wp2
    go_ret
    exact ⟨rfl, rfl⟩
  have h1b : (n == 1) = false := by simp [h1]
  have h3b : (n == 3) = false := by simp [h3]
  by_cases h5 : 5 ≤ n
  · by_cases h8 : n ≤ 8
    · go_enter Tryz.func22, Tryz.ntmps22
      go_wp2
      go_ret
      exact ⟨ret_bool (decide_eq_true (by omega)).symm, rfl⟩
    · go_enter Tryz.func22, Tryz.ntmps22
      go_wp2
      go_ret
      exact ⟨ret_bool (decide_eq_false (by omega)).symm, rfl⟩
  · go_enter Tryz.func22, Tryz.ntmps22
    go_wp2
    go_ret
    exact ⟨ret_bool (decide_eq_false (by omega)).symm, rfl⟩
end Go.Proofs.YtamjmejkffhmeaaGreatDoor
