/-
  Contract: same (an error by its number), and the closed fact 'holds'.
-/
import Derived.Test.YtamjmejkffhmeaaGreatDoorCheck
import Derived.LaidEql
namespace Go.Proofs.YtamjmejkffhmeaaGreatDoor
open Go.RowKit

theorem assert_errno (w : World) (v : Value) : (Instr.typeAssert (.iface 43 v) 28 43 true).run Tryz.prog w = .ok (.tuple #[v, .bool true]) w := by kernel_rfl

set_option maxRecDepth 100000 in
theorem same_any (f g : Int) (w : World) (hf : 0 ≤ f) (hg : 0 ≤ g) :
    Calls Tryz.prog 8 #[errV f, .int .i64 g] w fun e w' => e = .returned (.bool (decide (f = g))) ∧ Below w.heap.size w w' := by
  rcases (by omega : f = 0 ∨ f ≠ 0) with rfl | h0
  · rw [errV_nil]
    rcases (by omega : g = 0 ∨ g ≠ 0) with rfl | he
    · go_enter Tryz.func8, Tryz.ntmps8
      go_wp2
      go_ret
      exact ⟨rfl, Below.refl _ _⟩
    · have q : (g == 0) = false := by simp [he]
      have HE := Lib.hid he
      clear he
      go_enter Tryz.func8, Tryz.ntmps8
      go_wp2
      go_ret
      exact ⟨ret_bool (by have := HE.out; symm; rw [decide_eq_false_iff_not]; omega), Below.refl _ _⟩
  · rw [errV_some h0]
    have H0 := Lib.hid h0
    have hta := fun w => assert_errno w (.int .i64 f)
    clear h0
    rcases (by omega : g ≤ 0 ∨ 0 < g) with hz | hz
    · go_enter Tryz.func8, Tryz.ntmps8
      go_wp2
      go_ret
      exact ⟨ret_bool (by have := H0.out; symm; rw [decide_eq_false_iff_not]; omega), Below.refl _ _⟩
    · rcases (by omega : f = g ∨ f ≠ g) with he | he
      · subst he
        have q : (f == f) = true := by simp
        go_enter Tryz.func8, Tryz.ntmps8
        go_wp2
        go_ret
        exact ⟨ret_bool (by simp), Below.refl _ _⟩
      · have q : (f == g) = false := by simp [he]
        have HE := Lib.hid he
        clear he
        go_enter Tryz.func8, Tryz.ntmps8
        go_wp2
        go_ret
        exact ⟨ret_bool (by have := HE.out; symm; rw [decide_eq_false_iff_not]; exact this), Below.refl _ _⟩
end Go.Proofs.YtamjmejkffhmeaaGreatDoor
