/-
  Contract: LightState.
-/
import Derived.Test.YtamjmejkffhmeaaGreatDoorRep
namespace Go.Proofs.YtamjmejkffhmeaaGreatDoor
open Go.RowKit

theorem light_any (s : St) (a : Option Addr) (cap : Nat) (w : World) :
    Calls Tryz.prog 5 #[stV s a cap] w fun e w' => e = .returned (.bool (decide (s.regs.length ≤ 6))) ∧ Below w.heap.size w w' := by
  obtain ⟨g, l, t, h, st⟩ := s
  go_enter Tryz.func5, Tryz.ntmps5
  go_wp2
  go_ret
  exact ⟨ret_bool (by simp; omega), bal w _⟩
end Go.Proofs.YtamjmejkffhmeaaGreatDoor
