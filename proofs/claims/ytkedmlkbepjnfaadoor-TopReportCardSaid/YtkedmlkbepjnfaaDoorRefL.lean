/-
  Contract: LightState.
-/
import Derived.Test.YtkedmlkbepjnfaaDoorRep
namespace Go.Proofs.YtkedmlkbepjnfaaDoor
open Go.RowKit

theorem light_any (s : St) (a : Option Addr) (cap : Nat) (w : World) :
    Calls Tryd.prog 9 #[stV s a cap] w fun e w' => e = .returned (.bool (decide (s.regs.length ≤ 6))) ∧ Below w.heap.size w w' := by
  obtain ⟨g, l, t, h, st⟩ := s
  go_enter Tryd.func9, Tryd.ntmps9
  go_wp2
  go_ret
  exact ⟨ret_bool (by simp; omega), bal w _⟩
end Go.Proofs.YtkedmlkbepjnfaaDoor
