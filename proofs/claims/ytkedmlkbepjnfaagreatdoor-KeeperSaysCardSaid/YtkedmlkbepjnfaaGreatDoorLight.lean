/-
  Contracts: LightCommand, LightState.
-/
import Derived.Test.YtkedmlkbepjnfaaGreatDoorCmdV
import Derived.Test.YtkedmlkbepjnfaaGreatDoorRefL
namespace Go.Proofs.YtkedmlkbepjnfaaGreatDoor
open Go.RowKit Go.Sort

def lightB (c : Cmd) : Bool := decide (c.data.size ≤ 20) && decide (c.want.size ≤ 20)
theorem lightC_any (c : Cmd) (w : World) :
    Calls Tryz.prog 22 #[cmdV c] w fun e w' => e = .returned (.bool (lightB c)) ∧ Below w.heap.size w w' := by
  obtain ⟨op, who, key, new, typ, at_, stays, data, want⟩ := c
  by_cases h : (data.size : Int) ≤ 20
  · have HB := Lib.hid (show lightB ⟨op, who, key, new, typ, at_, stays, data, want⟩ = decide ((want.size : Int) ≤ 20) from by unfold lightB; rw [decide_eq_true (show (data.size ≤ 20) from by omega), Bool.true_and]; exact decide_eq_decide.2 (by dsimp only; omega))
    go_enter Tryz.func22, Tryz.ntmps22
    go_wp2
    go_ret
    exact ⟨ret_bool HB.out.symm, bal w _⟩
  · have HB := Lib.hid (show lightB ⟨op, who, key, new, typ, at_, stays, data, want⟩ = false from by unfold lightB; rw [decide_eq_false (fun e => h (by have e' : data.size ≤ 20 := e; omega))]; rfl)
    go_enter Tryz.func22, Tryz.ntmps22
    go_wp2
    go_ret
    exact ⟨ret_bool HB.out.symm, bal w _⟩
theorem light_x (s : St) (a : Option Addr) (cap : Nat) (w : World) (b : Bool) (h : decide (s.regs.length ≤ 6) = b) :
    Calls Tryz.prog 21 #[stV s a cap] w fun e w' => e = .returned (.bool b) ∧ Below w.heap.size w w' := by
  subst h; exact light_any s a cap w
theorem lightC_x (c : Cmd) (w : World) (b : Bool) (h : lightB c = b) :
    Calls Tryz.prog 22 #[cmdV c] w fun e w' => e = .returned (.bool b) ∧ Below w.heap.size w w' := by
  subst h; exact lightC_any c w
end Go.Proofs.YtkedmlkbepjnfaaGreatDoor
