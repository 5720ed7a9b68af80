/-
  Contracts: the disks' step, both.
-/
import Derived.Test.YtkedmlkbepjnfaaGreatDoorDiskF
import Derived.ChangeAlike
namespace Go.Proofs.YtkedmlkbepjnfaaGreatDoor
open Go.RowKit

theorem max_step (f : Int) (h : -1 ≤ f) : (if 0 < f then f - 1 else -1) = max (f - 1) (-1) := by
  split <;> omega

set_option maxRecDepth 100000 in
theorem step_any (w : World) (D K N ck cn n : Nat) (wv : Value) (d : Dk) (h : DkR w 65 78 D K N ck cn wv n d) (hf : -1 ≤ d.fuse ∧ d.fuse ≤ 9223372036854775807) :
    Calls Tryz.prog 43 #[.pointer (some ⟨D, 0, none⟩)] w fun e w' => e = .returned (errV (if d.steps then 0 else 10)) ∧ DkR w' 65 78 D K N ck cn wv n d.step ∧ Keeps (· = D) w w' := by
  obtain ⟨kept, now, wait, f, b⟩ := d
  have H := Lib.hid h
  obtain ⟨⟨c0, c1, c2, c3, c4⟩, f0, f1, f2, f3, f4⟩ := h.cells
  dsimp only at c3 c4 hf
  clear h
  cases b
  · by_cases hz : f = 0
    · subst hz
      have H2 := Lib.hid ((H.out.setD true).setF (-1))
      have KP := Lib.hid (((Keeps.refl (· = D) w).setCell (p := ⟨D, 4, none⟩) rfl (.bool true)).setCell (p := ⟨D, 3, none⟩) rfl (.int .i64 (-1)))
      clear hf
      go_enter Tryz.func43, Tryz.ntmps43
      go_wp2
      go_ret
      exact ⟨rfl, H2.out, KP.out⟩
    · have H2 := Lib.hid (H.out.setF (max (f - 1) (-1)))
      have KP := Lib.hid ((Keeps.refl (· = D) w).setCell (p := ⟨D, 3, none⟩) rfl (.int .i64 (max (f - 1) (-1))))
      have q1 : IntKind.i64.wrap (f - 1) = f - 1 := IntWalk.i64_in _ (by omega)
      have q2 : (f == 0) = false := by simp [hz]
      have HS := Lib.hid (show Dk.step ⟨kept, now, wait, f, false⟩ = ⟨kept, now, wait, max (f - 1) (-1), false⟩ from by
        unfold Dk.step
        rw [if_neg (by simp), if_neg hz, ← max_step f hf.1])
      have HT := Lib.hid (show Dk.steps ⟨kept, now, wait, f, false⟩ = true from by unfold Dk.steps; simp [hz])
      clear hf
      rw [HS.out, HT.out]
      clear hz HS HT
      go_enter Tryz.func43, Tryz.ntmps43
      go_wp2
      go_ret
      exact ⟨rfl, H2.out, KP.out⟩
  · clear hf
    go_enter Tryz.func43, Tryz.ntmps43
    go_wp2
    go_ret
    exact ⟨rfl, H.out, Keeps.refl _ _⟩

end Go.Proofs.YtkedmlkbepjnfaaGreatDoor
