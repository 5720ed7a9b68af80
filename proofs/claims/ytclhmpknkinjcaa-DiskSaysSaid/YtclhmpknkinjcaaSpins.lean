/-
  The closed fact 'spins'.
-/
import Derived.Test.YtclhmpknkinjcaaDiskN
import Derived.Test.YtclhmpknkinjcaaSameErr
namespace Go.Proofs.Ytclhmpknkinjcaa
open Go.RowKit

def xyB : ByteArray := ⟨#[120, 121]⟩
def sp1 : Dk := (Dk.new 3).write 3 1 xyB
def sp2 : Dk := sp1.flush
def sp3 : Dk := sp2.restart 0
theorem sp_ok : sp1.ok 3 ∧ sp2.ok 3 ∧ sp3.ok 3 := by
  have h0 : (Dk.new 3).ok 3 := Dk.new_ok (by omega)
  have h1 : sp1.ok 3 := Dk.write_ok h0 _ _
  have h2 : sp2.ok 3 := by
    have e : sp2 = { sp1 with kept := sp1.now, wait := [] } := rfl
    rw [e]
    exact ⟨h1.n40, h1.nl, h1.nl, (fun _ hr => by cases hr), h1.fu, h1.fm⟩
  exact ⟨h1, h2, Dk.restart_ok h2 0⟩
theorem sp_f : (Dk.new 3).writeF 3 1 xyB = 0 ∧ sp1.steps = true ∧ sp3.readF 3 1 = 0 ∧ sp3.readS 3 1 = fullB xyB ∧ sp1.wait.length ≤ 1000 ∧ sp2.wait.length ≤ 1000 := by decide +kernel
theorem xy_f : (fullB xyB).size = 64 ∧ (fullB xyB).extract 0 2 = xyB := by decide +kernel

set_option maxRecDepth 100000 in
set_option maxHeartbeats 1000000 in
theorem spins_any (w : World) : Calls Try.prog 39 #[] w fun e w' => e = .returned (.bool true) ∧ Below w.heap.size w w' := by
  go_enter Try.func39, Try.ntmps39
  go_wp2_with fail
  refine (dnew_any 3 _ (by omega)).mono ?_
  rintro e w1 ⟨D, rfl, dk, b1⟩
  have A1 := Lib.hid dk
  have B1 := Lib.hid b1
  clear dk b1
  go_wp2_with fail
  refine (dwrite_any _ _ D 3 (Dk.new 3) 1 xyB A1.out (Dk.new_ok (by omega)) (by decide)).mono ?_
  rintro e w2 ⟨rfl, dk, kp⟩
  rw [sp_f.1, errV_nil]
  have A2 := Lib.hid (show DkAt (made w w2) w2 144 148 D 3 sp1 from dk.mono (fun k hk => by
    rcases hk with h | h
    · exact ⟨h.1, Nat.lt_of_lt_of_le h.2 kp.size⟩
    · exact ⟨Nat.le_trans B1.out.size h.1, h.2⟩))
  have B2 := Lib.hid (B1.out.trans (kp.below B1.out.size (fun m hm => hm.1)))
  clear dk kp A1 B1
  go_wp2_with fail
  refine (dflush_any _ _ D 3 sp1 A2.out sp_ok.1).mono ?_
  rintro e w3 ⟨rfl, dk, kp⟩
  rw [sp_f.2.1, if_pos rfl, errV_nil]
  have A3 := Lib.hid (show DkAt (made w w2) w3 144 148 D 3 sp2 from dk)
  have B3 := Lib.hid (B2.out.trans (kp.below B2.out.size (fun m hm => hm.1)))
  clear dk kp A2 B2
  go_wp2_with fail
  refine (drestart_any _ _ D 3 sp2 0 A3.out sp_ok.2.1 sp_f.2.2.2.2.2).mono ?_
  rintro e w4 ⟨rfl, dk, kp⟩
  have A4 := Lib.hid (show DkAt (made w w2) w4 144 148 D 3 sp3 from dk)
  have B4 := Lib.hid (B3.out.trans (kp.below B3.out.size (fun m hm => hm.1)))
  clear dk kp A3 B3
  go_wp2_with fail
  refine (dread_any _ _ D 3 sp3 1 A4.out sp_ok.2.2).mono ?_
  rintro e w5 ⟨rfl, rfl⟩
  rw [sp_f.2.2.1, sp_f.2.2.2.1, errV_nil]
  obtain ⟨F, hF⟩ : ∃ F, fullB xyB = F := ⟨_, rfl⟩
  have hs : F.size = 64 := hF ▸ xy_f.1
  have he : F.extract 0 2 = xyB := hF ▸ xy_f.2
  rw [hF]
  clear hF
  go_wp2_with fail
  refine (same_any 0 0 _ (by omega) (by omega)).mono ?_
  rintro e w6 ⟨rfl, b6⟩
  rw [decide_eq_true (show (0 : Int) = 0 from rfl)]
  have A6 := Lib.hid (A4.out.below b6)
  have B6 := Lib.hid (B4.out.trans (b6.mono B4.out.size))
  clear b6 A4 B4
  go_wp2_with fail
  refine (same_any 0 0 _ (by omega) (by omega)).mono ?_
  rintro e w7 ⟨rfl, b7⟩
  rw [decide_eq_true (show (0 : Int) = 0 from rfl)]
  have A7 := Lib.hid (A6.out.below b7)
  have B7 := Lib.hid (B6.out.trans (b7.mono B6.out.size))
  clear b7 A6 B6
  go_wp2_with fail
  refine (same_any 0 0 _ (by omega) (by omega)).mono ?_
  rintro e w8 ⟨rfl, b8⟩
  rw [decide_eq_true (show (0 : Int) = 0 from rfl)]
  have A8 := Lib.hid (A7.out.below b8)
  have B8 := Lib.hid (B7.out.trans (b8.mono B7.out.size))
  clear b8 A7 B7
  have hxy : (xyB.toList == [120, 121]) = true := by rw [show xyB.toList = [120, 121] from by rw [ByteArray.toList_eq]; rfl]; rfl
  go_wp2_with fail
  refine (dsectors_any _ _ D 3 sp3 A8.out).mono ?_
  rintro e w9 ⟨rfl, rfl⟩
  go_wp2
  go_ret
  exact ⟨rfl, B8.out⟩
end Go.Proofs.Ytclhmpknkinjcaa
