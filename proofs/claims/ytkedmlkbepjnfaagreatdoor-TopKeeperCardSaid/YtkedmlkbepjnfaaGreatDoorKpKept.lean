/-
  Contracts: Kept; number of an error.
-/
import Derived.Test.YtkedmlkbepjnfaaGreatDoorKpI
import Derived.Test.YtkedmlkbepjnfaaGreatDoorTkPlain
import Derived.Test.YtkedmlkbepjnfaaGreatDoorSameErr
namespace Go.Proofs.YtkedmlkbepjnfaaGreatDoor
open Go.RowKit

def KeptPost (w : World) (e : Ending) (w' : World) : Prop :=
  ∃ D K d, e = .returned (.tuple #[.pointer (some ⟨D, 0, none⟩), .pointer (some ⟨K, 0, none⟩), .bool true]) ∧ KI 10 w (fun _ => False) D K ⟨d, 1, 1, sNone⟩ w' ∧ KG 10 ⟨d, 1, 1, sNone⟩ ∧ Live d
set_option maxRecDepth 100000 in
set_option maxHeartbeats 4000000 in
theorem kept_any (w : World) (t : Tabs w) : Calls Tryz.prog 16 #[] w fun e w' => KeptPost w e w' := by
  have TT := Lib.hid t
  have NEW := Lib.hid (dnew_any 10 w (by omega))
  clear t
  go_enter Tryz.func16, Tryz.ntmps16
  go_wp2_with fail
  refine NEW.out.mono ?_
  rintro e w1 ⟨D, rfl, dk, b1⟩
  have FMT := Lib.hid (format_any (made w w1) w1 D 10 (Dk.new 10) dk ⟨rfl, rfl⟩ (Dk.new_ok (by omega)) (Sz.new 10) (by omega) (by show (0 : Nat) ≤ 800; omega) (fun b e => e.2) (Nat.le_trans TT.out.low b1.size)
    (fun w' kp => TT.out.on (b1.trans (kp.below b1.size (fun k e => e.1)))))
  have HB1 := Lib.hid b1
  clear dk b1 NEW
  go_wp2_with fail
  refine FMT.out.mono ?_
  rintro e w2 ⟨rfl, d, S, dk, kd, lv, sz, sub, lt, kp⟩
  have B2 := Lib.hid (show Below w.heap.size w w2 from HB1.out.trans (kp.below HB1.out.size (fun k e => e.1)))
  have LO := Lib.hid (show ∀ b, S b → w.heap.size ≤ b from fun b e => by
    rcases sub b e with e | e
    · exact e.1
    · exact Nat.le_trans HB1.out.size e.1)
  have OPEN := Lib.hid (open_kd S w2 D 10 d 1 1 sNone dk lt kd sz (TT.out.on B2.out))
  have KGD := Lib.hid (show KG 10 ⟨d, 1, 1, sNone⟩ from ⟨kd, sz⟩)
  have LV := Lib.hid lv
  clear dk kd lv sz sub lt kp FMT
  go_wp2_with fail
  refine OPEN.out.mono ?_
  rintro e w3 ⟨K, a, cap, rfl, kr, hK, b3, fr⟩
  have P := Lib.hid (show KI 10 w (fun _ => False) D K ⟨d, 1, 1, sNone⟩ w3 from ⟨S, a, cap, kr, LO.out, Nat.le_trans B2.out.size hK, B2.out.trans (b3.mono B2.out.size), fun b h => h.elim, fun _ _ _ _ h => h⟩)
  clear kr b3 fr OPEN
  go_wp2
  exact bodyPost_ret (v := .tuple #[.pointer (some ⟨D, 0, none⟩), .pointer (some ⟨K, 0, none⟩), .bool true]) (by simp [results, Tryz.results16, go_sem]) rfl ⟨D, K, d, rfl, P.out, KGD.out, LV.out⟩
set_option maxRecDepth 100000 in
theorem number_nil (w : World) : Calls Tryz.prog 19 #[.nilIface] w fun e w' => e = .returned (.int .i64 0) ∧ Below w.heap.size w w' := by
  go_enter Tryz.func19, Tryz.ntmps19
  go_wp2
  go_ret
  exact ⟨rfl, Below.refl _ _⟩
set_option maxRecDepth 100000 in
theorem number_down (w : World) : Calls Tryz.prog 19 #[.iface 58 (.int .i64 10)] w fun e w' => e = .returned (.int .i64 10) ∧ Below w.heap.size w w' := by
  have hta := fun w => assert_errno w (.int .i64 10)
  go_enter Tryz.func19, Tryz.ntmps19
  go_wp2
  go_ret
  exact ⟨rfl, Below.refl _ _⟩
end Go.Proofs.YtkedmlkbepjnfaaGreatDoor
