/-
  TopKeeper: whatever is kept, and at whatever step the disk falls: behind that the keeper has what was kept last, or what was being kept, and it goes on. For all acts, any fuse, any bits kept; the tables of Go's library that are read are tied to the program's text.
-/
import Derived.Test.YtkedmlkbepjnfaaGreatDoorTopKeeper
import Derived.Test.YtkedmlkbepjnfaaGreatDoorOpen
import Derived.Test.YtkedmlkbepjnfaaGreatDoorActs
import Derived.Test.YtkedmlkbepjnfaaGreatDoorLaid
import Derived.Test.YtkedmlkbepjnfaaGreatDoorCards
import Derived.ChangeVars
import Derived.JoinedOf
import Derived.LaidMore
import Derived.LaidHandle
import Derived.Lay
import Derived.Stop.Joined
import Derived.SevenTiedAt
namespace Go.Proofs.YtkedmlkbepjnfaaGreatDoor.topKeeperLaw
open Go.ChangeShapes Go.WideShapes Go.ChangeAt Go.RowKit

theorem e_iface : ∃ ms, Tryz.prog.underlying 27 = some (.interface ms) := by
  have h : (match Tryz.prog.underlying 27 with | some (.interface _) => true | _ => false) = true := by kernel_rfl
  revert h
  cases Tryz.prog.underlying 27 with
  | none => intro h; cases h
  | some d => cases d <;> intro h <;> first | exact ⟨_, rfl⟩ | cases h
theorem tabs_of {W : World} (hL : laidMetH Tryz.prog Rows.topKeeperRow.laid W) (hS : W.ShapedOpen Tryz.prog) : Tabs W := by
  have hl : laidMet Tryz.prog Rows.topKeeperRow.laid W := by rw [MakeChecks.laidMetH_plain _ _ _ (by kernel_rfl)] at hL; exact hL
  obtain ⟨ms, hi⟩ := e_iface
  exact ⟨Lib.tabIs_of_head (zs := Lib.pow10Tab) (t := 164) (e := 38) (n := 20) g_pow (by kernel_rfl) (by kernel_rfl) (by kernel_rfl) (by kernel_rfl) (by kernel_rfl) hl.tail.tail,
    int_var (t := 3) (zero := #[.int .i64 0]) hS g_mx (by decide +kernel) (by kernel_rfl) (by kernel_rfl) (by kernel_rfl) (by kernel_rfl) (by kernel_rfl),
    iface_var hl.tail.tail.tail.tail.tail g_syn (by kernel_rfl) hi,
    iface_var hl.tail.tail.tail.tail g_ran (by kernel_rfl) hi,
    shape_low hS 7 (by decide +kernel) (by kernel_rfl)⟩

set_option linter.unusedVariables false in
set_option maxRecDepth 100000 in
theorem lifted (os : Os) (started : os.Started) (H : Type) (enc : TypeId × Value → H) :
    ReturnsInHanded {} Tryz.checked os 4 .any (fun w args => (Rows.topKeeperSpec.pre enc Tryz.prog Tryz.f4 [] false w args ∧ laidMetH Tryz.prog Rows.topKeeperRow.laid w) ∧ sizedMet enc Tryz.prog Tryz.f4 (OpenSpec.ofChange Rows.topKeeperSpec) false w args)
      (Rows.topKeeperSpec.post enc Tryz.prog Tryz.f4 false true false false) := by
  refine returnsInHanded_laidShape (C := Tryz.checked) (X := fun w _ => laidMetH Tryz.prog Rows.topKeeperRow.laid w) (fun _ _ _ hh h => h.of_heap hh) own started (by kernel_rfl) Tryz.func4
    (ChangeSpec.witness_shaped (enc := enc) (C := Tryz.checked) (os := os) (X := fun w _ => laidMetH Tryz.prog Rows.topKeeperRow.laid w) false (World.laidAll Tryz.prog os Rows.topKeeperRow.laid) #[.slice none 0 0, .int .i64 0, .int .u64 0] 8 (World.laidAll_os _ _ _) (World.shaped_of_ZipB (by kernel_rfl) (by kernel_rfl)) (by kernel_rfl) (by kernel_rfl) (by kernel_rfl) (by rw [MakeChecks.laidMetH_plain _ _ _ (by kernel_rfl)]; exact laidMet_laidAll _ (by kernel_rfl) (by kernel_rfl))) ?_
  intro W base args ds gs before hval0 hW hL hS
  have hval : ∀ (j : Nat) t v, Tryz.f4.params[j]? = some t → args[j]? = some v → Value.okWide Tryz.prog W .any base t v := hval0
  have hW' := hW
  obtain ⟨p, q, hA0, hV, rfl, hfz, hnd⟩ := hW
  have hA : DataW.TrodAll enc Tryz.prog W 0 (fun _ => true) true Tryz.f4.params.toList args.toList ds p := hA0
  rw [Tryz.params4] at hA hval
  obtain ⟨v0, vs0, d0, ds0, p0, q0, hargs, rfl, rfl, h0, r0⟩ := trodAll_cons hA
  obtain ⟨v1, vs1, d1, ds1, p1, q1, rfl, rfl, rfl, h1, r1⟩ := trodAll_cons r0
  obtain ⟨v2, vs2, d2, ds2, p2, q2, rfl, rfl, rfl, h2, r2⟩ := trodAll_cons r1
  obtain ⟨rfl, rfl, rfl⟩ := trodAll_nil r2
  obtain rfl : args = #[v0, v1, v2] := by cases args; simp_all
  obtain ⟨rfl, rfl⟩ := trodVars_none hV
  obtain ⟨l0, a0, cap0, rfl, hl0⟩ := open_acts (hval 0 _ v0 rfl rfl) h0
  obtain ⟨i1, rfl, rfl, rfl, w1⟩ := open_int Tryz.underlying3 (hval 1 _ v1 rfl rfl) h1
  obtain ⟨i2, rfl, rfl, rfl, w2⟩ := open_int Tryz.underlying38 (hval 2 _ v2 rfl rfl) h2
  refine (topkeeper_walk l0 a0 cap0 i1 i2 W hl0.1 hl0.2 (tabs_of hL hS)).mono fun e W' ⟨he, hb⟩ => ?_
  subst he
  exact ⟨_, rfl, post_true laidOut hW' rfl rfl Tryz.underlying4 (by decide +kernel) rfl hb⟩

theorem over : Rows.TopKeeperSaid :=
  OpenClaim.holds_of_wide 4 Tryz.f4 rfl rfl rfl rfl rfl rfl rfl ⟨rfl, rfl, rfl, rfl, rfl⟩ rfl rfl rfl rfl rfl (by kernel_rfl) Tryz.func4 (by kernel_rfl)
    (of_decide_eq_true (by kernel_rfl)) (by unfold Func.isWrapper; first | (rw [if_pos (by decide +kernel)]; kernel_rfl) | (rw [if_neg (by decide +kernel)]; exact ⟨rfl, rfl⟩))
    (fun os started H enc _ => lifted os started H enc)

theorem proved : Rows.TopKeeperCardSaid :=
  Claim7.holds_tied_plain_at .later [] [.data, .data, .data, .data, .sentinel, .sentinel, .pinned] true (true, "af4561acd6fd9071304a67f9b9dd05606306eef0f42bff031b4c3dff797e4324") true
    over (fun _ h => by cases h) (by kernel_rfl) (fun _ h => by cases h) topKeeper_row_tie rfl ⟨rfl, rfl⟩ (by kernel_rfl) rfl
    (fun f fn hf hfn => by
      obtain rfl : f = 4 := Option.some.inj ((show Tryz.prog.funcNamed "kissinggate/kissinggatetop.TopKeeper" = some 4 by kernel_rfl).symm.trans hf) |>.symm
      obtain rfl : fn = Tryz.f4 := (Option.some.inj (Tryz.func4.symm.trans hfn)).symm
      exact ⟨by kernel_rfl, fun j t ht => by
        rw [Tryz.params4] at ht
        rcases j with _ | _ | _ | j
        · simp at ht; subst ht; kernel_rfl
        · simp at ht; subst ht; kernel_rfl
        · simp at ht; subst ht; kernel_rfl
        · simp at ht⟩)
    (by kernel_rfl)
end Go.Proofs.YtkedmlkbepjnfaaGreatDoor.topKeeperLaw
