/-
  TopReport: a state that may be is read again from its text, as it was. For every state; the tables of Go's library that are read are tied to the program's text.
-/
import Derived.Test.YtkedmlkbepjnfaaDoorTopReport
import Derived.Test.YtkedmlkbepjnfaaDoorOpen
import Derived.Test.YtkedmlkbepjnfaaDoorLaid
import Derived.Test.YtkedmlkbepjnfaaDoorCards
import Derived.ChangeVars
import Derived.JoinedOf
import Derived.LaidMore
import Derived.LaidHandle
import Derived.Lay
import Derived.Stop.Joined
import Derived.SevenTiedAt
namespace Go.Proofs.YtkedmlkbepjnfaaDoor.topReportLaw
open Go.ChangeShapes Go.WideShapes Go.ChangeAt Go.RowKit

theorem e_iface : ∃ ms, Tryd.prog.underlying 27 = some (.interface ms) := by
  have h : (match Tryd.prog.underlying 27 with | some (.interface _) => true | _ => false) = true := by kernel_rfl
  revert h
  cases Tryd.prog.underlying 27 with
  | none => intro h; cases h
  | some d => cases d <;> intro h <;> first | exact ⟨_, rfl⟩ | cases h
theorem tabs_of {W : World} (hL : laidMetH Tryd.prog Rows.topReportRow.laid W) (hS : W.ShapedOpen Tryd.prog) : Tabs W := by
  have hl : laidMet Tryd.prog Rows.topReportRow.laid W := by rw [MakeChecks.laidMetH_plain _ _ _ (by kernel_rfl)] at hL; exact hL
  obtain ⟨ms, hi⟩ := e_iface
  exact ⟨Lib.tabIs_of_head (zs := Lib.pow10Tab) (t := 89) (e := 69) (n := 20) g_pow (by kernel_rfl) (by kernel_rfl) (by kernel_rfl) (by kernel_rfl) (by kernel_rfl) hl.tail.tail,
    int_var (t := 3) (zero := #[.int .i64 0]) hS g_mx (by decide +kernel) (by kernel_rfl) (by kernel_rfl) (by kernel_rfl) (by kernel_rfl) (by kernel_rfl),
    iface_var hl.tail.tail.tail.tail.tail g_syn (by kernel_rfl) hi,
    iface_var hl.tail.tail.tail.tail g_ran (by kernel_rfl) hi,
    shape_low hS 7 (by decide +kernel) (by kernel_rfl)⟩

set_option linter.unusedVariables false in
set_option maxRecDepth 100000 in
theorem lifted (os : Os) (started : os.Started) (H : Type) (enc : TypeId × Value → H) :
    ReturnsInHanded {} Tryd.checked os 4 .any (fun w args => (Rows.topReportSpec.pre enc Tryd.prog Tryd.f4 [] false w args ∧ laidMetH Tryd.prog Rows.topReportRow.laid w) ∧ sizedMet enc Tryd.prog Tryd.f4 (OpenSpec.ofChange Rows.topReportSpec) false w args)
      (Rows.topReportSpec.post enc Tryd.prog Tryd.f4 false true false false) := by
  refine returnsInHanded_laidShape (C := Tryd.checked) (X := fun w _ => laidMetH Tryd.prog Rows.topReportRow.laid w) (fun _ _ _ hh h => h.of_heap hh) own started (by kernel_rfl) Tryd.func4
    (ChangeSpec.witness_shaped (enc := enc) (C := Tryd.checked) (os := os) (X := fun w _ => laidMetH Tryd.prog Rows.topReportRow.laid w) false (World.laidAll Tryd.prog os Rows.topReportRow.laid) #[.agg #[.int .i64 0, .slice none 0 0, .int .i64 0, .int .i64 0, .bool false]] 8 (World.laidAll_os _ _ _) (World.shaped_of_ZipB (by kernel_rfl) (by kernel_rfl)) (by kernel_rfl) (by kernel_rfl) (by kernel_rfl) (by rw [MakeChecks.laidMetH_plain _ _ _ (by kernel_rfl)]; exact laidMet_laidAll _ (by kernel_rfl) (by kernel_rfl))) ?_
  intro W base args ds gs before hval0 hW hL hS
  have hval : ∀ (j : Nat) t v, Tryd.f4.params[j]? = some t → args[j]? = some v → Value.okWide Tryd.prog W .any base t v := hval0
  have hW' := hW
  obtain ⟨p, q, hA0, hV, rfl, hfz, hnd⟩ := hW
  have hA : DataW.TrodAll enc Tryd.prog W 0 (fun _ => true) true Tryd.f4.params.toList args.toList ds p := hA0
  rw [Tryd.params4] at hA hval
  obtain ⟨v0, vs0, d0, ds0, p0, q0, hargs, rfl, rfl, h0, r0⟩ := trodAll_cons hA
  obtain ⟨rfl, rfl, rfl⟩ := trodAll_nil r0
  obtain rfl : args = #[v0] := by cases args; simp_all
  obtain ⟨rfl, rfl⟩ := trodVars_none hV
  obtain ⟨s0, a0, cap0, rfl, hs0⟩ := open_state (hval 0 _ v0 rfl rfl) h0
  refine (topreport_walk s0 a0 cap0 W hs0 (tabs_of hL hS)).mono fun e W' ⟨he, hb⟩ => ?_
  subst he
  exact ⟨_, rfl, post_true laidOut hW' rfl rfl Tryd.underlying4 (by decide +kernel) rfl hb⟩

theorem over : Rows.TopReportSaid :=
  OpenClaim.holds_of_wide 4 Tryd.f4 rfl rfl rfl rfl rfl rfl rfl ⟨rfl, rfl, rfl, rfl, rfl⟩ rfl rfl rfl rfl rfl (by kernel_rfl) Tryd.func4 (by kernel_rfl)
    (of_decide_eq_true (by kernel_rfl)) (by unfold Func.isWrapper; first | (rw [if_pos (by decide +kernel)]; kernel_rfl) | (rw [if_neg (by decide +kernel)]; exact ⟨rfl, rfl⟩))
    (fun os started H enc _ => lifted os started H enc)

theorem proved : Rows.TopReportCardSaid :=
  Claim7.holds_tied_plain_at .later [] [.data, .data, .data, .data, .sentinel, .sentinel, .pinned] true (true, "c569759215ce0a22322b46e6d7204337e5c574f3c63a256c1dd0535fd8a21e69") true
    over (fun _ h => by cases h) (by kernel_rfl) (fun _ h => by cases h) topReport_row_tie rfl ⟨rfl, rfl⟩ (by kernel_rfl) rfl
    (fun f fn hf hfn => by
      obtain rfl : f = 4 := Option.some.inj ((show Tryd.prog.funcNamed "kissinggate/kissinggatetop.TopReport" = some 4 by kernel_rfl).symm.trans hf) |>.symm
      obtain rfl : fn = Tryd.f4 := (Option.some.inj (Tryd.func4.symm.trans hfn)).symm
      exact ⟨by kernel_rfl, fun j t ht => by
        rw [Tryd.params4] at ht
        rcases j with _ | j
        · simp at ht; subst ht; kernel_rfl
        · simp at ht⟩)
    (by kernel_rfl)
end Go.Proofs.YtkedmlkbepjnfaaDoor.topReportLaw
