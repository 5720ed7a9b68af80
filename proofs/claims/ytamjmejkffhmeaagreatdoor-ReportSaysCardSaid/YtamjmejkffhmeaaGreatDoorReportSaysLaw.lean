/-
  ReportSays: whatever text is read, it is read as the document says; and the text and the keys of a state that may be are those of the document. For every state and every text; the tables of the library that are read are tied to the text of the program.
-/
import Derived.Test.YtamjmejkffhmeaaGreatDoorRsSays
import Derived.Test.YtamjmejkffhmeaaGreatDoorRow
import Derived.Test.YtamjmejkffhmeaaGreatDoorFact1
import Derived.Test.YtamjmejkffhmeaaGreatDoorOpen
import Derived.Test.YtamjmejkffhmeaaGreatDoorLaid
import Derived.Test.YtamjmejkffhmeaaGreatDoorCards
import Derived.ChangeVars
import Derived.JoinedOf
import Derived.LaidMore
import Derived.LaidHandle
import Derived.Lay
import Derived.Stop.Joined
import Derived.SevenTiedAt
import Derived.ChangeMaps5
namespace Go.Proofs.YtamjmejkffhmeaaGreatDoor.reportSaysLaw
open Go.ChangeShapes Go.WideShapes Go.ChangeAt Go.RowKit Go.ChangeMaps

theorem e_iface : ∃ ms, Tryz.prog.underlying 28 = some (.interface ms) := by
  have h : (match Tryz.prog.underlying 28 with | some (.interface _) => true | _ => false) = true := by kernel_rfl
  revert h
  cases Tryz.prog.underlying 28 with
  | none => intro h; cases h
  | some d => cases d <;> intro h <;> first | exact ⟨_, rfl⟩ | cases h
theorem tabs_of {W : World} (hL : laidMetH Tryz.prog Rows.reportSaysRow.laid W) (hS : W.ShapedOpen Tryz.prog) : Tabs W := by
  have hl : laidMet Tryz.prog Rows.reportSaysRow.laid W := by rw [MakeChecks.laidMetH_plain _ _ _ (by kernel_rfl)] at hL; exact hL
  obtain ⟨ms, hi⟩ := e_iface
  exact ⟨Lib.tabIs_of_head (zs := Lib.pow10Tab) (t := 125) (e := 91) (n := 20) g_pow (by kernel_rfl) (by kernel_rfl) (by kernel_rfl) (by kernel_rfl) (by kernel_rfl) hl.tail.tail,
    int_var (t := 3) (zero := #[.int .i64 0]) hS g_mx (by decide +kernel) (by kernel_rfl) (by kernel_rfl) (by kernel_rfl) (by kernel_rfl) (by kernel_rfl),
    iface_var hl.tail.tail.tail.tail.tail g_syn (by kernel_rfl) hi,
    iface_var hl.tail.tail.tail.tail g_ran (by kernel_rfl) hi,
    shape_low hS 7 (by decide +kernel) (by kernel_rfl)⟩

set_option linter.unusedVariables false in
set_option maxRecDepth 100000 in
theorem lifted (os : Os) (started : os.Started) (H : Type) (enc : TypeId × Value → H) :
    ReturnsInHanded {} Tryz.checked os 3 .any (fun w args => (Rows.reportSaysSpec.pre enc Tryz.prog Tryz.f3 [] false w args ∧ laidMetH Tryz.prog Rows.reportSaysRow.laid w) ∧ sizedMet enc Tryz.prog Tryz.f3 (OpenSpec.ofChange Rows.reportSaysSpec) false w args)
      (Rows.reportSaysSpec.post enc Tryz.prog Tryz.f3 false true false false) := by
  refine returnsInHanded_laidShape (C := Tryz.checked) (X := fun w _ => laidMetH Tryz.prog Rows.reportSaysRow.laid w) (fun _ _ _ hh h => h.of_heap hh) own started (by kernel_rfl) Tryz.func3
    (ChangeSpec.witness_shaped (enc := enc) (C := Tryz.checked) (os := os) (X := fun w _ => laidMetH Tryz.prog Rows.reportSaysRow.laid w) false (World.laidAll Tryz.prog os Rows.reportSaysRow.laid) #[.agg #[.int .i64 0, .slice none 0 0, .int .i64 0, .int .i64 0, .bool false], .string ByteArray.empty] 8 (World.laidAll_os _ _ _) (World.shaped_of_ZipB (by kernel_rfl) (by kernel_rfl)) (by kernel_rfl) (by kernel_rfl) (by kernel_rfl) (by rw [MakeChecks.laidMetH_plain _ _ _ (by kernel_rfl)]; exact laidMet_laidAll _ (by kernel_rfl) (by kernel_rfl))) ?_
  intro W base args ds gs before hval0 hW hL hS
  have hval : ∀ (j : Nat) t v, Tryz.f3.params[j]? = some t → args[j]? = some v → Value.okWide Tryz.prog W .any base t v := hval0
  have hW' := hW
  obtain ⟨p, q, hA0, hV, rfl, hfz, hnd⟩ := hW
  have hA : DataW.TrodAll enc Tryz.prog W 0 (fun _ => true) true Tryz.f3.params.toList args.toList ds p := hA0
  rw [Tryz.params3] at hA hval
  obtain ⟨v0, vs0, d0, ds0, p0, q0, hargs, rfl, rfl, h0, r0⟩ := trodAll_cons hA
  obtain ⟨v1, vs1, d1, ds1, p1, q1, rfl, rfl, rfl, h1, r1⟩ := trodAll_cons r0
  obtain ⟨rfl, rfl, rfl⟩ := trodAll_nil r1
  obtain rfl : args = #[v0, v1] := by cases args; simp_all
  obtain ⟨rfl, rfl⟩ := trodVars_none hV
  obtain ⟨s0, a0, cap0, rfl, hs0⟩ := open_state (hval 0 _ v0 rfl rfl) h0
  obtain ⟨g1, rfl, rfl, rfl, hg1⟩ := open_string Tryz.underlying9 (hval 1 _ v1 rfl rfl) h1
  refine (reportsays_walk s0 a0 cap0 g1 W hs0 (tabs_of hL hS) (by have := hg1; unfold maxLen at this; omega)).mono fun e W' ⟨he, hb⟩ => ?_
  subst he
  exact ⟨_, rfl, post_true laidOut hW' rfl rfl Tryz.underlying4 (by decide +kernel) rfl hb⟩

set_option maxHeartbeats 4000000 in
theorem closed : joinedFacts Tryz.pinned.checked.prog 3 Tryz.f3 Rows.reportSaysSpec Rows.reportSaysRow = true := by
  unfold joinedFacts
  repeat' (with_reducible refine and_mk ?_ ?_)
  · as_aux_lemma => kernel_rfl
  · exact fact.laid
  · exact fact.mapsRowed_
  iterate 3 (focus (as_aux_lemma => kernel_rfl))
  · exact fact.stops_
  · as_aux_lemma => kernel_rfl
  · exact fact.stopKnobs_
  iterate 13 (focus (as_aux_lemma => kernel_rfl))
  · exact fact.plainKeys_
  · as_aux_lemma => kernel_rfl
  · exact fact.stopsHeard_
  · exact fact.mayEnter_
  · exact fact.liftsFinal_
  · exact fact.make_
  iterate 4 (focus (as_aux_lemma => kernel_rfl))

theorem over : Rows.ReportSaysSaid :=
  OpenClaim.holds_of_wide 3 Tryz.f3 rfl rfl rfl rfl rfl rfl rfl ⟨rfl, rfl, rfl, rfl, rfl⟩ rfl rfl rfl rfl rfl (by kernel_rfl) Tryz.func3 closed
    (of_decide_eq_true (by kernel_rfl)) (by unfold Func.isWrapper; first | (rw [if_pos (by decide +kernel)]; kernel_rfl) | (rw [if_neg (by decide +kernel)]; exact ⟨rfl, rfl⟩))
    (fun os started H enc _ => lifted os started H enc)

theorem proved : Rows.ReportSaysCardSaid :=
  Claim7.holds_tied_plain_at .later [] [.data, .data, .data, .data, .sentinel, .sentinel, .pinned] true (true, "8d8995b0f4def86e6a6c6f4876d2a28087f7de85b044dca6e0ca4519790e2771") true
    over (fun _ h => by cases h) (by kernel_rfl) (fun _ h => by cases h) reportSays_row_tie rfl ⟨rfl, rfl⟩ (by kernel_rfl) rfl
    (fun f fn hf hfn => by
      obtain rfl : f = 3 := Option.some.inj ((show Tryz.prog.funcNamed "kissinggate/kissinggatelaw.ReportSays" = some 3 by kernel_rfl).symm.trans hf) |>.symm
      obtain rfl : fn = Tryz.f3 := (Option.some.inj (Tryz.func3.symm.trans hfn)).symm
      exact ⟨by kernel_rfl, fun j t ht => by
        rw [Tryz.params3] at ht
        rcases j with _ | _ | j
        · simp at ht; subst ht; kernel_rfl
        · simp at ht; subst ht; kernel_rfl
        · simp at ht⟩)
    (by kernel_rfl)
end Go.Proofs.YtamjmejkffhmeaaGreatDoor.reportSaysLaw
