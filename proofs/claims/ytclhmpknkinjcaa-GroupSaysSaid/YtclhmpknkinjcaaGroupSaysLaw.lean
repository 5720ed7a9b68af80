/-
  GroupSays: the statement, for every argument.
-/
import Derived.Test.YtclhmpknkinjcaaGroupSays
import Derived.Test.YtclhmpknkinjcaaOpen
import Derived.Test.YtclhmpknkinjcaaFact1
import Derived.Test.YtclhmpknkinjcaaActs
namespace Go.Proofs.Ytclhmpknkinjcaa.groupSaysLaw
open Go.ChangeShapes Go.WideShapes Go.ChangeAt Go.RowKit

set_option linter.unusedVariables false in
set_option maxRecDepth 100000 in
theorem lifted (os : Os) (started : os.Started) (H : Type) (enc : TypeId × Value → H) :
    ReturnsInHanded {} Try.checked os 4 .any (Rows.groupSaysSpec.pre6 enc Try.prog Try.f4 Rows.groupSaysRow.domain false) (Rows.groupSaysSpec.post enc Try.prog Try.f4 false true false false) := by
  refine returnsInHanded_of_change (C := Try.checked) own started (by kernel_rfl) Try.func4
    (ChangeSpec.witness6 (enc := enc) (C := Try.checked) false ⟨#[], #[.slice none 0 0], []⟩ 8 (by kernel_rfl) (by kernel_rfl) (by kernel_rfl) (by kernel_rfl)) ?_
  intro W base args ds gs before hval0 hW hcnd _
  have hval : ∀ (j : Nat) t v, Try.f4.params[j]? = some t → args[j]? = some v → Value.okWide Try.prog W .any base t v := hval0
  have hW' := hW
  obtain ⟨p, q, hA0, hV, rfl, hfz, hnd⟩ := hW
  have hA : DataW.TrodAll enc Try.prog W 0 (fun _ => true) true Try.f4.params.toList args.toList ds p := hA0
  rw [Try.params4] at hA hval
  obtain ⟨v0, vs0, d0, ds0, p0, q0, hargs, rfl, rfl, h0, r0⟩ := trodAll_cons hA
  obtain ⟨rfl, rfl, rfl⟩ := trodAll_nil r0
  obtain rfl : args = #[v0] := by cases args; simp_all
  obtain ⟨rfl, rfl⟩ := trodVars_none hV
  obtain ⟨l0, a0, cap0, rfl, hl0⟩ := open_acts (hval 0 _ v0 rfl rfl) h0
  refine (groupsays_walk l0 a0 cap0 _ hl0.1 hl0.2).mono fun e W' ⟨he, hb⟩ => ?_
  subst he
  exact ⟨_, rfl, post_true laidOut hW' rfl rfl Try.underlying4 (by decide +kernel) rfl hb⟩

set_option maxHeartbeats 4000000 in
theorem closed : joinedFacts Try.pinned.checked.prog 4 Try.f4 Rows.groupSaysSpec Rows.groupSaysRow = true := by
  unfold joinedFacts
  repeat' (with_reducible refine and_mk ?_ ?_)
  · as_aux_lemma => kernel_rfl
  · exact fact.laid
  · exact fact.mapsRowed_
  iterate 3 (focus (as_aux_lemma => kernel_rfl))
  · exact fact.stops_
  · as_aux_lemma => kernel_rfl
  · exact fact.stopKnobs_
  iterate 13 (focus (as_aux_lemma => kernel_rfl))
  · exact fact.plainKeys_
  · as_aux_lemma => kernel_rfl
  · exact fact.stopsHeard_
  · exact fact.mayEnter_
  · exact fact.liftsFinal_
  · exact fact.make_
  iterate 4 (focus (as_aux_lemma => kernel_rfl))

theorem over : Rows.groupSaysRow.holds Try.pinned (OpenSpec.ofChange Rows.groupSaysSpec) :=
  OpenClaim.holds_of_wide 4 Try.f4 rfl rfl rfl rfl rfl rfl rfl ⟨rfl, rfl, rfl, rfl, rfl⟩ rfl rfl rfl rfl rfl (by kernel_rfl) Try.func4 closed
    (of_decide_eq_true (by kernel_rfl)) (by unfold Func.isWrapper; first | (rw [if_pos (by decide +kernel)]; kernel_rfl) | (rw [if_neg (by decide +kernel)]; exact ⟨rfl, rfl⟩))
    (fun os started H enc _ => lifted os started H enc)

theorem proved : Rows.GroupSaysSaid :=
  over
end Go.Proofs.Ytclhmpknkinjcaa.groupSaysLaw
