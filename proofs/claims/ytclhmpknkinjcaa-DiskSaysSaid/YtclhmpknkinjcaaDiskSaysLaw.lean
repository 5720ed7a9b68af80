/-
  DiskSays: for any number of sectors and any acts the disk does as the document says. No condition.
-/
import Derived.Test.YtclhmpknkinjcaaDiskSays
import Derived.Test.YtclhmpknkinjcaaOpen
import Derived.Test.YtclhmpknkinjcaaFact1
import Derived.Test.YtclhmpknkinjcaaActs
namespace Go.Proofs.Ytclhmpknkinjcaa.diskSaysLaw
open Go.ChangeShapes Go.WideShapes Go.ChangeAt Go.RowKit

set_option linter.unusedVariables false in
set_option maxRecDepth 100000 in
theorem lifted (os : Os) (started : os.Started) (H : Type) (enc : TypeId × Value → H) :
    ReturnsInHanded {} Try.checked os 5 .any (Rows.diskSaysSpec.pre6 enc Try.prog Try.f5 Rows.diskSaysRow.domain false) (Rows.diskSaysSpec.post enc Try.prog Try.f5 false true false false) := by
  refine returnsInHanded_of_change (C := Try.checked) own started (by kernel_rfl) Try.func5
    (ChangeSpec.witness6 (enc := enc) (C := Try.checked) false ⟨#[], #[.int .i64 0, .slice none 0 0], []⟩ 8 (by kernel_rfl) (by kernel_rfl) (by kernel_rfl) (by kernel_rfl)) ?_
  intro W base args ds gs before hval0 hW hcnd _
  have hval : ∀ (j : Nat) t v, Try.f5.params[j]? = some t → args[j]? = some v → Value.okWide Try.prog W .any base t v := hval0
  have hW' := hW
  obtain ⟨p, q, hA0, hV, rfl, hfz, hnd⟩ := hW
  have hA : DataW.TrodAll enc Try.prog W 0 (fun _ => true) true Try.f5.params.toList args.toList ds p := hA0
  rw [Try.params5] at hA hval
  obtain ⟨v0, vs0, d0, ds0, p0, q0, hargs, rfl, rfl, h0, r0⟩ := trodAll_cons hA
  obtain ⟨v1, vs1, d1, ds1, p1, q1, rfl, rfl, rfl, h1, r1⟩ := trodAll_cons r0
  obtain ⟨rfl, rfl, rfl⟩ := trodAll_nil r1
  obtain rfl : args = #[v0, v1] := by cases args; simp_all
  obtain ⟨rfl, rfl⟩ := trodVars_none hV
  obtain ⟨i0, rfl, rfl, rfl, w0⟩ := open_int Try.underlying3 (hval 0 _ v0 rfl rfl) h0
  obtain ⟨l1, a1, cap1, rfl, hl1⟩ := open_acts (hval 1 _ v1 rfl rfl) h1
  refine (disksays_walk i0 l1 a1 cap1 _ hl1.1 hl1.2).mono fun e W' ⟨he, hb⟩ => ?_
  subst he
  exact ⟨_, rfl, post_true laidOut hW' rfl rfl Try.underlying4 (by decide +kernel) rfl hb⟩

set_option maxHeartbeats 4000000 in
theorem closed : joinedFacts Try.pinned.checked.prog 5 Try.f5 Rows.diskSaysSpec Rows.diskSaysRow = true := by
  unfold joinedFacts
  repeat' (with_reducible refine and_mk ?_ ?_)
  · as_aux_lemma => kernel_rfl
  · exact fact.laid
  · exact fact.mapsRowed_
  iterate 3 (focus (as_aux_lemma => kernel_rfl))
  · exact fact.stops_
  · as_aux_lemma => kernel_rfl
  · exact fact.stopKnobs_
  iterate 13 (focus (as_aux_lemma => kernel_rfl))
  · exact fact.plainKeys_
  · as_aux_lemma => kernel_rfl
  · exact fact.stopsHeard_
  · exact fact.mayEnter_
  · exact fact.liftsFinal_
  · exact fact.make_
  iterate 4 (focus (as_aux_lemma => kernel_rfl))

theorem over : Rows.diskSaysRow.holds Try.pinned (OpenSpec.ofChange Rows.diskSaysSpec) :=
  OpenClaim.holds_of_wide 5 Try.f5 rfl rfl rfl rfl rfl rfl rfl ⟨rfl, rfl, rfl, rfl, rfl⟩ rfl rfl rfl rfl rfl (by kernel_rfl) Try.func5 closed
    (of_decide_eq_true (by kernel_rfl)) (by unfold Func.isWrapper; first | (rw [if_pos (by decide +kernel)]; kernel_rfl) | (rw [if_neg (by decide +kernel)]; exact ⟨rfl, rfl⟩))
    (fun os started H enc _ => lifted os started H enc)

theorem proved : Rows.DiskSaysSaid :=
  over
end Go.Proofs.Ytclhmpknkinjcaa.diskSaysLaw
