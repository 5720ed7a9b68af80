/-
  RightsSays: chapter 3, for every state, anybody, reading or writing: the program's answer is the document's. No condition.
-/
import Derived.Test.YtdnkkdpcpbmbmaaRights
import Derived.Test.YtdnkkdpcpbmbmaaOpen
import Derived.Test.YtdnkkdpcpbmbmaaFact1
namespace Go.Proofs.Ytdnkkdpcpbmbmaa.rightsLaw
open Go.ChangeShapes Go.WideShapes Go.ChangeAt Go.RowKit

set_option maxRecDepth 100000 in
theorem lifted (os : Os) (started : os.Started) (H : Type) (enc : TypeId × Value → H) :
    ReturnsInHanded {} Try.checked os 3 .any (Rows.rightsSaysSpec.pre6 enc Try.prog Try.f3 Rows.rightsSaysRow.domain false) (Rows.rightsSaysSpec.post enc Try.prog Try.f3 false true false false) := by
  refine returnsInHanded_of_change (C := Try.checked) own started (by kernel_rfl) Try.func3
    (ChangeSpec.witness6 (enc := enc) (C := Try.checked) false ⟨#[], #[.agg #[.int .i64 0, .slice none 0 0, .int .i64 0, .int .i64 0, .bool false], .int .i64 0, .bool false], []⟩ 8 (by kernel_rfl) (by kernel_rfl) (by kernel_rfl) (by kernel_rfl)) ?_
  intro W base args ds gs before hval0 hW hcnd _
  have hval : ∀ (j : Nat) t v, Try.f3.params[j]? = some t → args[j]? = some v → Value.okWide Try.prog W .any base t v := hval0
  have hW' := hW
  obtain ⟨p, q, hA0, hV, rfl, hfz, hnd⟩ := hW
  have hA : DataW.TrodAll enc Try.prog W 0 (fun _ => true) true Try.f3.params.toList args.toList ds p := hA0
  rw [Try.params3] at hA hval
  obtain ⟨v0, v1, v2, d0, d1, d2, p0, p1, p2, hargs, rfl, rfl, h0, h1, h2⟩ := trodAll_three hA
  obtain rfl : args = #[v0, v1, v2] := by cases args; simp_all
  obtain ⟨rfl, rfl⟩ := trodVars_none hV
  obtain ⟨s, a, cap, rfl, hs⟩ := open_state (hval 0 _ v0 rfl rfl) h0
  obtain ⟨who, rfl, rfl, rfl, w1⟩ := open_int Try.underlying3 (hval 1 _ v1 rfl rfl) h1
  obtain ⟨wr, rfl, rfl, rfl⟩ := open_bool Try.underlying4 (hval 2 _ v2 rfl rfl) h2
  refine (rights_walk s a cap who wr W hs).mono fun e W' ⟨he, hb⟩ => ?_
  subst he
  exact ⟨_, rfl, post_true laidOut hW' rfl rfl Try.underlying4 (by decide +kernel) rfl hb⟩

set_option maxHeartbeats 4000000 in
theorem closed : joinedFacts Try.pinned.checked.prog 3 Try.f3 Rows.rightsSaysSpec Rows.rightsSaysRow = true := by
  unfold joinedFacts
  repeat' (with_reducible refine and_mk ?_ ?_)
  · as_aux_lemma => kernel_rfl
  · exact fact.laid
  · exact fact.mapsRowed_
  iterate 3 (focus (as_aux_lemma => kernel_rfl))
  · exact fact.stops_
  · as_aux_lemma => kernel_rfl
  · exact fact.stopKnobs_
  iterate 13 (focus (as_aux_lemma => kernel_rfl))
  · exact fact.plainKeys_
  · as_aux_lemma => kernel_rfl
  · exact fact.stopsHeard_
  · exact fact.mayEnter_
  · exact fact.liftsFinal_
  · exact fact.make_
  iterate 4 (focus (as_aux_lemma => kernel_rfl))

theorem over : Rows.rightsSaysRow.holds Try.pinned (OpenSpec.ofChange Rows.rightsSaysSpec) :=
  OpenClaim.holds_of_wide 3 Try.f3 rfl rfl rfl rfl rfl rfl rfl ⟨rfl, rfl, rfl, rfl, rfl⟩ rfl rfl rfl rfl rfl (by kernel_rfl) Try.func3 closed
    (of_decide_eq_true (by kernel_rfl)) (by unfold Func.isWrapper; first | (rw [if_pos (by decide +kernel)]; kernel_rfl) | (rw [if_neg (by decide +kernel)]; exact ⟨rfl, rfl⟩))
    (fun os started H enc _ => lifted os started H enc)

theorem proved : Rows.RightsSaysSaid :=
  over
end Go.Proofs.Ytdnkkdpcpbmbmaa.rightsLaw
