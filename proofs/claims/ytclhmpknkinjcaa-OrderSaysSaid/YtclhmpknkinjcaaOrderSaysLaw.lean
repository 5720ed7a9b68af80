/-
  OrderSays: for any two states and any command, order does and compares as the document says. No condition.
-/
import Derived.Test.YtclhmpknkinjcaaOrderSays
import Derived.Test.YtclhmpknkinjcaaOpen
import Derived.Test.YtclhmpknkinjcaaFact1
import Derived.Test.YtclhmpknkinjcaaOpenC
namespace Go.Proofs.Ytclhmpknkinjcaa.orderSaysLaw
open Go.ChangeShapes Go.WideShapes Go.ChangeAt Go.RowKit

set_option linter.unusedVariables false in
set_option maxRecDepth 100000 in
theorem lifted (os : Os) (started : os.Started) (H : Type) (enc : TypeId × Value → H) :
    ReturnsInHanded {} Try.checked os 6 .any (Rows.orderSaysSpec.pre6 enc Try.prog Try.f6 Rows.orderSaysRow.domain false) (Rows.orderSaysSpec.post enc Try.prog Try.f6 false true false false) := by
  refine returnsInHanded_of_change (C := Try.checked) own started (by kernel_rfl) Try.func6
    (ChangeSpec.witness6 (enc := enc) (C := Try.checked) false ⟨#[], #[.agg #[.int .i64 0, .slice none 0 0, .int .i64 0, .int .i64 0, .bool false], .agg #[.int .i64 0, .slice none 0 0, .int .i64 0, .int .i64 0, .bool false], .agg #[.int .i64 0, .int .i64 0, .int .i64 0, .int .i64 0, .int .i64 0, .int .i64 0, .bool false, .string ByteArray.empty, .string ByteArray.empty]], []⟩ 8 (by kernel_rfl) (by kernel_rfl) (by kernel_rfl) (by kernel_rfl)) ?_
  intro W base args ds gs before hval0 hW hcnd _
  have hval : ∀ (j : Nat) t v, Try.f6.params[j]? = some t → args[j]? = some v → Value.okWide Try.prog W .any base t v := hval0
  have hW' := hW
  obtain ⟨p, q, hA0, hV, rfl, hfz, hnd⟩ := hW
  have hA : DataW.TrodAll enc Try.prog W 0 (fun _ => true) true Try.f6.params.toList args.toList ds p := hA0
  rw [Try.params6] at hA hval
  obtain ⟨v0, vs0, d0, ds0, p0, q0, hargs, rfl, rfl, h0, r0⟩ := trodAll_cons hA
  obtain ⟨v1, vs1, d1, ds1, p1, q1, rfl, rfl, rfl, h1, r1⟩ := trodAll_cons r0
  obtain ⟨v2, vs2, d2, ds2, p2, q2, rfl, rfl, rfl, h2, r2⟩ := trodAll_cons r1
  obtain ⟨rfl, rfl, rfl⟩ := trodAll_nil r2
  obtain rfl : args = #[v0, v1, v2] := by cases args; simp_all
  obtain ⟨rfl, rfl⟩ := trodVars_none hV
  obtain ⟨s0, a0, cap0, rfl, hs0⟩ := open_state (hval 0 _ v0 rfl rfl) h0
  obtain ⟨s1, a1, cap1, rfl, hs1⟩ := open_state (hval 1 _ v1 rfl rfl) h1
  obtain ⟨c2, rfl, hc2⟩ := open_command (hval 2 _ v2 rfl rfl) h2
  refine (ordersays_walk s0 s1 a0 a1 cap0 cap1 c2 _ hs0 hs1).mono fun e W' ⟨he, hb⟩ => ?_
  subst he
  exact ⟨_, rfl, post_true laidOut hW' rfl rfl Try.underlying4 (by decide +kernel) rfl hb⟩

set_option maxHeartbeats 4000000 in
theorem closed : joinedFacts Try.pinned.checked.prog 6 Try.f6 Rows.orderSaysSpec Rows.orderSaysRow = true := by
  unfold joinedFacts
  repeat' (with_reducible refine and_mk ?_ ?_)
  · as_aux_lemma => kernel_rfl
  · exact fact.laid
  · exact fact.mapsRowed_
  iterate 3 (focus (as_aux_lemma => kernel_rfl))
  · exact fact.stops_
  · as_aux_lemma => kernel_rfl
  · exact fact.stopKnobs_
  iterate 13 (focus (as_aux_lemma => kernel_rfl))
  · exact fact.plainKeys_
  · as_aux_lemma => kernel_rfl
  · exact fact.stopsHeard_
  · exact fact.mayEnter_
  · exact fact.liftsFinal_
  · exact fact.make_
  iterate 4 (focus (as_aux_lemma => kernel_rfl))

theorem over : Rows.orderSaysRow.holds Try.pinned (OpenSpec.ofChange Rows.orderSaysSpec) :=
  OpenClaim.holds_of_wide 6 Try.f6 rfl rfl rfl rfl rfl rfl rfl ⟨rfl, rfl, rfl, rfl, rfl⟩ rfl rfl rfl rfl rfl (by kernel_rfl) Try.func6 closed
    (of_decide_eq_true (by kernel_rfl)) (by unfold Func.isWrapper; first | (rw [if_pos (by decide +kernel)]; kernel_rfl) | (rw [if_neg (by decide +kernel)]; exact ⟨rfl, rfl⟩))
    (fun os started H enc _ => lifted os started H enc)

theorem proved : Rows.OrderSaysSaid :=
  over
end Go.Proofs.Ytclhmpknkinjcaa.orderSaysLaw
