/-
  TargetSays: a target answers as the document's, and is as the document's target is, behind each act. For all acts; the tables of the library of Go that are read are tied to the text of the program.
-/
import Derived.Test.YtjalgpcigojpkaaGreatDoorTTargetSays
import Derived.Test.YtjalgpcigojpkaaGreatDoorTFact1
import Derived.Test.YtjalgpcigojpkaaGreatDoorCards
import Derived.LaidMore
import Derived.Lay
set_option maxRecDepth 99999
set_option maxHeartbeats 99999999
namespace Go.Proofs.YtjalgpcigojpkaaGreatDoor.targetSaysLaw
section
open Go.ChangeShapes Go.WideShapes Go.ChangeAt Go.RowKit
theorem Eu:∃ms,Tryz.prog.underlying 43=some (.interface ms):=by
 have h:(match Tryz.prog.underlying 43 with | some (.interface _)=>true | _=>false)=true:=by kernel_rfl
 revert h
 cases Tryz.prog.underlying 43 with
 | none=>intro h; cases h
 | some d=>cases d<;>intro h<;>first | exact⟨_,rfl⟩ | cases h
theorem Dw{W:World}(hL:laidMetH Tryz.prog Rows.targetSaysRow.laid W)(hS:W.ShapedOpen Tryz.prog):Tabs W:=by
 have hl:laidMet Tryz.prog Rows.targetSaysRow.laid W:=by rw[MakeChecks.laidMetH_plain _ _ _ (by kernel_rfl)]at hL; exact hL
 obtain⟨ms,hi⟩:=Eu
 exact⟨Lib.tabIs_of_head (zs:=Lib.pow10Tab) (t:=311) (e:=37) (n:=20) E4 (by kernel_rfl) (by kernel_rfl) (by kernel_rfl) (by kernel_rfl) (by kernel_rfl) hl.tail.tail,
  Ek (t:=3) (zero:=#[.int .i64 0]) hS FN (by decide +kernel) (by kernel_rfl) (by kernel_rfl) (by kernel_rfl) (by kernel_rfl) (by kernel_rfl),
  qU hl.tail.tail.tail.tail.tail EY (by kernel_rfl) hi,
  qU hl.tail.tail.tail.tail EZ (by kernel_rfl) hi,
  yp hS 7 (by decide +kernel) (by kernel_rfl)⟩
set_option linter.unusedVariables false in
theorem lifted(os:Os)(started:os.Started)(H:Type)(enc:TypeId × Value->H) :
  ReturnsInHanded {} Tryz.checked os 3 .any (λw args=>(Rows.targetSaysSpec.pre enc Tryz.prog Tryz.f3 [] false w args/\laidMetH Tryz.prog Rows.targetSaysRow.laid w)/\sizedMet enc Tryz.prog Tryz.f3 (OpenSpec.ofChange Rows.targetSaysSpec) false w args)
   (Rows.targetSaysSpec.post enc Tryz.prog Tryz.f3 false true false false):=by
 refine gz (C:=Tryz.checked) (X:=λw _=>laidMetH Tryz.prog Rows.targetSaysRow.laid w) (λ_ _ _ hh h=>h.of_heap hh) own started (by kernel_rfl) Tryz.func3
  (ChangeSpec.witness_shaped (enc:=enc) (C:=Tryz.checked) (os:=os) (X:=λw _=>laidMetH Tryz.prog Rows.targetSaysRow.laid w) false (World.laidAll Tryz.prog os Rows.targetSaysRow.laid) #[.slice none 0 0] 8 (World.laidAll_os _ _ _) (World.shaped_of_ZipB (by kernel_rfl) (by kernel_rfl)) (by kernel_rfl) (by kernel_rfl) (by kernel_rfl) (by rw[MakeChecks.laidMetH_plain _ _ _ (by kernel_rfl)]; exact laidMet_laidAll _ (by kernel_rfl) (by kernel_rfl))) ?_
 intro W base args ds gs before hval0 hW hL hS;have hval:∀(j:Nat) t v,Tryz.f3.params[j]?=some t->args[j]?=some v->Value.okWide Tryz.prog W .any base t v:=hval0;have hW':=hW;obtain⟨p,q,hA0,hV,rfl,hfz,JP⟩:=hW;have hA:DataW.TrodAll enc Tryz.prog W 0 (λ_=>true) true Tryz.f3.params.toList args.toList ds p:=hA0;rw[Tryz.params3]at hA hval;obtain⟨v0,vs0,d0,ds0,p0,q0,hargs,rfl,rfl,h0,r0⟩:=trodAll_cons hA;obtain⟨rfl,rfl,rfl⟩:=trodAll_nil r0
 obtain rfl:args=#[v0]:=by cases args; simp_all
 obtain⟨rfl,rfl⟩:=trodVars_none hV;obtain⟨l0,a0,cap0,rfl,hl0⟩:=yH (hval 0 _ v0 rfl rfl) h0;refine(targetsays_walk l0 a0 cap0 W hl0.1 hl0.2 (Dw hL hS)).mono λe W' ⟨he,hb⟩=>?_;subst he;exact⟨_,rfl,yA laidOut hW' rfl rfl Tryz.underlying4 (by decide +kernel) rfl hb⟩
theorem closed:joinedFacts Tryz.pinned.checked.prog 3 Tryz.f3 Rows.targetSaysSpec Rows.targetSaysRow=true:=by
 unfold joinedFacts
 repeat' (with_reducible refine F9 ?_ ?_)
 .as_aux_lemma=>kernel_rfl
 .exact fact.laid
 .exact fact.mapsRowed_
 iterate 3 (focus (as_aux_lemma=>kernel_rfl))
 .exact fact.stops_
 .as_aux_lemma=>kernel_rfl
 .exact fact.stopKnobs_
 iterate 13 (focus (as_aux_lemma=>kernel_rfl))
 .exact fact.plainKeys_
 .as_aux_lemma=>kernel_rfl
 .exact fact.stopsHeard_
 .exact fact.mayEnter_
 .exact fact.liftsFinal_
 .exact fact.make_
 iterate 4 (focus (as_aux_lemma=>kernel_rfl))
theorem over:Rows.TargetSaysSaid :=
 OpenClaim.holds_of_wide 3 Tryz.f3 rfl rfl rfl rfl rfl rfl rfl ⟨rfl,rfl,rfl,rfl,rfl⟩ rfl rfl rfl rfl rfl (by kernel_rfl) Tryz.func3 closed
  (of_decide_eq_true (by kernel_rfl)) (by unfold Func.isWrapper; first | (rw[if_pos (by decide +kernel)]; kernel_rfl)|(rw[if_neg (by decide +kernel)]; exact⟨rfl,rfl⟩))
  (λos started H enc _=>lifted os started H enc)
theorem proved:Rows.TargetSaysCardSaid :=
 Claim7.holds_tied_plain_at .later [] [.data, .data, .data, .data, .sentinel, .sentinel, .pinned] true (true, "b4c6d48700152048b49ba7ff1b1a64dda66b44b8103ea8b755231ad96879a6a9") true
  over (λ_ h=>by cases h) (by kernel_rfl) (λ_ h=>by cases h) targetSays_row_tie rfl ⟨rfl,rfl⟩ (by kernel_rfl) rfl
  (λf fn hf hfn=>by
   obtain rfl : f = 3 := Option.some.inj ((show Tryz.prog.funcNamed "kissinggate/kissinggatelaw.TargetSays" = some 3 by kernel_rfl).symm.trans hf) |>.symm
   obtain rfl:fn=Tryz.f3:=(Option.some.inj (Tryz.func3.symm.trans hfn)).symm
   exact⟨by kernel_rfl,λj t ht=>by
    rw[Tryz.params3]at ht
    rcases j with _ | j
    .simp at ht; subst ht; kernel_rfl
    .simp at ht⟩)
  (by kernel_rfl)
