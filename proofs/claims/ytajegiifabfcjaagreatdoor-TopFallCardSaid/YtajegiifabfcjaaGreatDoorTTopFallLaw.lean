import Derived.Test.YtajegiifabfcjaaGreatDoorTTopFall
import Derived.Test.YtajegiifabfcjaaGreatDoorCards
import Derived.ChangeVars
import Derived.JoinedOf
import Derived.LaidMore
import Derived.LaidHandle
import Derived.Lay
import Derived.Stop.Joined
import Derived.SevenTiedAt
namespace Go.Proofs.YtajegiifabfcjaaGreatDoor.topFallLaw
open Go.ChangeShapes Go.WideShapes Go.ChangeAt Go.RowKit
theorem e_iface:∃ ms,Tryz.prog.underlying 41=some (.interface ms):=by
 have h:(match Tryz.prog.underlying 41 with | some (.interface _)=>true | _=>false)=true:=by kernel_rfl
 revert h
 cases Tryz.prog.underlying 41 with
 | none=>intro h; cases h
 | some d=>cases d <;> intro h <;> first | exact ⟨_,rfl⟩ | cases h
theorem tabs_of {W:World} (hL:laidMetH Tryz.prog Rows.topFallRow.laid W) (hS:W.ShapedOpen Tryz.prog):Tabs W:=by
 have hl:laidMet Tryz.prog Rows.topFallRow.laid W:=by rw [MakeChecks.laidMetH_plain _ _ _ (by kernel_rfl)] at hL; exact hL
 obtain ⟨ms,hi⟩:=e_iface
 exact ⟨Lib.tabIs_of_head (zs:=Lib.pow10Tab) (t:=292) (e:=32) (n:=20) g_pow (by kernel_rfl) (by kernel_rfl) (by kernel_rfl) (by kernel_rfl) (by kernel_rfl) hl.tail.tail,
  int_var (t:=3) (zero:=#[.int .i64 0]) hS g_mx (by decide +kernel) (by kernel_rfl) (by kernel_rfl) (by kernel_rfl) (by kernel_rfl) (by kernel_rfl),
  iface_var hl.tail.tail.tail.tail.tail g_syn (by kernel_rfl) hi,
  iface_var hl.tail.tail.tail.tail g_ran (by kernel_rfl) hi,
  shape_low hS 7 (by decide +kernel) (by kernel_rfl)⟩
set_option linter.unusedVariables false in
set_option maxRecDepth 100000 in
theorem lifted (os:Os) (started:os.Started) (H:Type) (enc:TypeId × Value→H) :
  ReturnsInHanded {} Tryz.checked os 10 .any (fun w args=>(Rows.topFallSpec.pre enc Tryz.prog Tryz.f10 [] false w args∧laidMetH Tryz.prog Rows.topFallRow.laid w)∧sizedMet enc Tryz.prog Tryz.f10 (OpenSpec.ofChange Rows.topFallSpec) false w args)
   (Rows.topFallSpec.post enc Tryz.prog Tryz.f10 false true false false):=by
 refine returnsInHanded_laidShape (C:=Tryz.checked) (X:=fun w _=>laidMetH Tryz.prog Rows.topFallRow.laid w) (fun _ _ _ hh h=>h.of_heap hh) own started (by kernel_rfl) Tryz.func10
  (ChangeSpec.witness_shaped (enc:=enc) (C:=Tryz.checked) (os:=os) (X:=fun w _=>laidMetH Tryz.prog Rows.topFallRow.laid w) false (World.laidAll Tryz.prog os Rows.topFallRow.laid) #[.slice none 0 0,.agg #[.int .i64 0,.int .i64 0,.int .i64 0,.int .i64 0,.int .i64 0,.int .i64 0,.bool false,.string ByteArray.empty,.string ByteArray.empty],.int .i64 0,.int .u64 0] 8 (World.laidAll_os _ _ _) (World.shaped_of_ZipB (by kernel_rfl) (by kernel_rfl)) (by kernel_rfl) (by kernel_rfl) (by kernel_rfl) (by rw [MakeChecks.laidMetH_plain _ _ _ (by kernel_rfl)]; exact laidMet_laidAll _ (by kernel_rfl) (by kernel_rfl))) ?_
 intro W base args ds gs before hval0 hW hL hS
 have hval:∀ (j:Nat) t v,Tryz.f10.params[j]?=some t→args[j]?=some v→Value.okWide Tryz.prog W .any base t v:=hval0
 have hW':=hW
 obtain ⟨p,q,hA0,hV,rfl,hfz,hnd⟩:=hW
 have hA:DataW.TrodAll enc Tryz.prog W 0 (fun _=>true) true Tryz.f10.params.toList args.toList ds p:=hA0
 rw [Tryz.params10] at hA hval
 obtain ⟨v0,vs0,d0,ds0,p0,q0,hargs,rfl,rfl,h0,r0⟩:=trodAll_cons hA
 obtain ⟨v1,vs1,d1,ds1,p1,q1,rfl,rfl,rfl,h1,r1⟩:=trodAll_cons r0
 obtain ⟨v2,vs2,d2,ds2,p2,q2,rfl,rfl,rfl,h2,r2⟩:=trodAll_cons r1
 obtain ⟨v3,vs3,d3,ds3,p3,q3,rfl,rfl,rfl,h3,r3⟩:=trodAll_cons r2
 obtain ⟨rfl,rfl,rfl⟩:=trodAll_nil r3
 obtain rfl:args=#[v0,v1,v2,v3]:=by cases args; simp_all
 obtain ⟨rfl,rfl⟩:=trodVars_none hV
 obtain ⟨l0,a0,cap0,rfl,hl0⟩:=open_acts (hval 0 _ v0 rfl rfl) h0
 obtain ⟨c1,rfl,hc1⟩:=open_command (hval 1 _ v1 rfl rfl) h1
 obtain ⟨i2,rfl,rfl,rfl,w2⟩:=open_int Tryz.underlying3 (hval 2 _ v2 rfl rfl) h2
 obtain ⟨i3,rfl,rfl,rfl,w3⟩:=open_int Tryz.underlying32 (hval 3 _ v3 rfl rfl) h3
 refine (topfall_walk l0 a0 cap0 c1 i2 i3 W hl0.1 hl0.2 hc1 (tabs_of hL hS)).mono fun e W' ⟨he,hb⟩=>?_
 subst he
 exact ⟨_,rfl,post_true laidOut hW' rfl rfl Tryz.underlying4 (by decide +kernel) rfl hb⟩
set_option maxHeartbeats 4000000 in
theorem closed:joinedFacts Tryz.pinned.checked.prog 10 Tryz.f10 Rows.topFallSpec Rows.topFallRow=true:=by
 unfold joinedFacts
 repeat' (with_reducible refine and_mk ?_ ?_)
 ·as_aux_lemma=>kernel_rfl
 ·exact fact.laid
 ·exact fact.mapsRowed_
 iterate 3 (focus (as_aux_lemma=>kernel_rfl))
 ·exact fact.stops_
 ·as_aux_lemma=>kernel_rfl
 ·exact fact.stopKnobs_
 iterate 13 (focus (as_aux_lemma=>kernel_rfl))
 ·exact fact.plainKeys_
 ·as_aux_lemma=>kernel_rfl
 ·exact fact.stopsHeard_
 ·exact fact.mayEnter_
 ·exact fact.liftsFinal_
 ·exact fact.make_
 iterate 4 (focus (as_aux_lemma=>kernel_rfl))
theorem over:Rows.TopFallSaid :=
 OpenClaim.holds_of_wide 10 Tryz.f10 rfl rfl rfl rfl rfl rfl rfl ⟨rfl,rfl,rfl,rfl,rfl⟩ rfl rfl rfl rfl rfl (by kernel_rfl) Tryz.func10 closed
  (of_decide_eq_true (by kernel_rfl)) (by unfold Func.isWrapper; first | (rw [if_pos (by decide +kernel)]; kernel_rfl) | (rw [if_neg (by decide +kernel)]; exact ⟨rfl,rfl⟩))
  (fun os started H enc _=>lifted os started H enc)
theorem proved:Rows.TopFallCardSaid :=
 Claim7.holds_tied_plain_at .later [] [.data, .data, .data, .data, .sentinel, .sentinel, .pinned] true (true, "9076de4860f532afb27c869bd218df7c7ac46e5b33d24ed449de23b7e23b1a1c") true
  over (fun _ h=>by cases h) (by kernel_rfl) (fun _ h=>by cases h) topFall_row_tie rfl ⟨rfl,rfl⟩ (by kernel_rfl) rfl
  (fun f fn hf hfn=>by
   obtain rfl : f = 10 := Option.some.inj ((show Tryz.prog.funcNamed "kissinggate/kissinggatetop.TopFall" = some 10 by kernel_rfl).symm.trans hf) |>.symm
   obtain rfl:fn=Tryz.f10:=(Option.some.inj (Tryz.func10.symm.trans hfn)).symm
   exact ⟨by kernel_rfl,fun j t ht=>by
    rw [Tryz.params10] at ht
    rcases j with _ | _ | _ | _ | j
    ·simp at ht; subst ht; kernel_rfl
    ·simp at ht; subst ht; kernel_rfl
    ·simp at ht; subst ht; kernel_rfl
    ·simp at ht; subst ht; kernel_rfl
    ·simp at ht⟩)
  (by kernel_rfl)
end Go.Proofs.YtajegiifabfcjaaGreatDoor.topFallLaw
