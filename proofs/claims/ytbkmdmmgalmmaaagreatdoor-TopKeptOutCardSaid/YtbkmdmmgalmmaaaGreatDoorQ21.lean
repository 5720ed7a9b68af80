/-
  KpKeep, KpFmt, KpLook
-/
import Derived.Test.YtbkmdmmgalmmaaaGreatDoorQ19
import Derived.Test.YtbkmdmmgalmmaaaGreatDoorQ20
import Derived.Test.YtbkmdmmgalmmaaaGreatDoorQ16
import Derived.Lib.AppendZeros
import Derived.Test.YtbkmdmmgalmmaaaGreatDoorQ18
import Derived.Test.YtbkmdmmgalmmaaaGreatDoorQ17
namespace Go.Proofs.YtbkmdmmgalmmaaaGreatDoor
open Go.RowKit
theorem KpR.below {S:Nat→Prop} {w w':World} {K D n:Nat} {a:Option Addr} {cap:Nat} {k:Kp} (h:KpR S w K D n a cap k) (b:Below w.heap.size w w'):KpR S w' K D n a cap k :=
 ⟨(b.block K (Array.getElem?_eq_some_iff.1 h.blk).1).trans h.blk,h.dk.below b,h.nk,fun q e=>Nat.lt_of_lt_of_le (h.lt q e) b.size,h.str.below b,h.ap⟩
theorem kp_under {A0 A1:Option Addr→Prop} {S:Nat→Prop} {w w1 w':World} {K D n:Nat} {r:Kp × Int} {e:Ending} (b:Below w.heap.size w w1) (h:KpPost A0 S w1 K D n r e w') (hA:∀ q,A0 q→A1 q):KpPost A1 S w K D n r e w':=by
 obtain ⟨he,S',a,cap,hk,hs,kk,ha⟩:=h
 refine ⟨he,S',a,cap,hk,fun q e=>?_,(Keeps.of_below b).trans kk,hA _ ha⟩
 rcases hs q e with e | e
 ·exact .inl e
 ·exact .inr ⟨Nat.le_trans b.size e.1,e.2⟩
theorem kp_same {S:Nat→Prop} {w w':World} {K D n:Nat} {a:Option Addr} {cap:Nat} {k:Kp} (h:KpR S w K D n a cap k) (b:Below w.heap.size w w') (f:Int):KpPost (fun q=>(q=a∧k.s=k.s)∨∀ b o,q=some ⟨b,o,none⟩→w.heap.size≤b) S w K D n (k,f) (.returned (errV f)) w' :=
 ⟨rfl,S,a,cap,h.below b,fun _ e=>.inl e,Keeps.of_below b,.inl ⟨rfl,rfl⟩⟩
set_option maxRecDepth 100000 in
set_option maxHeartbeats 4000000 in
theorem keep_any (S:Nat→Prop) (w:World) (K D n:Nat) (a a':Option Addr) (cap cap':Nat) (k:Kp) (ep:Int) (s:St) (h:KpR S w K D n a cap k) (ok:k.d.ok n) (hwl:k.d.wait.length≤900) (n6:6≤n)
  (h0:0≤k.num) (h1:k.num<1000000000000000) (hr:StR w s a') (t:Tabs w) :
  Calls Tryz.prog 61 #[.pointer (some ⟨K,0,none⟩),.int .i64 ep,stV s a' cap'] w fun e w'=>KpPost (fun q=>(q=a∧(k.keep n ep s).1.s=k.s)∨∀ b o,q=some ⟨b,o,none⟩→w.heap.size≤b) S w K D n (k.keep n ep s) e w':=by
 have HH:=Lib.hid h
 have HR:=Lib.hid hr
 have TT:=Lib.hid t
 clear h hr t
 have KE:=Lib.hid (show k.keep n ep s=if ep<1∨1000000<ep then (k,1) else if stateFault s≠0 then (k,stateFault s) else k.lay n ep s from rfl)
 by_cases e1:ep<1∨1000000<ep
 ·have KX:=Lib.hid (KE.out.trans (if_pos e1))
  rcases e1 with e1 | e1
  ·go_enter Tryz.func61,Tryz.ntmps61
   go_wp2
   go_ret
   rw [KX.out]
   exact kp_same HH.out (bal w _) 1
  ·have e2:¬ ep<1:=by omega
   go_enter Tryz.func61,Tryz.ntmps61
   go_wp2
   go_ret
   rw [KX.out]
   exact kp_same HH.out (bal w _) 1
 have KE2:=Lib.hid (KE.out.trans (if_neg e1))
 have e2:¬ ep<1:=by omega
 have e3:¬ 1000000<ep:=by omega
 have EP:=Lib.hid (show 1≤ep∧ep≤1000000 from by omega)
 clear e1 KE
 go_enter Tryz.func61,Tryz.ntmps61
 go_wp2_with fail
 refine (check_any s a' cap' _ (HR.out.below (bal w _))).mono ?_
 rintro e w1 ⟨rfl,b1⟩
 have W1:=Lib.hid ((bal w _).trans (b1.mono (by simp)))
 have H1:=Lib.hid ((b1.block w.heap.size (by simp)).trans (heap_alloc_new w _))
 clear b1
 by_cases hf:stateFault s=0
 ·have KX:=Lib.hid (KE2.out.trans (if_neg (fun h=>h hf)))
  rw [hf,errV_nil]
  have HG:=Lib.hid ((good_iff _).1 hf)
  clear hf
  obtain ⟨v,w2,hrun,hown,b2⟩:=append_pairs s.regs a' cap' 33 w1 (by have:=HG.out.regs_len; omega) ((HR.out.below W1.out).rep)
  obtain ⟨a2,cap2,rfl,hpa,-⟩:=OwnP.shape hown
  have hblt:w.heap.size<w1.heap.size:=(Array.getElem?_eq_some_iff.1 H1.out).1
  have LO:=Lib.hid (show ∀ q o,a2=some ⟨q,o,none⟩→w1.heap.size≤q from fun q o e=>OwnP.blk hown q (by rw [e]; rfl))
  have W2:=Lib.hid (W1.out.trans (b2.mono W1.out.size))
  have H2:=Lib.hid ((b2.block w.heap.size hblt).trans H1.out)
  have S2:=Lib.hid (show StR w2 s a2 from ⟨by have:=HG.out.regs_len; unfold maxLen; omega,hpa⟩)
  have W3:=Lib.hid (W2.out.setCell (p:=⟨w.heap.size,1,none⟩) (Nat.le_refl _) (.slice a2 s.regs.length cap2))
  have S3:=Lib.hid (S2.out.keeps (kset (Keeps.refl (·=w.heap.size) w2) 1 (.slice a2 s.regs.length cap2)) (fun b o e _=>by have:=LO.out b o e; omega))
  have KR3:=Lib.hid (HH.out.below W3.out)
  have HX3:=Lib.hid (show ∀ b o,a2=some ⟨b,o,none⟩→s.regs≠[]→¬ S b∧b≠K from fun b o e _=>by
   have:=LO.out b o e
   have hK:=(Array.getElem?_eq_some_iff.1 HH.out.blk).1
   exact ⟨fun h=>by have:=HH.out.lt b h; omega,by omega⟩)
  have LAY:=Lib.hid (lay_any S _ K D n a a2 cap cap2 k ep s KR3.out ok hwl n6 h0 ⟨by omega,by omega,EP.out.1,EP.out.2,HG.out⟩ S3.out HX3.out (TT.out.on W3.out))
  have hc:=H1.out
  obtain ⟨⟨c0,c1,c2,c3,c4⟩,f0,f1,f2,f3,f4⟩:=cells5 H1.out
  obtain ⟨⟨d0,d1,d2,d3,d4⟩,g0,g1,g2,g3,g4⟩:=cells5 H2.out
  clear hc hpa hown b2
  go_wp2_with (first | (at_builtin; refine Lib.wpList_append_run _ rfl _ _ 33 33 rfl _ _ rfl rfl _ _ hrun ?_) | ((with_reducible refine LAY.out.mono ?_); rintro e w4 ⟨rfl,h4⟩))
  go_ret
  rw [KX.out]
  exact kp_under W3.out ⟨rfl,h4⟩ (fun q e=>by
   rcases e with e | e
   ·exact .inl e
   ·exact .inr (fun b o h=>by have:=LO.out b o (e▸h); have:=W1.out.size; omega))
 ·have KX:=Lib.hid (KE2.out.trans (if_pos hf))
  rw [errV_some hf]
  have HF:=Lib.hid (errV_some hf)
  obtain ⟨f,hff⟩:∃ f,f=stateFault s:=⟨_,rfl⟩
  rw [← hff] at KX HF ⊢
  clear hf hff
  go_wp2
  go_ret
  rw [KX.out,← HF.out]
  exact kp_same HH.out W1.out f
theorem kepoch_any (S:Nat→Prop) (w:World) (K D n:Nat) (a:Option Addr) (cap:Nat) (k:Kp) (h:KpR S w K D n a cap k) :
  Calls Tryz.prog 35 #[.pointer (some ⟨K,0,none⟩)] w fun e w'=>e=.returned (.int .i64 k.ep)∧w'=w:=by
 have hb:=h.blk
 have c2:w.cell? ⟨K,2,none⟩=some (.int .i64 k.ep):=by simp [World.cell?,hb]
 clear hb h
 go_enter Tryz.func35,Tryz.ntmps35
 go_wp2
 go_ret
 exact ⟨rfl,rfl⟩
theorem results_r1 {P:Program} {fn:Func} {p:Tmp} {ty:TypeId} (h:fn.results=#[.cell p ty]) (tmps:Array Value) (w:World) (g:Nat) (t:TypeId) (cs:Array Value) (d:TypeDesc)
  (hp:tmps.getD p undef=.pointer (some ⟨g,0,none⟩)) (hg:w.heap[g]?=some (.cells cs t (0,0)))
  (hu:P.underlying ty=some d) (hd:(match d with | .struct _ | .array _ _=>true | _=>false)=true) (hi:(P.info? ty).map (·.size)=some cs.size) :
  (results fn tmps).run P w=.ok (.agg cs) w:=by
 have hp':tmps[p]?.getD undef=.pointer (some ⟨g,0,none⟩):=by simpa using hp
 simp [results,h,hp',asAddr,run_loadVar_row w g t ty cs (0,0) d hg hu hd hi]
set_option maxRecDepth 100000 in
set_option maxHeartbeats 4000000 in
theorem kstate_any (S:Nat→Prop) (w:World) (K D n:Nat) (a:Option Addr) (cap:Nat) (k:Kp) (h:KpR S w K D n a cap k) (hl:k.s.regs.length≤1000) :
  Calls Tryz.prog 26 #[.pointer (some ⟨K,0,none⟩)] w fun e w'=>∃ a2 cap2,e=.returned (stV k.s a2 cap2)∧StR w' k.s a2∧Below w.heap.size w w'∧∀ b o,a2=some ⟨b,o,none⟩→w.heap.size≤b:=by
 have HH:=Lib.hid h
 have hb:=h.blk
 have hK:=(Array.getElem?_eq_some_iff.1 h.blk).1
 clear h
 obtain ⟨y3,y4,y5,y6,y7⟩:w.cell? ⟨K,3,none⟩=some (.int .i64 k.s.gen)∧w.cell? ⟨K,4,none⟩=some (.slice a k.s.regs.length cap)∧w.cell? ⟨K,5,none⟩=some (.int .i64 k.s.typ)∧w.cell? ⟨K,6,none⟩=some (.int .i64 k.s.holder)∧w.cell? ⟨K,7,none⟩=some (.bool k.s.stays):=by simp [World.cell?,hb]
 clear hb
 go_enter Tryz.func26,Tryz.ntmps26
 go_upto_region 2 with fail
 obtain ⟨w1,hw1⟩:∃ w1,(w.alloc (.cells #[.int .i64 0,.slice none 0 0,.int .i64 0,.int .i64 0,.bool false] 35)).alloc (.cells #[.int .i64 k.s.gen,.slice a k.s.regs.length cap,.int .i64 k.s.typ,.int .i64 k.s.holder,.bool k.s.stays] 35)=w1:=⟨_,rfl⟩
 rw [hw1]
 have B1:=Lib.hid (show Below w.heap.size w w1 from hw1▸(bal w _).trans ((bal _ _).mono (by simp)))
 have hz1:w1.heap.size=w.heap.size+2:=by rw [← hw1]; simp
 have R1:=Lib.hid (show w1.heap[w.heap.size]?=some (.cells #[.int .i64 0,.slice none 0 0,.int .i64 0,.int .i64 0,.bool false] 35 (0,0)) from hw1▸heap_alloc2_old w _ _)
 have N1:=Lib.hid (show w1.heap[w.heap.size+1]?=some (.cells #[.int .i64 k.s.gen,.slice a k.s.regs.length cap,.int .i64 k.s.typ,.int .i64 k.s.holder,.bool k.s.stays] 35 (0,0)) from hw1▸heap_alloc2_new w _ _)
 clear hw1
 obtain ⟨v,w2,hrun,hown,b2⟩:=append_pairs k.s.regs a cap 33 w1 hl ((HH.out.str.below B1.out).rep)
 obtain ⟨a2,cap2,rfl,hpa,-⟩:=OwnP.shape hown
 have LO:=Lib.hid (show ∀ q o,a2=some ⟨q,o,none⟩→w1.heap.size≤q from fun q o e=>OwnP.blk hown q (by rw [e]; rfl))
 have B2:=Lib.hid (B1.out.trans (b2.mono B1.out.size))
 have R2:=Lib.hid ((b2.block w.heap.size (by omega)).trans R1.out)
 have N2:=Lib.hid ((b2.block (w.heap.size+1) (by omega)).trans N1.out)
 have S2:=Lib.hid (show StR w2 k.s a2 from ⟨by unfold maxLen; omega,hpa⟩)
 obtain ⟨⟨c0,c1,c2,c3,c4⟩,f0,f1,f2,f3,f4⟩:=cells5 N1.out
 obtain ⟨⟨d0,d1,d2,d3,d4⟩,g0,g1,g2,g3,g4⟩:=cells5 N2.out
 obtain ⟨⟨r0,r1,r2,r3,r4⟩,t0,t1,t2,t3,t4⟩:=cells5 R2.out
 clear y3 y4 y5 y6 y7 hpa hown b2
 go_wp2_with (at_builtin; refine Lib.wpList_append_run _ rfl _ _ 33 33 rfl _ _ rfl rfl _ _ hrun ?_)
 have N3:=one_setCell (o:=1) N2.out (.slice a2 k.s.regs.length cap2)
 have R3:=(Below.heap_setCell w2 ⟨w.heap.size+1,1,none⟩ (.slice a2 k.s.regs.length cap2) w.heap.size (by show w.heap.size≠w.heap.size+1; omega)).trans R2.out
 refine bodyPost_ret (v:=stV k.s a2 cap2) (results_r1 Tryz.results26 _ _ w.heap.size 35 #[.int .i64 k.s.gen,.slice a2 k.s.regs.length cap2,.int .i64 k.s.typ,.int .i64 k.s.holder,.bool k.s.stays] _ rfl (five_at R3 _ _ _ _ _) state_row.1 rfl state_row.2) rfl ?_
 exact ⟨a2,cap2,rfl,(S2.out.keeps (kset (Keeps.refl (·=w.heap.size+1) w2) 1 (.slice a2 k.s.regs.length cap2)) (fun b o e _=>by have:=LO.out b o e; omega)).five (fun b o e=>by have:=LO.out b o e; omega) _ _ _ _ _,
  five_below (B2.out.setCell (p:=⟨w.heap.size+1,1,none⟩) (by show w.heap.size≤w.heap.size+1; omega) _) (Nat.le_refl _) _ _ _ _ _,fun b o e=>by have:=LO.out b o e; omega⟩
end Go.Proofs.YtbkmdmmgalmmaaaGreatDoor

namespace Go.Proofs.YtbkmdmmgalmmaaaGreatDoor
open Go.RowKit
def Live (d:Dk):Prop:=d.fuse=-1∧d.down=false
theorem live_step {d:Dk} (h:Live d):d.step=d:=by
 obtain ⟨kept,now,wait,f,b⟩:=d
 obtain ⟨rfl,rfl⟩:f=-1∧b=false:=h
 rfl
theorem live_steps {d:Dk} (h:Live d):d.steps=true:=Dk.steps_of h.1 h.2
theorem live_write {n p:Nat} {d:Dk} {s:ByteArray} (h:Live d) (hp:p<n) (hs:s.size≤64):d.write n (p:Int) s=⟨d.kept,d.now.set p (fullB s),d.wait ++ [(p,fullB s)],-1,false⟩:=by
 rw [Dk.write_steps hp hs (live_steps h),live_step h]
 dsimp only
 rw [h.1,h.2]
theorem live_flush {d:Dk} (h:Live d):d.flush=⟨d.now,d.now,[],-1,false⟩:=by
 rw [Dk.flush_steps (live_steps h),live_step h]
 dsimp only
 rw [h.1,h.2]
theorem live_mk (a b:List ByteArray) (c:List (Nat × ByteArray)):Live ⟨a,b,c,-1,false⟩:=⟨rfl,rfl⟩
theorem live_lay {n a:Nat} {d:Dk} {A B:ByteArray} (h:Live d) (ha:2*a+1<n) (hA:A.size≤64) (hB:B.size≤64) :
  layD n d a A B=(⟨((d.now.set (2*a) full0).set (2*a+1) (fullB B)).set (2*a) (fullB A),((d.now.set (2*a) full0).set (2*a+1) (fullB B)).set (2*a) (fullB A),[],-1,false⟩,true):=by
 have hE:(⟨#[]⟩:ByteArray).size≤64:=by decide
 have nf:∀ {x:Dk},Live x→¬ x.steps=false:=fun hx e=>by rw [live_steps hx] at e; cases e
 unfold layD
 dsimp only
 rw [live_write h (by omega) hE,if_neg (nf h),if_neg (nf (live_mk _ _ _)),live_flush (live_mk _ _ _),if_neg (nf (live_mk _ _ _)),live_write (live_mk _ _ _) ha hB,if_neg (nf (live_mk _ _ _)),live_flush (live_mk _ _ _),
  if_neg (nf (live_mk _ _ _)),live_write (live_mk _ _ _) (by omega) hA,if_neg (nf (live_mk _ _ _)),live_flush (live_mk _ _ _)]
 rfl
def sNone:St:=⟨0,[],0,0,false⟩
theorem good_none:Good sNone:=(good_iff _).1 (by decide)
theorem knum_one:KNum 1 1 sNone:=⟨by omega,by omega,by omega,by omega,good_none⟩
def fmtD (n:Nat) (d:Dk):Dk:=((((d.write n ((0:Nat):Int) ⟨#[]⟩).write n ((1:Nat):Int) ⟨#[]⟩).write n ((2:Nat):Int) ⟨#[]⟩).write n ((3:Nat):Int) ⟨#[]⟩).flush
theorem fmt_law {n:Nat} {d:Dk} (h:Live d) (ok:d.ok n) (n6:6≤n) :
  Live (fmtD n d)∧(fmtD n d).wait=[]∧(layD n (fmtD n d) 1 (kA 1 1 sNone) (kB 1 1 sNone)).2=true∧KD n (layD n (fmtD n d) 1 (kA 1 1 sNone) (kB 1 1 sNone)).1 1 1 sNone∧Live (layD n (fmtD n d) 1 (kA 1 1 sNone) (kB 1 1 sNone)).1:=by
 have hE:(⟨#[]⟩:ByteArray).size≤64:=by decide
 have nl:=ok.nl
 have e:fmtD n d=⟨(((d.now.set 0 full0).set 1 full0).set 2 full0).set 3 full0,(((d.now.set 0 full0).set 1 full0).set 2 full0).set 3 full0,[],-1,false⟩:=by
  unfold fmtD
  rw [live_write h (by omega) hE,live_write (live_mk _ _ _) (by omega) hE,live_write (live_mk _ _ _) (by omega) hE,live_write (live_mk _ _ _) (by omega) hE,live_flush (live_mk _ _ _)]
  rfl
 have hA:(kA 1 1 sNone).size≤64:=KNum.kA_size
 have hB:=knum_one.kB_size
 rw [e,live_lay (live_mk _ _ _) (by omega) hA hB]
 refine ⟨live_mk _ _ _,rfl,rfl,⟨⟨ok.n40,by simp [nl],by simp [nl],(fun _ hr=>by cases hr),by show (-1:Int)≤-1; omega,by show (-1:Int)≤_; omega⟩,n6,rfl,rfl,rfl,by omega,⟨?_,?_,knum_one⟩,.inl ?_⟩,live_mk _ _ _⟩
 ·show List.getD _ 2 _=_
  rw [getD_set_eq (by simp [nl]; omega)]
 ·show List.getD _ 3 _=_
  rw [getD_set_ne (by decide),getD_set_eq (by simp [nl]; omega)]
 ·show List.getD _ 0 _=_
  rw [getD_set_ne (by decide),getD_set_ne (by decide),getD_set_ne (by decide),getD_set_ne (by decide),getD_set_ne (by decide),getD_set_ne (by decide),getD_set_eq (by omega)]
theorem KpR.next {S:Nat→Prop} {w w':World} {K D n:Nat} {a:Option Addr} {cap:Nat} {k:Kp} {d:Dk} (h:KpR S w K D n a cap k) (hd:DkAt (grow S w w') w' 147 186 D n d) (kp:Keeps S w w'):KpR (grow S w w') w' K D n a cap { k with d:=d }:=by
 have hK:=(Array.getElem?_eq_some_iff.1 h.blk).1
 refine ⟨(kp.block K h.nk hK).trans h.blk,hd,fun e=>?_,fun b e=>?_,h.str.keeps kp (fun b o e hn=>(h.ap b o e hn).1),fun b o e hn=>⟨fun hS=>?_,(h.ap b o e hn).2⟩⟩
 ·rcases e with e | e
  ·exact h.nk e
  ·omega
 ·rcases e with e | e
  ·exact Nat.lt_of_lt_of_le (h.lt b e) kp.size
  ·exact e.2
 ·subst e
  have:=h.str.blt hn
  rcases hS with e | e
  ·exact (h.ap b o rfl hn).1 e
  ·omega
structure FF (S0:Nat→Prop) (w:World) (K D n:Nat) (k:Kp) (S:Nat→Prop) (wx:World):Prop where
 kr:KpR S wx K D n none 0 k
 sub:∀ b,S b→grow S0 w wx b
 keep:Keeps S0 w wx
theorem FF.next {S0 S:Nat→Prop} {w wx w':World} {K D n:Nat} {k:Kp} {d:Dk} (f:FF S0 w K D n k S wx) (hd:DkAt (grow S wx w') w' 147 186 D n d) (kp:Keeps S wx w'):FF S0 w K D n { k with d:=d } (grow S wx w') w':=by
 refine ⟨f.kr.next hd kp,fun b e=>?_,?_⟩
 ·rcases e with e | e
  ·rcases f.sub b e with e | e
   ·exact .inl e
   ·exact .inr ⟨e.1,Nat.lt_of_lt_of_le e.2 kp.size⟩
  ·exact .inr ⟨Nat.le_trans f.keep.size e.1,e.2⟩
 ·refine ⟨kp.os.trans f.keep.os,kp.tape.trans f.keep.tape,kp.output.trans f.keep.output,Nat.le_trans f.keep.size kp.size,fun b hb hlt=>?_⟩
  refine (kp.block b (fun e=>?_) (Nat.lt_of_lt_of_le hlt f.keep.size)).trans (f.keep.block b hb hlt)
  rcases f.sub b e with e | e
  ·exact hb e
  ·omega
def fmtW (n:Nat) (d:Dk):Nat→Dk
 | 0=>d
 | k+1=>(fmtW n d k).write n (k:Int) ⟨#[]⟩
theorem fmtW_facts {n:Nat} {d:Dk} (h:Live d) (ok:d.ok n) (n6:6≤n) (hw:d.wait.length≤800):∀ k,k≤4→Live (fmtW n d k)∧(fmtW n d k).ok n∧(fmtW n d k).wait.length≤800+k
 | 0,_=>⟨h,ok,hw⟩
 | k+1,hk=>by
  obtain ⟨h1,h2,h3⟩:=fmtW_facts h ok n6 hw k (by omega)
  refine ⟨?_,Dk.write_ok h2 _ _,?_⟩
  ·unfold fmtW; rw [live_write h1 (by omega) (by decide)]; exact live_mk _ _ _
  ·unfold fmtW; rw [live_write h1 (by omega) (by decide)]; simp; omega
def FmtPost (S:Nat→Prop) (w:World) (D n:Nat) (e:Ending) (w':World):Prop :=
 e=.returned .nilIface∧∃ d' S',DkAt S' w' 147 186 D n d'∧KD n d' 1 1 sNone∧Live d'∧Sz d'∧(∀ b,S' b→grow S w w' b)∧(∀ b,S' b→b<w'.heap.size)∧Keeps S w w'
set_option maxRecDepth 100000 in
set_option maxHeartbeats 4000000 in
theorem format_any (S:Nat→Prop) (w:World) (D n:Nat) (d:Dk) (h:DkAt S w 147 186 D n d) (hl:Live d) (ok:d.ok n) (sz:Sz d) (n6:6≤n) (hw:d.wait.length≤800) (lt:∀ b,S b→b<w.heap.size) (gl:8≤w.heap.size) (tt:∀ w',Keeps S w w'→Tabs w') :
  Calls Tryz.prog 44 #[.pointer (some ⟨D,0,none⟩)] w fun e w'=>FmtPost S w D n e w':=by
 have HH:=Lib.hid h
 have HL:=Lib.hid hl
 have OK:=Lib.hid ok
 have LT:=Lib.hid lt
 have TT:=Lib.hid tt
 have SZ:=Lib.hid (show Sz (layD n (fmtD n d) 1 (kA 1 1 sNone) (kB 1 1 sNone)).1 from Sz.lay (Sz.flush (Sz.write (Sz.write (Sz.write (Sz.write sz _ _) _ _) _ _) _ _)))
 have FW:=Lib.hid (fmtW_facts hl ok n6 hw)
 have FL:=Lib.hid (fmt_law hl ok n6)
 have SEC:=Lib.hid (fun w' (hd:DkAt S w' 147 186 D n d)=>dsectors_any S w' D n d hd)
 have n40:=ok.n40
 clear h hl ok lt tt hw sz
 go_enter Tryz.func44,Tryz.ntmps44
 go_wp2_with fail
 refine (SEC.out _ HH.out).mono ?_
 rintro e w0 ⟨rfl,rfl⟩
 have hn6:¬ (n:Int)<6:=by omega
 have F0:=Lib.hid (show FF S w0 w0.heap.size D n ⟨fmtW n d 0,0,0,sNone⟩ S (w0.alloc (.cells #[.pointer (some ⟨D,0,none⟩),.int .i64 0,.int .i64 0,.int .i64 0,.slice none 0 0,.int .i64 0,.int .i64 0,.bool false] 121)) from
  ⟨⟨heap_alloc_new w0 _,HH.out.below (bal w0 _),fun e=>by have:=LT.out _ e; omega,fun b e=>by have:=LT.out b e; simp; omega,⟨by simp [sNone],Pairs.nil _ _ _⟩,fun b o e=>by cases e⟩,fun b e=>.inl e,Keeps.of_below (bal w0 _)⟩)
 go_wp2
 go_loopw [4,5,14] (fun _ _ i wr=>∃ k:Nat,k≤4∧i=.int .i64 k∧∃ S',FF S w0 w0.heap.size D n ⟨fmtW n d k,0,0,sNone⟩ S' wr) (fun _ _ i _=>4 - (RowKit.intOf i).toNat)
 case atStart=>exact ⟨0,by omega,rfl,S,F0.out⟩
 case round =>
  obtain ⟨k,hk,rfl,S1,hf⟩:=hrel
  have F1:=Lib.hid hf
  clear hf
  by_cases hlt:k<4
  ·obtain ⟨h1,h2,h3⟩:=FW.out k (by omega)
   have ST:=Lib.hid (live_steps h1)
   have hk4:((k:Nat):Int)<4:=by omega
   have WR:=Lib.hid (dwrite_any S1 wr D n (fmtW n d k) (k:Int) ⟨#[]⟩ F1.out.kr.dk h2 (by omega))
   clear h1 h2 h3
   go_wp2_with fail
   refine WR.out.mono ?_
   rintro e w3 ⟨rfl,hd,kp⟩
   have F2:=Lib.hid (show FF S w0 w0.heap.size D n ⟨fmtW n d (k+1),0,0,sNone⟩ (grow S1 wr w3) w3 from F1.out.next hd kp)
   rw [Dk.writeF_of (by omega) (by omega) (by decide),ST.out]
   simp only [if_true]
   rw [errV_nil]
   clear hd kp
   go_wp2
   go_roundw
   case rel=>exact ⟨k+1,by omega,by go_num,_,F2.out⟩
   case measure=>simp [RowKit.intOf]; omega
  ·obtain rfl:k=4:=by omega
   obtain ⟨h1,h2,h3⟩:=FW.out 4 (by omega)
   have ST:=Lib.hid (live_steps h1)
   have FLU:=Lib.hid (dflush_any S1 wr D n (fmtW n d 4) F1.out.kr.dk h2)
   have OKF:=Lib.hid (show (fmtD n d).ok n from Dk.flush_ok' h2)
   clear h1 h2 h3
   go_wp2_with fail
   refine FLU.out.mono ?_
   rintro e w3 ⟨rfl,hd,kp⟩
   have F2:=Lib.hid (show FF S w0 w0.heap.size D n ⟨fmtD n d,0,0,sNone⟩ (grow S1 wr w3) w3 from F1.out.next (hd.mono (fun _ e=>.inl e)) kp)
   rw [ST.out]
   simp only [if_true]
   rw [errV_nil]
   clear hd kp
   have LAY:=Lib.hid (lay_any _ w3 w0.heap.size D n none none 0 0 ⟨fmtD n d,0,0,sNone⟩ 1 sNone F2.out.kr OKF.out (by show (fmtD n d).wait.length≤900; rw [FL.out.2.1]; simp) n6 (by show (0:Int)≤0; omega) (by show KNum (0+1) 1 sNone; exact knum_one) ⟨by simp [sNone],Pairs.nil _ _ _⟩ (fun b o e=>by cases e) (TT.out _ F2.out.keep))
   go_wp2_with fail
   refine LAY.out.mono ?_
   rintro e w4 ⟨rfl,S2,a2,cap2,k2,s2,kk2,-⟩
   have RES:(⟨fmtD n d,0,0,sNone⟩:Kp).lay n 1 sNone=(⟨(layD n (fmtD n d) 1 (kA 1 1 sNone) (kB 1 1 sNone)).1,1,1,sNone⟩,0):=by
    unfold Kp.lay
    show (if (layD n (fmtD n d) 1 (kA 1 1 sNone) (kB 1 1 sNone)).2=true then _ else _)=_
    rw [if_pos FL.out.2.2.1]
    rfl
   rw [RES] at k2 ⊢
   have POST:=Lib.hid (show FmtPost S w0 D n (.returned .nilIface) w4 from by
    refine ⟨rfl,_,S2,k2.dk,FL.out.2.2.2.1,FL.out.2.2.2.2,SZ.out,fun b e=>?_,k2.lt,?_⟩
    ·rcases s2 b e with e | e
     ·rcases F2.out.sub b e with e | e
      ·exact .inl e
      ·exact .inr ⟨e.1,Nat.lt_of_lt_of_le e.2 kk2.size⟩
     ·exact .inr ⟨Nat.le_trans F2.out.keep.size e.1,e.2⟩
    ·refine ⟨kk2.os.trans F2.out.keep.os,kk2.tape.trans F2.out.keep.tape,kk2.output.trans F2.out.keep.output,Nat.le_trans F2.out.keep.size kk2.size,fun b hb hlt=>?_⟩
     refine (kk2.block b (fun e=>?_) (Nat.lt_of_lt_of_le hlt F2.out.keep.size)).trans (F2.out.keep.block b hb hlt)
     rcases e with e | e
     ·rcases F2.out.sub b e with e | e
      ·exact hb e
      ·omega
     ·omega)
   clear k2 s2 kk2 RES
   rw [errV_nil]
   go_wp2
   go_ret
   exact POST.out
end Go.Proofs.YtbkmdmmgalmmaaaGreatDoor

namespace Go.Proofs.YtbkmdmmgalmmaaaGreatDoor
open Go.RowKit Go.Lib
theorem results_look {P:Program} {fn:Func} {p q r u:Tmp} {ty:TypeId} (h:fn.results=#[.tmp p,.tmp q,.cell r ty,.tmp u]) (tmps:Array Value) (w:World) (g:Nat) (t:TypeId) (cs:Array Value) (d:TypeDesc) (v1 v2 v3:Value)
  (hp:tmps.getD p undef=v1) (hq:tmps.getD q undef=v2) (hr:tmps.getD r undef=.pointer (some ⟨g,0,none⟩)) (hu':tmps.getD u undef=v3) (hg:w.heap[g]?=some (.cells cs t (0,0)))
  (hu:P.underlying ty=some d) (hd:(match d with | .struct _ | .array _ _=>true | _=>false)=true) (hi:(P.info? ty).map (·.size)=some cs.size) :
  (results fn tmps).run P w=.ok (.tuple #[v1,v2,.agg cs,v3]) w:=by
 have hp':tmps[p]?.getD undef=v1:=by simpa using hp
 have hq':tmps[q]?.getD undef=v2:=by simpa using hq
 have hr':tmps[r]?.getD undef=.pointer (some ⟨g,0,none⟩):=by simpa using hr
 have hu2:tmps[u]?.getD undef=v3:=by simpa using hu'
 simp [results,h,hp',hq',hr',hu2,asAddr,run_loadVar_row w g t ty cs (0,0) d hg hu hd hi]
theorem read_live {S:Nat→Prop} {w:World} {D n:Nat} {d:Dk} (h:DkAt S w 147 186 D n d) (ok:d.ok n) (up:d.down=false) (i:Nat) (hi:i<n) :
  Calls Tryz.prog 129 #[.pointer (some ⟨D,0,none⟩),.int .i64 (i:Int)] w fun e w'=>e=.returned (.tuple #[.string (d.now.getD i ⟨#[]⟩),.nilIface])∧w'=w:=by
 have hs:d.readS n (i:Int)=d.now.getD i ⟨#[]⟩:=by
  unfold Dk.readS
  rw [if_neg (by simp [up]),if_neg (by omega)]
  rfl
 have hf:d.readF n (i:Int)=0:=by
  unfold Dk.readF
  rw [if_neg (by simp [up]),if_neg (by omega)]
 have:=dread_any S w D n d (i:Int) h ok
 rw [hs,hf,errV_nil] at this
 exact this
set_option maxRecDepth 100000 in
set_option maxHeartbeats 4000000 in
theorem look_none (S:Nat→Prop) (w:World) (D n:Nat) (d:Dk) (p:Nat) (h:DkAt S w 147 186 D n d) (ok:d.ok n) (up:d.down=false) (sz:Sz d) (hp:2*p+1<n) (h0:d.now.getD (2*p) ⟨#[]⟩=full0) (t:Tabs w) :
  Calls Tryz.prog 114 #[.pointer (some ⟨D,0,none⟩),.int .i64 (p:Int)] w fun e w'=>e=.returned (.tuple #[.int .i64 0,.int .i64 0,stV sNone none 0,.nilIface])∧Below w.heap.size w w':=by
 have TT:=Lib.hid t
 have n40:=ok.n40
 obtain ⟨X0,hX0⟩:∃ X,X=d.now.getD (2*p) ⟨#[]⟩:=⟨_,rfl⟩
 obtain ⟨X1,hX1⟩:∃ X,X=d.now.getD (2*p+1) ⟨#[]⟩:=⟨_,rfl⟩
 have s0:X0.size=64:=hX0▸sz.sector ok (by omega)
 have s1:X1.size=64:=hX1▸sz.sector ok (by omega)
 obtain ⟨w1,hw1⟩:∃ w1,w1=w.alloc (.cells #[.int .i64 0,.slice none 0 0,.int .i64 0,.int .i64 0,.bool false] 35):=⟨_,rfl⟩
 have B1:=Lib.hid (show Below w.heap.size w w1 from hw1▸bal w _)
 have R1:=Lib.hid (show w1.heap[w.heap.size]?=some (.cells #[.int .i64 0,.slice none 0 0,.int .i64 0,.int .i64 0,.bool false] 35 (0,0)) from hw1▸heap_alloc_new w _)
 have D1:=Lib.hid (show DkAt S w1 147 186 D n d from hw1▸h.below (bal w _))
 have RD0:=Lib.hid (show Calls Tryz.prog 129 #[.pointer (some ⟨D,0,none⟩),.int .i64 (2*(p:Int))] w1 fun e w'=>e=.returned (.tuple #[.string X0,.nilIface])∧w'=w1 from by
  have:=read_live D1.out ok up (2*p) (by omega)
  rw [← hX0,show ((2*p:Nat):Int)=2*(p:Int) by omega] at this
  exact this)
 have RD1:=Lib.hid (show Calls Tryz.prog 129 #[.pointer (some ⟨D,0,none⟩),.int .i64 (2*(p:Int)+1)] w1 fun e w'=>e=.returned (.tuple #[.string X1,.nilIface])∧w'=w1 from by
  have:=read_live D1.out ok up (2*p+1) hp
  rw [← hX1,show ((2*p+1:Nat):Int)=2*(p:Int)+1 by omega] at this
  exact this)
 obtain ⟨r,hr⟩:∃ r:Bs,(⟨#[]⟩:ByteArray) ++ X0 ++ X1=bsB (0 :: r):=by
  refine ⟨List.replicate 63 0 ++ X1.data.toList,?_⟩
  rw [hX0,h0,← list_bsB X1,show (⟨#[]⟩:ByteArray)=bsB [] from rfl,full0,show (⟨#[]⟩:ByteArray)=bsB [] from rfl,fullB_bs,bsB_append,bsB_append,bsB_list]
  rfl
 have hlen:(0 :: r).length=128:=by
  have:=congrArg ByteArray.size hr
  rw [ByteArray.size_append,ByteArray.size_append,bsB_size,s0,s1] at this
  rw [← this]
  rfl
 obtain ⟨aa,l,hsp⟩:=split_zero 4 r
 have HR:=Lib.hid hr
 have HLEN:=Lib.hid hlen
 have HSP:=Lib.hid hsp
 have hp20:(p:Int)≤20:=by omega
 have HW1:=Lib.hid hw1
 have a1:=fun w=>run_string_add_sum (P:=Tryz.prog) w (⟨#[]⟩:ByteArray) X0 (by rw [s0]; simp [ByteArray.size])
 have a2:=fun w=>run_string_add_sum (P:=Tryz.prog) w ((⟨#[]⟩:ByteArray) ++ X0) X1 (by rw [ByteArray.size_append,s0,s1]; simp [ByteArray.size])
 have hp0:(0:Int)≤(p:Int):=by omega
 clear h ok up sz h0 hX0 hX1 t hw1 hr hlen hsp
 go_enter Tryz.func114,Tryz.ntmps114
 go_wp2
 rw [← HW1.out]
 refine wp_loop_rounds 3 ?_
 rw [rounds_succ]
 go_wp2_with fail
 refine RD0.out.mono ?_
 rintro e w2 ⟨rfl,hw⟩
 obtain rfl:=hw
 go_wp2
 rw [rounds_succ]
 go_wp2_with fail
 refine RD1.out.mono ?_
 rintro e w2 ⟨rfl,hw⟩
 obtain rfl:=hw
 go_wp2
 rw [rounds_succ]
 go_wp2_with fail
 rw [HR.out]
 refine (split5_any (0 :: r) _ (TT.out.on B1.out) (by rw [HLEN.out]; omega) (by rw [HLEN.out]; omega)).mono ?_
 rintro e w3 ⟨rfl,b3,lt3,cells⟩
 obtain ⟨L,hL⟩:∃ L,L=(Lib.splitK [32] 0 4 (0 :: r)).length:=⟨_,rfl⟩
 have L0:0<L:=by rw [hL,HSP.out]; simp
 have c0:=cells 0 (0 :: aa) (by rw [HSP.out]; rfl)
 rw [← hL]
 have q0:((bsB (0 :: aa)).toList == [107])=false:=by rw [ByteArray.toList_eq,bsB_list]; rfl
 have B3:=Lib.hid (B1.out.trans (b3.mono B1.out.size))
 have R3:=Lib.hid ((b3.block w.heap.size (Array.getElem?_eq_some_iff.1 R1.out).1).trans R1.out)
 obtain ⟨⟨z0,z1,z2,z3,z4⟩,f0,f1,f2,f3,f4⟩:=cells5 R3.out
 clear cells hL b3 a1 a2
 by_cases h5:(L:Int)<5
 ·go_wp2
  refine bodyPost_ret (v:=.tuple #[.int .i64 0,.int .i64 0,stV sNone none 0,.nilIface]) (results_look Tryz.results114 _ _ w.heap.size 35 #[.int .i64 0,.slice none 0 0,.int .i64 0,.int .i64 0,.bool false] _ (.int .i64 0) (.int .i64 0) .nilIface rfl rfl rfl rfl (five_at R3.out _ _ _ _ _) state_row.1 rfl state_row.2) rfl ?_
  exact ⟨rfl,five_below B3.out (Nat.le_refl _) _ _ _ _ _⟩
 ·have h5':¬ (L:Int)≤0:=by omega
  go_wp2
  refine bodyPost_ret (v:=.tuple #[.int .i64 0,.int .i64 0,stV sNone none 0,.nilIface]) (results_look Tryz.results114 _ _ w.heap.size 35 #[.int .i64 0,.slice none 0 0,.int .i64 0,.int .i64 0,.bool false] _ (.int .i64 0) (.int .i64 0) .nilIface rfl rfl rfl rfl (five_at R3.out _ _ _ _ _) state_row.1 rfl state_row.2) rfl ?_
  exact ⟨rfl,five_below B3.out (Nat.le_refl _) _ _ _ _ _⟩
end Go.Proofs.YtbkmdmmgalmmaaaGreatDoor
