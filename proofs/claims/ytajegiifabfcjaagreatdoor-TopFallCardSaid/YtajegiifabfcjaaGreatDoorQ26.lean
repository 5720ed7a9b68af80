/-
  KpFmt, KpLook, KpSome, KpOpen
-/
import Derived.Test.YtajegiifabfcjaaGreatDoorQ25
import Derived.Deep.RegionHeld3
import Derived.BigQuiet
namespace Go.Proofs.YtajegiifabfcjaaGreatDoor
open Go.RowKit
def Live (d:Dk):Prop:=d.fuse=-1∧d.down=false
theorem live_step {d:Dk} (h:Live d):d.step=d:=by
 obtain ⟨kept,now,wait,f,b⟩:=d
 obtain ⟨rfl,rfl⟩:f=-1∧b=false:=h
 rfl
theorem live_steps {d:Dk} (h:Live d):d.steps=true:=Dk.steps_of h.1 h.2
theorem live_write {n p:Nat} {d:Dk} {s:ByteArray} (h:Live d) (hp:p<n) (hs:s.size≤64):d.write n (p:Int) s=⟨d.kept,d.now.set p (fullB s),d.wait ++ [(p,fullB s)],-1,false⟩:=by
 rw [Dk.write_steps hp hs (live_steps h),live_step h]
 dsimp only
 rw [h.1,h.2]
theorem live_flush {d:Dk} (h:Live d):d.flush=⟨d.now,d.now,[],-1,false⟩:=by
 rw [Dk.flush_steps (live_steps h),live_step h]
 dsimp only
 rw [h.1,h.2]
theorem live_mk (a b:List ByteArray) (c:List (Nat × ByteArray)):Live ⟨a,b,c,-1,false⟩:=⟨rfl,rfl⟩
theorem live_lay {n a:Nat} {d:Dk} {A B:ByteArray} (h:Live d) (ha:2*a+1<n) (hA:A.size≤64) (hB:B.size≤64) :
  layD n d a A B=(⟨((d.now.set (2*a) full0).set (2*a+1) (fullB B)).set (2*a) (fullB A),((d.now.set (2*a) full0).set (2*a+1) (fullB B)).set (2*a) (fullB A),[],-1,false⟩,true):=by
 have hE:(⟨#[]⟩:ByteArray).size≤64:=by decide
 have nf:∀ {x:Dk},Live x→¬ x.steps=false:=fun hx e=>by rw [live_steps hx] at e; cases e
 unfold layD
 dsimp only
 rw [live_write h (by omega) hE,if_neg (nf h),if_neg (nf (live_mk _ _ _)),live_flush (live_mk _ _ _),if_neg (nf (live_mk _ _ _)),live_write (live_mk _ _ _) ha hB,if_neg (nf (live_mk _ _ _)),live_flush (live_mk _ _ _),
  if_neg (nf (live_mk _ _ _)),live_write (live_mk _ _ _) (by omega) hA,if_neg (nf (live_mk _ _ _)),live_flush (live_mk _ _ _)]
 rfl
def sNone:St:=⟨0,[],0,0,false⟩
theorem good_none:Good sNone:=(good_iff _).1 (by decide)
theorem knum_one:KNum 1 1 sNone:=⟨by omega,by omega,by omega,by omega,good_none⟩
def fmtD (n:Nat) (d:Dk):Dk:=((((d.write n ((0:Nat):Int) ⟨#[]⟩).write n ((1:Nat):Int) ⟨#[]⟩).write n ((2:Nat):Int) ⟨#[]⟩).write n ((3:Nat):Int) ⟨#[]⟩).flush
theorem fmt_law {n:Nat} {d:Dk} (h:Live d) (ok:d.ok n) (n6:6≤n) :
  Live (fmtD n d)∧(fmtD n d).wait=[]∧(layD n (fmtD n d) 1 (kA 1 1 sNone) (kB 1 1 sNone)).2=true∧KD n (layD n (fmtD n d) 1 (kA 1 1 sNone) (kB 1 1 sNone)).1 1 1 sNone∧Live (layD n (fmtD n d) 1 (kA 1 1 sNone) (kB 1 1 sNone)).1:=by
 have hE:(⟨#[]⟩:ByteArray).size≤64:=by decide
 have nl:=ok.nl
 have e:fmtD n d=⟨(((d.now.set 0 full0).set 1 full0).set 2 full0).set 3 full0,(((d.now.set 0 full0).set 1 full0).set 2 full0).set 3 full0,[],-1,false⟩:=by
  unfold fmtD
  rw [live_write h (by omega) hE,live_write (live_mk _ _ _) (by omega) hE,live_write (live_mk _ _ _) (by omega) hE,live_write (live_mk _ _ _) (by omega) hE,live_flush (live_mk _ _ _)]
  rfl
 have hA:(kA 1 1 sNone).size≤64:=KNum.kA_size
 have hB:=knum_one.kB_size
 rw [e,live_lay (live_mk _ _ _) (by omega) hA hB]
 refine ⟨live_mk _ _ _,rfl,rfl,⟨⟨ok.n40,by simp [nl],by simp [nl],(fun _ hr=>by cases hr),by show (-1:Int)≤-1; omega,by show (-1:Int)≤_; omega⟩,n6,rfl,rfl,rfl,by omega,⟨?_,?_,knum_one⟩,.inl ?_⟩,live_mk _ _ _⟩
 ·show List.getD _ 2 _=_
  rw [getD_set_eq (by simp [nl]; omega)]
 ·show List.getD _ 3 _=_
  rw [getD_set_ne (by decide),getD_set_eq (by simp [nl]; omega)]
 ·show List.getD _ 0 _=_
  rw [getD_set_ne (by decide),getD_set_ne (by decide),getD_set_ne (by decide),getD_set_ne (by decide),getD_set_ne (by decide),getD_set_ne (by decide),getD_set_eq (by omega)]
theorem KpR.next {S:Nat→Prop} {w w':World} {K D n:Nat} {a:Option Addr} {cap:Nat} {k:Kp} {d:Dk} (h:KpR S w K D n a cap k) (hd:DkAt (grow S w w') w' 132 134 D n d) (kp:Keeps S w w'):KpR (grow S w w') w' K D n a cap { k with d:=d }:=by
 have hK:=(Array.getElem?_eq_some_iff.1 h.blk).1
 refine ⟨(kp.block K h.nk hK).trans h.blk,hd,fun e=>?_,fun b e=>?_,h.str.keeps kp (fun b o e hn=>(h.ap b o e hn).1),fun b o e hn=>⟨fun hS=>?_,(h.ap b o e hn).2⟩⟩
 ·rcases e with e | e
  ·exact h.nk e
  ·omega
 ·rcases e with e | e
  ·exact Nat.lt_of_lt_of_le (h.lt b e) kp.size
  ·exact e.2
 ·subst e
  have:=h.str.blt hn
  rcases hS with e | e
  ·exact (h.ap b o rfl hn).1 e
  ·omega
structure FF (S0:Nat→Prop) (w:World) (K D n:Nat) (k:Kp) (S:Nat→Prop) (wx:World):Prop where
 kr:KpR S wx K D n none 0 k
 sub:∀ b,S b→grow S0 w wx b
 keep:Keeps S0 w wx
theorem FF.next {S0 S:Nat→Prop} {w wx w':World} {K D n:Nat} {k:Kp} {d:Dk} (f:FF S0 w K D n k S wx) (hd:DkAt (grow S wx w') w' 132 134 D n d) (kp:Keeps S wx w'):FF S0 w K D n { k with d:=d } (grow S wx w') w':=by
 refine ⟨f.kr.next hd kp,fun b e=>?_,?_⟩
 ·rcases e with e | e
  ·rcases f.sub b e with e | e
   ·exact .inl e
   ·exact .inr ⟨e.1,Nat.lt_of_lt_of_le e.2 kp.size⟩
  ·exact .inr ⟨Nat.le_trans f.keep.size e.1,e.2⟩
 ·refine ⟨kp.os.trans f.keep.os,kp.tape.trans f.keep.tape,kp.output.trans f.keep.output,Nat.le_trans f.keep.size kp.size,fun b hb hlt=>?_⟩
  refine (kp.block b (fun e=>?_) (Nat.lt_of_lt_of_le hlt f.keep.size)).trans (f.keep.block b hb hlt)
  rcases f.sub b e with e | e
  ·exact hb e
  ·omega
def fmtW (n:Nat) (d:Dk):Nat→Dk
 | 0=>d
 | k+1=>(fmtW n d k).write n (k:Int) ⟨#[]⟩
theorem fmtW_facts {n:Nat} {d:Dk} (h:Live d) (ok:d.ok n) (n6:6≤n) (hw:d.wait.length≤800):∀ k,k≤4→Live (fmtW n d k)∧(fmtW n d k).ok n∧(fmtW n d k).wait.length≤800+k
 | 0,_=>⟨h,ok,hw⟩
 | k+1,hk=>by
  obtain ⟨h1,h2,h3⟩:=fmtW_facts h ok n6 hw k (by omega)
  refine ⟨?_,Dk.write_ok h2 _ _,?_⟩
  ·unfold fmtW; rw [live_write h1 (by omega) (by decide)]; exact live_mk _ _ _
  ·unfold fmtW; rw [live_write h1 (by omega) (by decide)]; simp; omega
def FmtPost (S:Nat→Prop) (w:World) (D n:Nat) (e:Ending) (w':World):Prop :=
 e=.returned .nilIface∧∃ d' S',DkAt S' w' 132 134 D n d'∧KD n d' 1 1 sNone∧Live d'∧Sz d'∧(∀ b,S' b→grow S w w' b)∧(∀ b,S' b→b<w'.heap.size)∧Keeps S w w'
set_option maxRecDepth 100000 in
set_option maxHeartbeats 4000000 in
theorem format_any (S:Nat→Prop) (w:World) (D n:Nat) (d:Dk) (h:DkAt S w 132 134 D n d) (hl:Live d) (ok:d.ok n) (sz:Sz d) (n6:6≤n) (hw:d.wait.length≤800) (lt:∀ b,S b→b<w.heap.size) (gl:8≤w.heap.size) (tt:∀ w',Keeps S w w'→Tabs w') :
  Calls Tryz.prog 47 #[.pointer (some ⟨D,0,none⟩)] w fun e w'=>FmtPost S w D n e w':=by
 have HH:=Lib.hid h
 have HL:=Lib.hid hl
 have OK:=Lib.hid ok
 have LT:=Lib.hid lt
 have TT:=Lib.hid tt
 have SZ:=Lib.hid (show Sz (layD n (fmtD n d) 1 (kA 1 1 sNone) (kB 1 1 sNone)).1 from Sz.lay (Sz.flush (Sz.write (Sz.write (Sz.write (Sz.write sz _ _) _ _) _ _) _ _)))
 have FW:=Lib.hid (fmtW_facts hl ok n6 hw)
 have FL:=Lib.hid (fmt_law hl ok n6)
 have SEC:=Lib.hid (fun w' (hd:DkAt S w' 132 134 D n d)=>dsectors_any S w' D n d hd)
 have n40:=ok.n40
 clear h hl ok lt tt hw sz
 go_enter Tryz.func47,Tryz.ntmps47
 go_wp2_with fail
 refine (SEC.out _ HH.out).mono ?_
 rintro e w0 ⟨rfl,rfl⟩
 have hn6:¬ (n:Int)<6:=by omega
 have F0:=Lib.hid (show FF S w0 w0.heap.size D n ⟨fmtW n d 0,0,0,sNone⟩ S (w0.alloc (.cells #[.pointer (some ⟨D,0,none⟩),.int .i64 0,.int .i64 0,.int .i64 0,.slice none 0 0,.int .i64 0,.int .i64 0,.bool false] 149)) from
  ⟨⟨heap_alloc_new w0 _,HH.out.below (bal w0 _),fun e=>by have:=LT.out _ e; omega,fun b e=>by have:=LT.out b e; simp; omega,⟨by simp [sNone],Pairs.nil _ _ _⟩,fun b o e=>by cases e⟩,fun b e=>.inl e,Keeps.of_below (bal w0 _)⟩)
 go_wp2
 go_loopw [4,5,14] (fun _ _ i wr=>∃ k:Nat,k≤4∧i=.int .i64 k∧∃ S',FF S w0 w0.heap.size D n ⟨fmtW n d k,0,0,sNone⟩ S' wr) (fun _ _ i _=>4 - (RowKit.intOf i).toNat)
 case atStart=>exact ⟨0,by omega,rfl,S,F0.out⟩
 case round =>
  obtain ⟨k,hk,rfl,S1,hf⟩:=hrel
  have F1:=Lib.hid hf
  clear hf
  by_cases hlt:k<4
  ·obtain ⟨h1,h2,h3⟩:=FW.out k (by omega)
   have ST:=Lib.hid (live_steps h1)
   have hk4:((k:Nat):Int)<4:=by omega
   have WR:=Lib.hid (dwrite_any S1 wr D n (fmtW n d k) (k:Int) ⟨#[]⟩ F1.out.kr.dk h2 (by omega))
   clear h1 h2 h3
   go_wp2_with fail
   refine WR.out.mono ?_
   rintro e w3 ⟨rfl,hd,kp⟩
   have F2:=Lib.hid (show FF S w0 w0.heap.size D n ⟨fmtW n d (k+1),0,0,sNone⟩ (grow S1 wr w3) w3 from F1.out.next hd kp)
   rw [Dk.writeF_of (by omega) (by omega) (by decide),ST.out]
   simp only [if_true]
   rw [errV_nil]
   clear hd kp
   go_wp2
   go_roundw
   case rel=>exact ⟨k+1,by omega,by go_num,_,F2.out⟩
   case measure=>simp [RowKit.intOf]; omega
  ·obtain rfl:k=4:=by omega
   obtain ⟨h1,h2,h3⟩:=FW.out 4 (by omega)
   have ST:=Lib.hid (live_steps h1)
   have FLU:=Lib.hid (dflush_any S1 wr D n (fmtW n d 4) F1.out.kr.dk h2)
   have OKF:=Lib.hid (show (fmtD n d).ok n from Dk.flush_ok' h2)
   clear h1 h2 h3
   go_wp2_with fail
   refine FLU.out.mono ?_
   rintro e w3 ⟨rfl,hd,kp⟩
   have F2:=Lib.hid (show FF S w0 w0.heap.size D n ⟨fmtD n d,0,0,sNone⟩ (grow S1 wr w3) w3 from F1.out.next (hd.mono (fun _ e=>.inl e)) kp)
   rw [ST.out]
   simp only [if_true]
   rw [errV_nil]
   clear hd kp
   have LAY:=Lib.hid (lay_any _ w3 w0.heap.size D n none none 0 0 ⟨fmtD n d,0,0,sNone⟩ 1 sNone F2.out.kr OKF.out (by show (fmtD n d).wait.length≤900; rw [FL.out.2.1]; simp) n6 (by show (0:Int)≤0; omega) (by show KNum (0+1) 1 sNone; exact knum_one) ⟨by simp [sNone],Pairs.nil _ _ _⟩ (fun b o e=>by cases e) (TT.out _ F2.out.keep))
   go_wp2_with fail
   refine LAY.out.mono ?_
   rintro e w4 ⟨rfl,S2,a2,cap2,k2,s2,kk2,-⟩
   have RES:(⟨fmtD n d,0,0,sNone⟩:Kp).lay n 1 sNone=(⟨(layD n (fmtD n d) 1 (kA 1 1 sNone) (kB 1 1 sNone)).1,1,1,sNone⟩,0):=by
    unfold Kp.lay
    show (if (layD n (fmtD n d) 1 (kA 1 1 sNone) (kB 1 1 sNone)).2=true then _ else _)=_
    rw [if_pos FL.out.2.2.1]
    rfl
   rw [RES] at k2 ⊢
   have POST:=Lib.hid (show FmtPost S w0 D n (.returned .nilIface) w4 from by
    refine ⟨rfl,_,S2,k2.dk,FL.out.2.2.2.1,FL.out.2.2.2.2,SZ.out,fun b e=>?_,k2.lt,?_⟩
    ·rcases s2 b e with e | e
     ·rcases F2.out.sub b e with e | e
      ·exact .inl e
      ·exact .inr ⟨e.1,Nat.lt_of_lt_of_le e.2 kk2.size⟩
     ·exact .inr ⟨Nat.le_trans F2.out.keep.size e.1,e.2⟩
    ·refine ⟨kk2.os.trans F2.out.keep.os,kk2.tape.trans F2.out.keep.tape,kk2.output.trans F2.out.keep.output,Nat.le_trans F2.out.keep.size kk2.size,fun b hb hlt=>?_⟩
     refine (kk2.block b (fun e=>?_) (Nat.lt_of_lt_of_le hlt F2.out.keep.size)).trans (F2.out.keep.block b hb hlt)
     rcases e with e | e
     ·rcases F2.out.sub b e with e | e
      ·exact hb e
      ·omega
     ·omega)
   clear k2 s2 kk2 RES
   rw [errV_nil]
   go_wp2
   go_ret
   exact POST.out
end Go.Proofs.YtajegiifabfcjaaGreatDoor
namespace Go.Proofs.YtajegiifabfcjaaGreatDoor
open Go.RowKit Go.Lib
theorem results_look {P:Program} {fn:Func} {p q r u:Tmp} {ty:TypeId} (h:fn.results=#[.tmp p,.tmp q,.cell r ty,.tmp u]) (tmps:Array Value) (w:World) (g:Nat) (t:TypeId) (cs:Array Value) (d:TypeDesc) (v1 v2 v3:Value)
  (hp:tmps.getD p undef=v1) (hq:tmps.getD q undef=v2) (hr:tmps.getD r undef=.pointer (some ⟨g,0,none⟩)) (hu':tmps.getD u undef=v3) (hg:w.heap[g]?=some (.cells cs t (0,0)))
  (hu:P.underlying ty=some d) (hd:(match d with | .struct _ | .array _ _=>true | _=>false)=true) (hi:(P.info? ty).map (·.size)=some cs.size) :
  (results fn tmps).run P w=.ok (.tuple #[v1,v2,.agg cs,v3]) w:=by
 have hp':tmps[p]?.getD undef=v1:=by simpa using hp
 have hq':tmps[q]?.getD undef=v2:=by simpa using hq
 have hr':tmps[r]?.getD undef=.pointer (some ⟨g,0,none⟩):=by simpa using hr
 have hu2:tmps[u]?.getD undef=v3:=by simpa using hu'
 simp [results,h,hp',hq',hr',hu2,asAddr,run_loadVar_row w g t ty cs (0,0) d hg hu hd hi]
theorem read_live {S:Nat→Prop} {w:World} {D n:Nat} {d:Dk} (h:DkAt S w 132 134 D n d) (ok:d.ok n) (up:d.down=false) (i:Nat) (hi:i<n) :
  Calls Tryz.prog 127 #[.pointer (some ⟨D,0,none⟩),.int .i64 (i:Int)] w fun e w'=>e=.returned (.tuple #[.string (d.now.getD i ⟨#[]⟩),.nilIface])∧w'=w:=by
 have hs:d.readS n (i:Int)=d.now.getD i ⟨#[]⟩:=by
  unfold Dk.readS
  rw [if_neg (by simp [up]),if_neg (by omega)]
  rfl
 have hf:d.readF n (i:Int)=0:=by
  unfold Dk.readF
  rw [if_neg (by simp [up]),if_neg (by omega)]
 have:=dread_any S w D n d (i:Int) h ok
 rw [hs,hf,errV_nil] at this
 exact this
set_option maxRecDepth 100000 in
set_option maxHeartbeats 4000000 in
theorem look_none (S:Nat→Prop) (w:World) (D n:Nat) (d:Dk) (p:Nat) (h:DkAt S w 132 134 D n d) (ok:d.ok n) (up:d.down=false) (sz:Sz d) (hp:2*p+1<n) (h0:d.now.getD (2*p) ⟨#[]⟩=full0) (t:Tabs w) :
  Calls Tryz.prog 105 #[.pointer (some ⟨D,0,none⟩),.int .i64 (p:Int)] w fun e w'=>e=.returned (.tuple #[.int .i64 0,.int .i64 0,stV sNone none 0,.nilIface])∧Below w.heap.size w w':=by
 have TT:=Lib.hid t
 have n40:=ok.n40
 obtain ⟨X0,hX0⟩:∃ X,X=d.now.getD (2*p) ⟨#[]⟩:=⟨_,rfl⟩
 obtain ⟨X1,hX1⟩:∃ X,X=d.now.getD (2*p+1) ⟨#[]⟩:=⟨_,rfl⟩
 have s0:X0.size=64:=hX0▸sz.sector ok (by omega)
 have s1:X1.size=64:=hX1▸sz.sector ok (by omega)
 obtain ⟨w1,hw1⟩:∃ w1,w1=w.alloc (.cells #[.int .i64 0,.slice none 0 0,.int .i64 0,.int .i64 0,.bool false] 35):=⟨_,rfl⟩
 have B1:=Lib.hid (show Below w.heap.size w w1 from hw1▸bal w _)
 have R1:=Lib.hid (show w1.heap[w.heap.size]?=some (.cells #[.int .i64 0,.slice none 0 0,.int .i64 0,.int .i64 0,.bool false] 35 (0,0)) from hw1▸heap_alloc_new w _)
 have D1:=Lib.hid (show DkAt S w1 132 134 D n d from hw1▸h.below (bal w _))
 have RD0:=Lib.hid (show Calls Tryz.prog 127 #[.pointer (some ⟨D,0,none⟩),.int .i64 (2*(p:Int))] w1 fun e w'=>e=.returned (.tuple #[.string X0,.nilIface])∧w'=w1 from by
  have:=read_live D1.out ok up (2*p) (by omega)
  rw [← hX0,show ((2*p:Nat):Int)=2*(p:Int) by omega] at this
  exact this)
 have RD1:=Lib.hid (show Calls Tryz.prog 127 #[.pointer (some ⟨D,0,none⟩),.int .i64 (2*(p:Int)+1)] w1 fun e w'=>e=.returned (.tuple #[.string X1,.nilIface])∧w'=w1 from by
  have:=read_live D1.out ok up (2*p+1) hp
  rw [← hX1,show ((2*p+1:Nat):Int)=2*(p:Int)+1 by omega] at this
  exact this)
 obtain ⟨r,hr⟩:∃ r:Bs,(⟨#[]⟩:ByteArray) ++ X0 ++ X1=bsB (0 :: r):=by
  refine ⟨List.replicate 63 0 ++ X1.data.toList,?_⟩
  rw [hX0,h0,← list_bsB X1,show (⟨#[]⟩:ByteArray)=bsB [] from rfl,full0,show (⟨#[]⟩:ByteArray)=bsB [] from rfl,fullB_bs,bsB_append,bsB_append,bsB_list]
  rfl
 have hlen:(0 :: r).length=128:=by
  have:=congrArg ByteArray.size hr
  rw [ByteArray.size_append,ByteArray.size_append,bsB_size,s0,s1] at this
  rw [← this]
  rfl
 obtain ⟨aa,l,hsp⟩:=split_zero 4 r
 have HR:=Lib.hid hr
 have HLEN:=Lib.hid hlen
 have HSP:=Lib.hid hsp
 have hp20:(p:Int)≤20:=by omega
 have HW1:=Lib.hid hw1
 have a1:=fun w=>run_string_add_sum (P:=Tryz.prog) w (⟨#[]⟩:ByteArray) X0 (by rw [s0]; simp [ByteArray.size])
 have a2:=fun w=>run_string_add_sum (P:=Tryz.prog) w ((⟨#[]⟩:ByteArray) ++ X0) X1 (by rw [ByteArray.size_append,s0,s1]; simp [ByteArray.size])
 have hp0:(0:Int)≤(p:Int):=by omega
 clear h ok up sz h0 hX0 hX1 t hw1 hr hlen hsp
 go_enter Tryz.func105,Tryz.ntmps105
 go_wp2
 rw [← HW1.out]
 refine wp_loop_rounds 3 ?_
 rw [rounds_succ]
 go_wp2_with fail
 refine RD0.out.mono ?_
 rintro e w2 ⟨rfl,hw⟩
 obtain rfl:=hw
 go_wp2
 rw [rounds_succ]
 go_wp2_with fail
 refine RD1.out.mono ?_
 rintro e w2 ⟨rfl,hw⟩
 obtain rfl:=hw
 go_wp2
 rw [rounds_succ]
 go_wp2_with fail
 rw [HR.out]
 refine (split5_any (0 :: r) _ (TT.out.on B1.out) (by rw [HLEN.out]; omega) (by rw [HLEN.out]; omega)).mono ?_
 rintro e w3 ⟨rfl,b3,lt3,cells⟩
 obtain ⟨L,hL⟩:∃ L,L=(Lib.splitK [32] 0 4 (0 :: r)).length:=⟨_,rfl⟩
 have L0:0<L:=by rw [hL,HSP.out]; simp
 have c0:=cells 0 (0 :: aa) (by rw [HSP.out]; rfl)
 rw [← hL]
 have q0:((bsB (0 :: aa)).toList == [107])=false:=by rw [ByteArray.toList_eq,bsB_list]; rfl
 have B3:=Lib.hid (B1.out.trans (b3.mono B1.out.size))
 have R3:=Lib.hid ((b3.block w.heap.size (Array.getElem?_eq_some_iff.1 R1.out).1).trans R1.out)
 obtain ⟨⟨z0,z1,z2,z3,z4⟩,f0,f1,f2,f3,f4⟩:=cells5 R3.out
 clear cells hL b3 a1 a2
 by_cases h5:(L:Int)<5
 ·go_wp2
  refine bodyPost_ret (v:=.tuple #[.int .i64 0,.int .i64 0,stV sNone none 0,.nilIface]) (results_look Tryz.results105 _ _ w.heap.size 35 #[.int .i64 0,.slice none 0 0,.int .i64 0,.int .i64 0,.bool false] _ (.int .i64 0) (.int .i64 0) .nilIface rfl rfl rfl rfl (five_at R3.out _ _ _ _ _) state_row.1 rfl state_row.2) rfl ?_
  exact ⟨rfl,five_below B3.out (Nat.le_refl _) _ _ _ _ _⟩
 ·have h5':¬ (L:Int)≤0:=by omega
  go_wp2
  refine bodyPost_ret (v:=.tuple #[.int .i64 0,.int .i64 0,stV sNone none 0,.nilIface]) (results_look Tryz.results105 _ _ w.heap.size 35 #[.int .i64 0,.slice none 0 0,.int .i64 0,.int .i64 0,.bool false] _ (.int .i64 0) (.int .i64 0) .nilIface rfl rfl rfl rfl (five_at R3.out _ _ _ _ _) state_row.1 rfl state_row.2) rfl ?_
  exact ⟨rfl,five_below B3.out (Nat.le_refl _) _ _ _ _ _⟩
def LookPost (m e:Int) (s:St) (w:World) (x:Ending) (w':World):Prop :=
 ∃ a cap,x=.returned (.tuple #[.int .i64 m,.int .i64 e,stV s a cap,.nilIface])∧StR w' s a∧Below w.heap.size w w'∧∀ b o,a=some ⟨b,o,none⟩→w.heap.size≤b
structure LK (w:World) (SB AB:Nat) (m e:Int) (s:St) (z:Bs) (v0 v1 v2:Int) (wx:World):Prop where
 bl:Below w.heap.size w wx
 c1:wx.cell? ⟨SB,1,none⟩=some (.string (bsB (itoa m)))
 c2:wx.cell? ⟨SB,2,none⟩=some (.string (bsB (itoa e)))
 c3:wx.cell? ⟨SB,3,none⟩=some (.string (bsB (itoa ((stText s).length:Int))))
 c4:wx.cell? ⟨SB,4,none⟩=some (.string (bsB (stText s ++ z)))
 arr:wx.heap[AB]?=some (.cells #[.int .i64 v0,.int .i64 v1,.int .i64 v2] 194 (0,0))
 res:wx.heap[w.heap.size]?=some (.cells #[.int .i64 0,.slice none 0 0,.int .i64 0,.int .i64 0,.bool false] 35 (0,0))
 sb:SB<AB
 rs:w.heap.size<SB
section
variable {w wx w':World} {SB AB:Nat} {m e:Int} {s:St} {z:Bs} {v0 v1 v2 u0 u1 u2:Int}
theorem LK.lt (f:LK w SB AB m e s z v0 v1 v2 wx):AB<wx.heap.size:=(Array.getElem?_eq_some_iff.1 f.arr).1
theorem LK.upd (f:LK w SB AB m e s z v0 v1 v2 wx) (hb:Below w.heap.size wx w') (same:∀ k,k≠AB→k<wx.heap.size→w'.heap[k]?=wx.heap[k]?) (ha:w'.heap[AB]?=some (.cells #[.int .i64 u0,.int .i64 u1,.int .i64 u2] 194 (0,0))):LK w SB AB m e s z u0 u1 u2 w':=by
 have h1:=f.sb; have h2:=f.rs; have h3:=f.lt
 have hs:=same SB (by omega) (by omega)
 have c:∀ i,w'.cell? ⟨SB,i,none⟩=wx.cell? ⟨SB,i,none⟩:=fun i=>World.cell?_of_block (a:=⟨SB,i,none⟩) hs
 exact ⟨f.bl.trans hb,(c 1).trans f.c1,(c 2).trans f.c2,(c 3).trans f.c3,(c 4).trans f.c4,ha,(same _ (by omega) (by omega)).trans f.res,h1,h2⟩
theorem LK.over (f:LK w SB AB m e s z v0 v1 v2 wx) (b:Below wx.heap.size wx w'):LK w SB AB m e s z v0 v1 v2 w' :=
 f.upd (b.mono f.bl.size) (fun k _ hk=>b.block k hk) ((b.block _ f.lt).trans f.arr)
theorem LK.set (f:LK w SB AB m e s z v0 v1 v2 wx) (i:Nat) (u:Int) (ha:#[Value.int .i64 v0,.int .i64 v1,.int .i64 v2].setIfInBounds i (.int .i64 u)=#[.int .i64 u0,.int .i64 u1,.int .i64 u2]):LK w SB AB m e s z u0 u1 u2 (wx.setCell ⟨AB,i,none⟩ (.int .i64 u)):=by
 have h1:=f.sb; have h2:=f.rs
 exact f.upd ((Below.refl _ _).setCell (p:=⟨AB,i,none⟩) (by show w.heap.size≤AB; omega) _) (fun k hk _=>Below.heap_setCell _ _ _ _ hk) (by rw [one_setCell f.arr (.int .i64 u),ha])
theorem LK.cells (f:LK w SB AB m e s z v0 v1 v2 wx):(wx.cell? ⟨AB,0,none⟩=some (.int .i64 v0)∧wx.cell? ⟨AB,1,none⟩=some (.int .i64 v1)∧wx.cell? ⟨AB,2,none⟩=some (.int .i64 v2))∧wx.frozen? ⟨AB,0,none⟩=false∧wx.frozen? ⟨AB,1,none⟩=false∧wx.frozen? ⟨AB,2,none⟩=false:=by
 have h:=f.arr; simp [World.cell?,World.frozen?,h]
theorem lk_res (f:LK w SB AB m e s z v0 v1 v2 wx):(wx.cell? ⟨w.heap.size,0,none⟩=some (.int .i64 0)∧wx.cell? ⟨w.heap.size,1,none⟩=some (.slice none 0 0)∧wx.cell? ⟨w.heap.size,2,none⟩=some (.int .i64 0)∧wx.cell? ⟨w.heap.size,3,none⟩=some (.int .i64 0)∧wx.cell? ⟨w.heap.size,4,none⟩=some (.bool false)) ∧
  (wx.frozen? ⟨w.heap.size,0,none⟩=false∧wx.frozen? ⟨w.heap.size,1,none⟩=false∧wx.frozen? ⟨w.heap.size,2,none⟩=false∧wx.frozen? ⟨w.heap.size,3,none⟩=false∧wx.frozen? ⟨w.heap.size,4,none⟩=false):=cells5 f.res
end
theorem drew_cell {X:World} {a:Addr} {v:Option Value} (h:X.cell? a=v):X.drew.cell? a=v:=h
theorem look_trim (U:ByteArray) (N:Nat) (s:St) (w:World) (hN:N=(stText s).length) {z:Bs} (hU:U=bsB (stText s ++ z)) (hz:(∀ b∈z,b=0)∧z.length≤128) :
  Calls Tryz.prog 131 #[.string (U.extract N U.size),.string ⟨#[0]⟩] w fun e w'=>e=.returned (.string ⟨#[]⟩)∧Below w.heap.size w w':=by
 have he:U.extract N U.size=bsB z:=by
  rw [hU,hN,bsB_size]
  apply ByteArray.ext
  rw [ByteArray.data_extract]
  apply Array.toList_inj.1
  simp [bsB,List.extract_eq_take_drop]
 rw [he]
 exact trim0_any z w (by omega) hz.1
theorem look_parse (U:ByteArray) (N:Nat) (s:St) (w:World) (t:Tabs w) (g:Good s) (hN:N=(stText s).length) {z:Bs} (hU:U=bsB (stText s ++ z)) :
  Calls Tryz.prog 130 #[.string (U.extract 0 N)] w fun q w'=>∃ a cap,q=.returned (.tuple #[stV s a cap,.nilIface])∧StR w' s a∧Below w.heap.size w w'∧∀ b o,a=some ⟨b,o,none⟩→w.heap.size≤b:=by
 have he:U.extract 0 N=bsB (stText s):=by
  rw [hU,hN]
  apply ByteArray.ext
  rw [ByteArray.data_extract]
  apply Array.toList_inj.1
  simp [bsB,List.extract_eq_take_drop]
 rw [he]
 refine (parse_any (bsB (stText s)) w t (by rw [bsB_size]; have:=g.text_len; omega)).mono ?_
 rintro q w' ⟨h5,b5⟩
 rcases h5 with ⟨s',a,cap,hg,ht,rfl,hr,hf⟩ | ⟨h5,-⟩
 ·obtain rfl:=stText_inj hg g (bsB_inj ht)
  exact ⟨a,cap,rfl,hr,b5,hf⟩
 ·exact absurd rfl (h5 s g)
set_option maxRecDepth 100000 in
set_option maxHeartbeats 4000000 in
theorem look_some (S:Nat→Prop) (w:World) (D n:Nat) (d:Dk) (p:Nat) (m e:Int) (s:St) (h:DkAt S w 132 134 D n d) (ok:d.ok n) (up:d.down=false) (sz:Sz d) (hp:2*p+1<n) (hpl:Place d.now p m e s) (t:Tabs w) :
  Calls Tryz.prog 105 #[.pointer (some ⟨D,0,none⟩),.int .i64 (p:Int)] w fun x w'=>LookPost m e s w x w':=by
 have TT:=Lib.hid t
 have KN:=Lib.hid hpl.k
 have n40:=ok.n40
 obtain ⟨X0,hX0⟩:∃ X,X=d.now.getD (2*p) ⟨#[]⟩:=⟨_,rfl⟩
 obtain ⟨X1,hX1⟩:∃ X,X=d.now.getD (2*p+1) ⟨#[]⟩:=⟨_,rfl⟩
 have s0:X0.size=64:=hX0▸sz.sector ok (by omega)
 have s1:X1.size=64:=hX1▸sz.sector ok (by omega)
 obtain ⟨w1,hw1⟩:∃ w1,w1=w.alloc (.cells #[.int .i64 0,.slice none 0 0,.int .i64 0,.int .i64 0,.bool false] 35):=⟨_,rfl⟩
 have B1:=Lib.hid (show Below w.heap.size w w1 from hw1▸bal w _)
 have R1:=Lib.hid (show w1.heap[w.heap.size]?=some (.cells #[.int .i64 0,.slice none 0 0,.int .i64 0,.int .i64 0,.bool false] 35 (0,0)) from hw1▸heap_alloc_new w _)
 have D1:=Lib.hid (show DkAt S w1 132 134 D n d from hw1▸h.below (bal w _))
 have RD0:=Lib.hid (show Calls Tryz.prog 127 #[.pointer (some ⟨D,0,none⟩),.int .i64 (2*(p:Int))] w1 fun e w'=>e=.returned (.tuple #[.string X0,.nilIface])∧w'=w1 from by
  have:=read_live D1.out ok up (2*p) (by omega)
  rw [← hX0,show ((2*p:Nat):Int)=2*(p:Int) by omega] at this
  exact this)
 have RD1:=Lib.hid (show Calls Tryz.prog 127 #[.pointer (some ⟨D,0,none⟩),.int .i64 (2*(p:Int)+1)] w1 fun e w'=>e=.returned (.tuple #[.string X1,.nilIface])∧w'=w1 from by
  have:=read_live D1.out ok up (2*p+1) hp
  rw [← hX1,show ((2*p+1:Nat):Int)=2*(p:Int)+1 by omega] at this
  exact this)
 obtain ⟨z,hz⟩:∃ z:Bs,z=List.replicate (128 - (kText m e s).length) 0:=⟨_,rfl⟩
 have hkl:=KN.out.len
 have hr:(⟨#[]⟩:ByteArray) ++ X0 ++ X1=bsB (kText m e s ++ z):=by
  rw [hX0,hX1,hpl.a,hpl.b,hz,← two_sectors _ (by omega)]
  unfold kA kB
  rw [show (⟨#[]⟩:ByteArray)=bsB [] from rfl,ByteArray.append_assoc]
  apply ByteArray.ext
  simp [bsB]
 have hlen:(kText m e s ++ z).length=128:=by rw [hz]; simp; omega
 have ZZ:=Lib.hid (show (∀ b∈z,b=0)∧z.length≤128 from ⟨fun b hb=>by rw [hz] at hb; exact List.eq_of_mem_replicate hb,by rw [hz]; simp⟩)
 have HR:=Lib.hid hr
 have HLEN:=Lib.hid hlen
 have HSP:=Lib.hid (split4_kText m e s z)
 have hp20:(p:Int)≤20:=by omega
 have HW1:=Lib.hid hw1
 have a1:=fun w=>run_string_add_sum (P:=Tryz.prog) w (⟨#[]⟩:ByteArray) X0 (by rw [s0]; simp [ByteArray.size])
 have a2:=fun w=>run_string_add_sum (P:=Tryz.prog) w ((⟨#[]⟩:ByteArray) ++ X0) X1 (by rw [ByteArray.size_append,s0,s1]; simp [ByteArray.size])
 have hp0:(0:Int)≤(p:Int):=by omega
 clear h ok up sz hX0 hX1 t hw1 hr hlen hpl hz hkl
 go_enter Tryz.func105,Tryz.ntmps105
 go_wp2
 rw [← HW1.out]
 refine wp_loop_rounds 3 ?_
 rw [rounds_succ]
 go_wp2_with fail
 refine RD0.out.mono ?_
 rintro e w2 ⟨rfl,hw⟩
 obtain rfl:=hw
 go_wp2
 rw [rounds_succ]
 go_wp2_with fail
 refine RD1.out.mono ?_
 rintro e w2 ⟨rfl,hw⟩
 obtain rfl:=hw
 go_wp2
 rw [rounds_succ]
 go_wp2_with fail
 rw [HR.out]
 refine (split5_any (kText m e s ++ z) _ (TT.out.on B1.out) (by rw [HLEN.out]; omega) (by rw [HLEN.out]; omega)).mono ?_
 rintro e' w3 ⟨rfl,b3,lt3,cells⟩
 rw [HSP.out] at cells ⊢
 have c0:=cells 0 [107] rfl
 have CE:=Lib.hid (show w3.cell? ⟨w2.heap.size,1,none⟩=some (.string (bsB (itoa m)))∧w3.cell? ⟨w2.heap.size,2,none⟩=some (.string (bsB (itoa e)))∧w3.cell? ⟨w2.heap.size,3,none⟩=some (.string (bsB (itoa ((stText s).length:Int))))∧w3.cell? ⟨w2.heap.size,4,none⟩=some (.string (bsB (stText s ++ z))) from ⟨cells 1 _ rfl,cells 2 _ rfl,cells 3 _ rfl,cells 4 _ rfl⟩)
 have q0:((bsB [107]).toList == [107])=true:=by rw [ByteArray.toList_eq,bsB_list]; rfl
 have B3:=Lib.hid (B1.out.trans (b3.mono B1.out.size))
 have R3:=Lib.hid ((b3.block w.heap.size (Array.getElem?_eq_some_iff.1 R1.out).1).trans R1.out)
 have LT3:=Lib.hid lt3
 have LTR:=Lib.hid (Array.getElem?_eq_some_iff.1 R1.out).1
 clear cells b3 a1 a2 lt3 s0 s1
 simp only [List.length_cons,List.length_nil,Nat.zero_add,Nat.reduceAdd]
 go_wp2
 have K4:=Lib.hid (show LK w w2.heap.size w3.heap.size m e s z 0 0 0 (w3.alloc (.cells #[.int .i64 0,.int .i64 0,.int .i64 0] 194)) from
  have cc:=fun i=>(bal w3 (.cells #[.int .i64 0,.int .i64 0,.int .i64 0] 194)).cell (p:=⟨w2.heap.size,i,none⟩) LT3.out
  ⟨B3.out.trans ((bal w3 _).mono B3.out.size),(cc 1).trans CE.out.1,(cc 2).trans CE.out.2.1,(cc 3).trans CE.out.2.2.1,(cc 4).trans CE.out.2.2.2,heap_alloc_new w3 _,((bal w3 _).block _ (by have:=LT3.out; have:=LTR.out; omega)).trans R3.out,LT3.out,LTR.out⟩)
 obtain ⟨w4,hw4⟩:∃ w4,w3.alloc (.cells #[.int .i64 0,.int .i64 0,.int .i64 0] 194)=w4:=⟨_,rfl⟩
 rw [hw4] at K4 ⊢
 obtain ⟨AB,hAB⟩:∃ AB,AB=w3.heap.size:=⟨_,rfl⟩
 obtain ⟨SB,hSB⟩:∃ SB,SB=w2.heap.size:=⟨_,rfl⟩
 rw [← hAB,← hSB] at K4 ⊢
 clear hw4 hAB hSB CE B3 R3 LT3 LTR
 have hm0:¬ m<0:=by have:=KN.out.n0; omega
 have he0:¬ e<0:=by have:=KN.out.e0; omega
 have hl0:¬ ((stText s).length:Int)<0:=by omega
 refine wp_loop_rounds 4 ?_
 rw [rounds_succ]
 have x0:=K4.out.c1
 go_wp2_with fail
 refine (atoiP_any m _ (TT.out.on K4.out.bl) (by have:=KN.out.n0; omega) (by have:=KN.out.n1; omega)).mono ?_
 rintro q w5 ⟨rfl,b5⟩
 have K5:=Lib.hid (K4.out.over b5)
 clear b5 x0
 obtain ⟨⟨y0,y1,y2⟩,f0,f1,f2⟩:=K5.out.cells
 have K6:=Lib.hid (K5.out.set (u0:=m) (u1:=0) (u2:=0) 0 m rfl)
 go_wp2
 obtain ⟨w6,hs⟩:∃ x,w5.setCell ⟨AB,0,none⟩ (.int .i64 m)=x:=⟨_,rfl⟩
 rw [hs] at K6 ⊢
 clear hs y0 y1 y2 f0 f1 f2
 rw [rounds_succ]
 have x1:=K6.out.c2
 go_wp2_with fail
 refine (atoiP_any e _ (TT.out.on K6.out.bl) (by have:=KN.out.e0; omega) (by have:=KN.out.e1; omega)).mono ?_
 rintro q w7 ⟨rfl,b5⟩
 have K7:=Lib.hid (K6.out.over b5)
 clear b5 x1
 obtain ⟨⟨y0,y1,y2⟩,f0,f1,f2⟩:=K7.out.cells
 have K8:=Lib.hid (K7.out.set (u0:=m) (u1:=e) (u2:=0) 1 e rfl)
 go_wp2
 obtain ⟨w8,hs⟩:∃ x,w7.setCell ⟨AB,1,none⟩ (.int .i64 e)=x:=⟨_,rfl⟩
 rw [hs] at K8 ⊢
 clear hs y0 y1 y2 f0 f1 f2
 rw [rounds_succ]
 have x2:=K8.out.c3
 go_wp2_with fail
 refine (atoiP_any ((stText s).length:Int) _ (TT.out.on K8.out.bl) (by omega) (by have:=KN.out.g.text_len; omega)).mono ?_
 rintro q w9 ⟨rfl,b5⟩
 have K9:=Lib.hid (K8.out.over b5)
 clear b5 x2
 obtain ⟨⟨y0,y1,y2⟩,f0,f1,f2⟩:=K9.out.cells
 have K10:=Lib.hid (K9.out.set (u0:=m) (u1:=e) (u2:=((stText s).length:Int)) 2 ((stText s).length:Int) rfl)
 go_wp2
 obtain ⟨w10,hs⟩:∃ x,w9.setCell ⟨AB,2,none⟩ (.int .i64 ((stText s).length:Int))=x:=⟨_,rfl⟩
 rw [hs] at K10 ⊢
 clear hs y0 y1 y2 f0 f1 f2
 rw [rounds_succ]
 go_upto_region 22 with fail
 obtain ⟨N,hN⟩:∃ N,N=(stText s).length:=⟨_,rfl⟩
 obtain ⟨U,hU⟩:∃ U,U=bsB (stText s ++ z):=⟨_,rfl⟩
 have HN:=Lib.hid hN
 have HU:=Lib.hid hU
 have US:=Lib.hid (show N≤U.size∧N≤48∧U.size≤300 from by
  have:=KN.out.g.text_len
  have:=ZZ.out.2
  rw [hU,bsB_size,List.length_append,hN]
  omega)
 have x4:w10.cell? ⟨SB,4,none⟩=some (.string U):=hU▸K10.out.c4
 have y2:w10.cell? ⟨AB,2,none⟩=some (.int .i64 (N:Int)):=hN▸K10.out.cells.1.2.2
 have hgt:¬ (U.size:Int)<(N:Int):=by have:=US.out; omega
 clear hN hU hm0 he0 hl0
 go_quiet (fail)
 go_upto_region 24 with fail
 obtain ⟨wA,hwA⟩:∃ wA,w10.drewN nq=wA:=⟨_,rfl⟩
 have KA:=Lib.hid (show LK w SB AB m e s z m e ((stText s).length:Int) wA from hwA▸K10.out.over (Go.below_drewN (Below.refl _ _) nq))
 rw [hwA]
 clear hwA x4 y2 hgt
 have x4:wA.cell? ⟨SB,4,none⟩=some (.string U):=HU.out▸KA.out.c4
 have y2:wA.cell? ⟨AB,2,none⟩=some (.int .i64 (N:Int)):=HN.out▸KA.out.cells.1.2.2
 have RA:=Lib.hid (lk_res KA.out)
 have KEEP:=Lib.hid (show ∀ w',Keeps (·=w.heap.size) wA w'→Keeps (·=w.heap.size) wA w'∧w'.cell? ⟨SB,4,none⟩=some (.string U)∧w'.cell? ⟨AB,2,none⟩=some (.int .i64 (N:Int)) from fun w' kp=>by
  have h1:=KA.out.sb; have h2:=KA.out.rs; have h3:=KA.out.lt
  exact ⟨kp,(kp.cell (b:=SB) (by show ¬ SB=w.heap.size; omega) (by omega)).trans x4,(kp.cell (b:=AB) (by show ¬ AB=w.heap.size; omega) (by omega)).trans y2⟩)
 have PAR:=Lib.hid (look_parse U N s wA.drew (TT.out.on (KA.out.over (Below.refl _ _).drew).bl) KN.out.g HN.out (by rw [HU.out]))
 have b0:(0:Int)≤(N:Int):=by omega
 have b1:(N:Int)≤(U.size:Int):=by have:=US.out; omega
 obtain ⟨⟨r0,r1,r2,r3,r4⟩,g0,g1,g2,g3,g4⟩:=RA.out
 go_region_held3 (fun w'=>Keeps (·=w.heap.size) wA w'∧w'.cell? ⟨SB,4,none⟩=some (.string U)∧w'.cell? ⟨AB,2,none⟩=some (.int .i64 (N:Int)))
  (first | (refine KEEP.out _ ?_; first | (with_reducible exact (Keeps.refl _ _).drew) | (with_reducible exact Keeps.of_below (by assumption)) | (with_reducible exact kset (kset (kset (kset (kset (Keeps.of_below (by assumption)) _ _) _ _) _ _) _ _) _ _)))
  (first | ((with_reducible refine PAR.out.mono ?_); rintro q w11 ⟨a,cap,rfl,ha,bq,fr⟩; have bA:Below wA.heap.size wA w11:=(Below.refl _ _).drew.trans bq; have RB:=lk_res (KA.out.over bA); obtain ⟨⟨r0,r1,r2,r3,r4⟩,g0,g1,g2,g3,g4⟩:=RB))
 obtain ⟨w12,hw12⟩:∃ w12,w12=five w11 w.heap.size (.int .i64 s.gen) (.slice a s.regs.length cap) (.int .i64 s.typ) (.int .i64 s.holder) (.bool s.stays):=⟨_,rfl⟩
 have KB:=Lib.hid (KA.out.over bA)
 have HA:=Lib.hid ha
 have FR:=Lib.hid (show ∀ b o,a=some ⟨b,o,none⟩→wA.heap.size≤b from fr)
 have RL:=Lib.hid (show w.heap.size<wA.heap.size from by have h1:=KA.out.sb; have h2:=KA.out.rs; have h3:=KA.out.lt; omega)
 have R12:=Lib.hid (show w12.heap[w.heap.size]?=some (.cells #[.int .i64 s.gen,.slice a s.regs.length cap,.int .i64 s.typ,.int .i64 s.holder,.bool s.stays] 35 (0,0)) from hw12▸five_at KB.out.res _ _ _ _ _)
 have B12:=Lib.hid (show Below w.heap.size w w12 from hw12▸five_below KB.out.bl (Nat.le_refl _) _ _ _ _ _)
 have S12:=Lib.hid (show StR w12 s a from hw12▸HA.out.five (fun b o e=>by have:=FR.out b o e; have:=RL.out; omega) _ _ _ _ _)
 have C12:=Lib.hid (show w12.cell? ⟨SB,4,none⟩=some (.string U)∧w12.cell? ⟨AB,0,none⟩=some (.int .i64 m)∧w12.cell? ⟨AB,1,none⟩=some (.int .i64 e)∧w12.cell? ⟨AB,2,none⟩=some (.int .i64 (N:Int))∧SB<w12.heap.size∧AB<w12.heap.size∧w.heap.size<w12.heap.size from by
  have h1:=KB.out.sb; have h2:=KB.out.rs; have h3:=KB.out.lt
  have hz:w12.heap.size=w11.heap.size:=by rw [hw12]; unfold five; simp [World.setCell]
  have e1:w12.heap[SB]?=w11.heap[SB]?:=hw12▸five_ne (by omega) _ _ _ _ _
  have e2:w12.heap[AB]?=w11.heap[AB]?:=hw12▸five_ne (by omega) _ _ _ _ _
  have cc:=KB.out.cells.1
  exact ⟨(World.cell?_of_block (a:=⟨SB,4,none⟩) e1).trans (HU.out▸KB.out.c4),(World.cell?_of_block (a:=⟨AB,0,none⟩) e2).trans cc.1,(World.cell?_of_block (a:=⟨AB,1,none⟩) e2).trans cc.2.1,(World.cell?_of_block (a:=⟨AB,2,none⟩) e2).trans (HN.out▸cc.2.2),by omega,by omega,by omega⟩)
 have hw12':((((w11.setCell ⟨w.heap.size,0,none⟩ (.int .i64 s.gen)).setCell ⟨w.heap.size,1,none⟩ (.slice a s.regs.length cap)).setCell ⟨w.heap.size,2,none⟩ (.int .i64 s.typ)).setCell ⟨w.heap.size,3,none⟩ (.int .i64 s.holder)).setCell ⟨w.heap.size,4,none⟩ (.bool s.stays)=w12:=hw12.symm
 rw [hw12']
 clear hw12 hw12' ha bA bq fr x4 y2 r0 r1 r2 r3 r4 g0 g1 g2 g3 g4 KEEP PAR KA KB RA
 obtain ⟨x4,y0,y1,y2,l1,l2,l3⟩:=C12.out
 have KEEP2:=Lib.hid (show ∀ w',Below w12.heap.size w12 w'→Below w12.heap.size w12 w'∧w'.cell? ⟨SB,4,none⟩=some (.string U)∧w'.cell? ⟨AB,2,none⟩=some (.int .i64 (N:Int)) from fun w' b=>⟨b,(b.cell (p:=⟨SB,4,none⟩) l1).trans x4,(b.cell (p:=⟨AB,2,none⟩) l2).trans y2⟩)
 have TRIM:=Lib.hid (fun w=>look_trim U N s w HN.out HU.out ZZ.out)
 go_upto_region 25 with fail
 go_region_held3 (fun w'=>Below w12.heap.size w12 w'∧w'.cell? ⟨SB,4,none⟩=some (.string U)∧w'.cell? ⟨AB,2,none⟩=some (.int .i64 (N:Int)))
  (first | (refine KEEP2.out _ ?_; first | (with_reducible exact (Below.refl _ _).drew) | (with_reducible assumption)))
  (first | ((with_reducible refine (TRIM.out _).mono ?_); rintro q w13 ⟨rfl,bt⟩; have bt2:Below w12.heap.size w12 w13:=(Below.refl _ _).drew.trans bt))
 have B13:=Lib.hid (B12.out.trans (bt2.mono B12.out.size))
 have R13:=Lib.hid ((bt2.block _ l3).trans R12.out)
 have S13:=Lib.hid (S12.out.below bt2)
 have z0:=(bt2.cell (p:=⟨AB,0,none⟩) l2).trans y0
 have z1:=(bt2.cell (p:=⟨AB,1,none⟩) l2).trans y1
 have hAR:AB≠w.heap.size:=by have h1:=K10.out.sb; have h2:=K10.out.rs; omega
 clear x4 y0 y1 y2 bt bt2 KEEP2 TRIM
 obtain ⟨⟨r0,r1,r2,r3,r4⟩,g0,g1,g2,g3,g4⟩:=cells5 R13.out
 go_upto_region 27 with fail
 have F5:=five_at R13.out (.int .i64 s.gen) (.slice a s.regs.length cap) (.int .i64 s.typ) (.int .i64 s.holder) (.bool s.stays)
 have FC:=(cells5 F5).1
 have FA:∀ i,(five w13 w.heap.size (.int .i64 s.gen) (.slice a s.regs.length cap) (.int .i64 s.typ) (.int .i64 s.holder) (.bool s.stays)).cell? ⟨AB,i,none⟩=w13.cell? ⟨AB,i,none⟩:=fun i=>World.cell?_of_block (a:=⟨AB,i,none⟩) (five_ne hAR _ _ _ _ _)
 unfold five at FA FC
 have KD1:=Lib.hid (show w13.drew.cell? ⟨AB,0,none⟩=some (.int .i64 m)∧w13.drew.cell? ⟨AB,1,none⟩=some (.int .i64 e)∧w13.drew.cell? ⟨w.heap.size,0,none⟩=some (.int .i64 s.gen)∧w13.drew.cell? ⟨w.heap.size,1,none⟩=some (.slice a s.regs.length cap)∧w13.drew.cell? ⟨w.heap.size,2,none⟩=some (.int .i64 s.typ)∧w13.drew.cell? ⟨w.heap.size,3,none⟩=some (.int .i64 s.holder)∧w13.drew.cell? ⟨w.heap.size,4,none⟩=some (.bool s.stays) from ⟨drew_cell z0,drew_cell z1,drew_cell r0,drew_cell r1,drew_cell r2,drew_cell r3,drew_cell r4⟩)
 have KD2:=Lib.hid (show (((((w13.setCell ⟨w.heap.size,0,none⟩ (.int .i64 s.gen)).setCell ⟨w.heap.size,1,none⟩ (.slice a s.regs.length cap)).setCell ⟨w.heap.size,2,none⟩ (.int .i64 s.typ)).setCell ⟨w.heap.size,3,none⟩ (.int .i64 s.holder)).setCell ⟨w.heap.size,4,none⟩ (.bool s.stays)).drew.cell? ⟨AB,0,none⟩=some (.int .i64 m)∧(((((w13.setCell ⟨w.heap.size,0,none⟩ (.int .i64 s.gen)).setCell ⟨w.heap.size,1,none⟩ (.slice a s.regs.length cap)).setCell ⟨w.heap.size,2,none⟩ (.int .i64 s.typ)).setCell ⟨w.heap.size,3,none⟩ (.int .i64 s.holder)).setCell ⟨w.heap.size,4,none⟩ (.bool s.stays)).drew.cell? ⟨AB,1,none⟩=some (.int .i64 e)∧(((((w13.setCell ⟨w.heap.size,0,none⟩ (.int .i64 s.gen)).setCell ⟨w.heap.size,1,none⟩ (.slice a s.regs.length cap)).setCell ⟨w.heap.size,2,none⟩ (.int .i64 s.typ)).setCell ⟨w.heap.size,3,none⟩ (.int .i64 s.holder)).setCell ⟨w.heap.size,4,none⟩ (.bool s.stays)).drew.cell? ⟨w.heap.size,0,none⟩=some (.int .i64 s.gen)∧(((((w13.setCell ⟨w.heap.size,0,none⟩ (.int .i64 s.gen)).setCell ⟨w.heap.size,1,none⟩ (.slice a s.regs.length cap)).setCell ⟨w.heap.size,2,none⟩ (.int .i64 s.typ)).setCell ⟨w.heap.size,3,none⟩ (.int .i64 s.holder)).setCell ⟨w.heap.size,4,none⟩ (.bool s.stays)).drew.cell? ⟨w.heap.size,1,none⟩=some (.slice a s.regs.length cap)∧(((((w13.setCell ⟨w.heap.size,0,none⟩ (.int .i64 s.gen)).setCell ⟨w.heap.size,1,none⟩ (.slice a s.regs.length cap)).setCell ⟨w.heap.size,2,none⟩ (.int .i64 s.typ)).setCell ⟨w.heap.size,3,none⟩ (.int .i64 s.holder)).setCell ⟨w.heap.size,4,none⟩ (.bool s.stays)).drew.cell? ⟨w.heap.size,2,none⟩=some (.int .i64 s.typ)∧(((((w13.setCell ⟨w.heap.size,0,none⟩ (.int .i64 s.gen)).setCell ⟨w.heap.size,1,none⟩ (.slice a s.regs.length cap)).setCell ⟨w.heap.size,2,none⟩ (.int .i64 s.typ)).setCell ⟨w.heap.size,3,none⟩ (.int .i64 s.holder)).setCell ⟨w.heap.size,4,none⟩ (.bool s.stays)).drew.cell? ⟨w.heap.size,3,none⟩=some (.int .i64 s.holder)∧(((((w13.setCell ⟨w.heap.size,0,none⟩ (.int .i64 s.gen)).setCell ⟨w.heap.size,1,none⟩ (.slice a s.regs.length cap)).setCell ⟨w.heap.size,2,none⟩ (.int .i64 s.typ)).setCell ⟨w.heap.size,3,none⟩ (.int .i64 s.holder)).setCell ⟨w.heap.size,4,none⟩ (.bool s.stays)).drew.cell? ⟨w.heap.size,4,none⟩=some (.bool s.stays) from ⟨drew_cell ((FA 0).trans z0),drew_cell ((FA 1).trans z1),drew_cell FC.1,drew_cell FC.2.1,drew_cell FC.2.2.1,drew_cell FC.2.2.2.1,drew_cell FC.2.2.2.2⟩)
 clear FA FC
 go_region_held3 (fun w'=>w'.cell? ⟨AB,0,none⟩=some (.int .i64 m)∧w'.cell? ⟨AB,1,none⟩=some (.int .i64 e)∧w'.cell? ⟨w.heap.size,0,none⟩=some (.int .i64 s.gen)∧w'.cell? ⟨w.heap.size,1,none⟩=some (.slice a s.regs.length cap)∧w'.cell? ⟨w.heap.size,2,none⟩=some (.int .i64 s.typ)∧w'.cell? ⟨w.heap.size,3,none⟩=some (.int .i64 s.holder)∧w'.cell? ⟨w.heap.size,4,none⟩=some (.bool s.stays))
  (first | (with_reducible exact KD1.out) | (with_reducible exact KD2.out))
  (fail)
 have S14:=Lib.hid (S13.out.five (T:=w.heap.size) (fun b o e=>by have:=FR.out b o e; have:=RL.out; omega) (.int .i64 s.gen) (.slice a s.regs.length cap) (.int .i64 s.typ) (.int .i64 s.holder) (.bool s.stays))
 have B14:=Lib.hid (five_below B13.out (Nat.le_refl _) (.int .i64 s.gen) (.slice a s.regs.length cap) (.int .i64 s.typ) (.int .i64 s.holder) (.bool s.stays))
 unfold five at F5 S14 B14
 obtain ⟨w14,hw14⟩:∃ x,(((((w13.setCell ⟨w.heap.size,0,none⟩ (.int .i64 s.gen)).setCell ⟨w.heap.size,1,none⟩ (.slice a s.regs.length cap)).setCell ⟨w.heap.size,2,none⟩ (.int .i64 s.typ)).setCell ⟨w.heap.size,3,none⟩ (.int .i64 s.holder)).setCell ⟨w.heap.size,4,none⟩ (.bool s.stays))=x:=⟨_,rfl⟩
 rw [hw14] at F5 S14 B14 ⊢
 have S15:=Lib.hid (S14.out.below (Below.refl _ _).drew)
 have B15:=Lib.hid (B14.out.drew)
 clear hw14 S14 B14
 go_wp2
 refine bodyPost_ret (v:=.tuple #[.int .i64 m,.int .i64 e,stV s a cap,.nilIface]) (results_look Tryz.results105 _ _ w.heap.size 35 #[.int .i64 s.gen,.slice a s.regs.length cap,.int .i64 s.typ,.int .i64 s.holder,.bool s.stays] _ (.int .i64 m) (.int .i64 e) .nilIface rfl rfl rfl rfl F5 state_row.1 rfl state_row.2) rfl ?_
 exact ⟨a,cap,rfl,S15.out,B15.out,fun b o e=>by have:=FR.out b o e; have:=RL.out; omega⟩
def Lk (d:Dk) (p:Nat) (m e:Int) (s:St):Prop:=Place d.now p m e s∨(d.now.getD (2*p) ⟨#[]⟩=full0∧m=0∧e=0∧s=sNone)
theorem Lk.num {d:Dk} {p:Nat} {m e:Int} {s:St} (h:Lk d p m e s):0≤m∧m≤1000000000000000:=by
 rcases h with h | ⟨-,rfl,-⟩
 ·exact ⟨h.k.n0,h.k.n1⟩
 ·omega
theorem look_any (S:Nat→Prop) (w:World) (D n:Nat) (d:Dk) (p:Nat) (m e:Int) (s:St) (h:DkAt S w 132 134 D n d) (ok:d.ok n) (up:d.down=false) (sz:Sz d) (hp:2*p+1<n) (hl:Lk d p m e s) (t:Tabs w) :
  Calls Tryz.prog 105 #[.pointer (some ⟨D,0,none⟩),.int .i64 (p:Int)] w fun x w'=>LookPost m e s w x w':=by
 rcases hl with hl | ⟨h0,rfl,rfl,rfl⟩
 ·exact look_some S w D n d p m e s h ok up sz hp hl t
 ·refine (look_none S w D n d p h ok up sz hp h0 t).mono ?_
  rintro x w' ⟨rfl,hb⟩
  exact ⟨none,0,rfl,⟨by simp [sNone],Pairs.nil _ _ _⟩,hb,fun b o q=>by cases q⟩
theorem KD.looks {n:Nat} {d:Dk} {num ep:Int} {s:St} (h:KD n d num ep s) :
  ∃ m e s',Lk d (1 - par num) m e s'∧m<num:=by
 rcases h.other with h0 | ⟨m,e,s',hlt,hp⟩
 ·exact ⟨0,0,sNone,.inr ⟨h0,rfl,rfl,rfl⟩,by have:=h.p1; omega⟩
 ·exact ⟨m,e,s',.inl hp,hlt⟩
theorem KD.two {n:Nat} {d:Dk} {num ep:Int} {s:St} (h:KD n d num ep s) :
  (∃ m e s',Lk d 0 num ep s∧Lk d 1 m e s'∧m<num)∨∃ m e s',Lk d 0 m e s'∧Lk d 1 num ep s∧m<num:=by
 obtain ⟨m,e,s',h1,h2⟩:=h.looks
 have h3:Lk d (par num) num ep s:=.inl h.place
 rcases (by have:=par_lt num; omega:par num=0∨par num=1) with hp | hp
 ·rw [hp] at h1 h3
  exact .inl ⟨m,e,s',h3,h1,h2⟩
 ·rw [hp] at h1 h3
  exact .inr ⟨m,e,s',h1,h3,h2⟩
end Go.Proofs.YtajegiifabfcjaaGreatDoor
