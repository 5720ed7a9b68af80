/-
  TopEpoch: the walk. (Printed in part by gen_epoch.py.)
-/
import Derived.Test.YtajegiifabfcjaaGreatDoorTTgK
import Derived.Test.YtajegiifabfcjaaGreatDoorTTgLaw2
import Derived.LaidEqlPtr
import Derived.Lib.Builder
namespace Go.Proofs.YtajegiifabfcjaaGreatDoor
open Go.RowKit Go.Sort
theorem neq_tg {w:World} {a b:Nat} {ca cb:Array Value} {ta tb:TypeId} (hne:a≠b) (ha:w.heap[a]?=some (.cells ca ta (0,0))) (hb:w.heap[b]?=some (.cells cb tb (0,0))) :
  (binOp .neq 26 (.pointer (some ⟨a,0,none⟩)) (.pointer (some ⟨b,0,none⟩))).run Tryz.prog w=.ok (.bool true) w:=by
 obtain ⟨j,hj,hs⟩:∃ j,Tryz.prog.info? 111=some j∧j.size≠0:=by
  have h:(match Tryz.prog.info? 111 with | some j=>decide (j.size≠0) | none=>false)=true:=by kernel_rfl
  revert h
  cases Tryz.prog.info? 111 with
  | none=>intro h; cases h
  | some j=>intro h; exact ⟨j,rfl,of_decide_eq_true h⟩
 have h:∀ d:Nat,(Op.equalIn (d+1) 26 (.pointer (some ⟨a,0,none⟩)) (.pointer (some ⟨b,0,none⟩))).run Tryz.prog w=.ok false w:=fun d=>by
  simp [Op.equalIn,run_underlying Tryz.underlying26,sizeOf,typeInfo,hj,hs,run_sameAddr_other w (show (⟨a,0,none⟩:Addr)≠⟨b,0,none⟩ from fun e=>hne (congrArg Addr.block e)) ha hb]
 simp only [binOp]
 simp [Op.equal,Op.maxDepth,h 9999]
theorem neq_tg_same (w:World) (a:Nat):(binOp .neq 26 (.pointer (some ⟨a,0,none⟩)) (.pointer (some ⟨a,0,none⟩))).run Tryz.prog w=.ok (.bool false) w:=by
 obtain ⟨j,hj⟩:∃ j,Tryz.prog.info? 111=some j:=by
  cases h:Tryz.prog.info? 111 with
  | none =>
   have h2:(Tryz.prog.info? 111).isSome=true:=by kernel_rfl
   rw [h] at h2
   cases h2
  | some j=>exact ⟨j,rfl⟩
 exact Lib.run_neq_ptr_same w ⟨a,0,none⟩ Tryz.underlying26 hj
theorem TgR.blk {w0 w:World} {n D T:Nat} {t:Tg} {Y:Nat→Prop} (h:TgR w0 n D T t Y w):∃ cs ty,w.heap[T]?=some (.cells cs ty (0,0)):=by
 obtain ⟨X,m,ki,tb,lo,hy⟩:=h
 exact ⟨_,_,tb.blk⟩
theorem fresh_play {n:Nat} {t:Tg} {x:Ac} (h:x.Fresh):t.play n x=t.anew n:=by
 unfold Tg.play
 rw [if_neg h.k1,if_neg h.k2,if_neg h.k3,if_neg (fun q=>q.elim h.k4 h.k5),if_neg h.k6,if_neg h.k7]
set_option maxRecDepth 100000 in
set_option maxHeartbeats 40000000 in
theorem topepoch_walk (l:List Ac) (a:Option Addr) (cap:Nat) (w:World) (hl:l.length≤maxLen) (hr:ActsAt w a l) (tt:Tabs w) :
  Calls Tryz.prog 8 #[.slice a l.length cap] w fun e w'=>e=.returned (.bool true)∧Below w.heap.size w w':=by
 have TT:=Lib.hid tt
 have HR:=Lib.hid hr
 have WK:=Lib.hid (works_any w tt)
 have LA:=Lib.hid (fun w' (b:RowKit.Below w.heap.size w w')=>lightacts_any l a cap 80 w' hl (hr.below b))
 have OP:=Lib.hid (fun w' (b:RowKit.Below w.heap.size w w')=>opened_any w' (Tabs.on tt b))
 unfold maxLen at hl
 clear tt hr
 go_enter Tryz.func8,Tryz.ntmps8
 go_wp2_with fail
 refine WK.out.mono ?_
 rintro e w1 ⟨rfl,b1⟩
 have B1:=Lib.hid b1
 have LA1:=Lib.hid (LA.out w1 b1)
 clear b1 WK LA
 go_wp2_with fail
 refine LA1.out.mono ?_
 rintro e w2 ⟨lb,rfl,hlb,b2⟩
 have B2:=Lib.hid (show RowKit.Below w.heap.size w w2 from B1.out.trans (b2.mono B1.out.size))
 have OP2:=Lib.hid (OP.out w2 B2.out)
 clear b2 OP LA1 B1
 cases lb
 ·clear hlb OP2
  go_wp2
  go_ret
  exact ⟨rfl,B2.out⟩
 have HL:=Lib.hid (hlb rfl).1
 clear hlb
 go_wp2_with fail
 refine OP2.out.mono ?_
 rintro e w3 ⟨D,T,d,rfl,h3,j3⟩
 have H3:=Lib.hid h3
 have J3:=Lib.hid j3
 clear h3 j3 OP2
 go_wp2
 go_loopw [5,6] (fun v i wr=>∃ (k:Nat) (T:Nat) (t:Tg) (S:Cel→Prop),k≤l.length∧v=.pointer (some ⟨T,0,none⟩)∧i=.int .i64 k∧TgR w2 10 D T t (fun _=>False) wr∧TJ 10 S (3+2*(k:Int)) t) (fun _ i _=>l.length - (intOf i).toNat)
 case atStart=>exact ⟨0,T,tg0 d,_,by omega,rfl,rfl,H3.out,J3.out⟩
 case round =>
 obtain ⟨k,T,t,S,hk,rfl,rfl,hT,hJ⟩:=hrel
 have HT:=Lib.hid hT
 have HJ:=Lib.hid hJ
 clear hT hJ H3 J3
 have BR:=Lib.hid (show RowKit.Below w.heap.size w wr from B2.out.trans (HT.out.below.mono B2.out.size))
 by_cases hlt:k<l.length
 case neg =>
  go_wp2
  go_ret
  exact ⟨rfl,BR.out⟩
 have h80:=HL.out
 have hk80:k<80:=by omega
 obtain ⟨ok,xb,xo,rfl,hb,hrange⟩:=HR.out k hlt
 have hci:=ok.ci
 unfold maxLen at hci
 obtain ⟨X,hX⟩:∃ X,l[k]=X:=⟨_,rfl⟩
 rw [hX] at hrange hci
 have HRG:=Lib.hid (fun w' (b:RowKit.Below w.heap.size w w')=>show w'.rangeAt xb (xo+k*19) X.cells from fun j v hv=>(b.cell (p:=⟨xb,_,none⟩) hb).trans (hrange j v hv))
 have HCI:=Lib.hid hci
 clear hrange hX ok hci h80 hb
 obtain ⟨w3,rfl⟩:∃ w3:World,w3=wr:=⟨_,rfl⟩
 have EPO:=Lib.hid (tepoch_any w2 w3 10 D T t _ HT.out)
 go_wp2_with fail
 refine EPO.out.mono ?_
 rintro e w3 ⟨rfl,rfl⟩
 have RL:=Lib.hid (show t.k.s.regs.length≤1000 from by have:=HJ.out.ti.good.regs_len; omega)
 have STA:=Lib.hid (tstate_any w2 w3 10 D T t _ HT.out RL.out)
 clear EPO
 go_wp2_with fail
 refine STA.out.mono ?_
 rintro e w5 ⟨a5,c5,rfl,hs5,b5,fr5⟩
 obtain ⟨w6,hw6⟩:∃ w6,w6=w5.alloc (.cells #[.int .i64 t.k.s.gen,.slice a5 t.k.s.regs.length c5,.int .i64 t.k.s.typ,.int .i64 t.k.s.holder,.bool t.k.s.stays] 35):=⟨_,rfl⟩
 have B6:=Lib.hid (show RowKit.Below w3.heap.size w3 w6 from b5.trans ((hw6▸bal w5 _:RowKit.Below w5.heap.size w5 w6).mono b5.size))
 have HS6:=Lib.hid (show StR w6 t.k.s a5 from hw6▸hs5.below (bal w5 _))
 have V6:=Lib.hid (show w6.heap[w5.heap.size]?=some (.cells #[.int .i64 t.k.s.gen,.slice a5 t.k.s.regs.length c5,.int .i64 t.k.s.typ,.int .i64 t.k.s.holder,.bool t.k.s.stays] 35 (0,0)) from hw6▸heap_alloc_new w5 _)
 have LV:=Lib.hid (show w3.heap.size≤w5.heap.size from b5.size)
 have FR5:=Lib.hid (show ∀ b o,a5=some ⟨b,o,none⟩→w3.heap.size≤b from fun b o e=>fr5 b o e)
 go_upto_region 14 with fail
 rw [← hw6]
 obtain ⟨V,hV⟩:∃ V,w5.heap.size=V:=⟨_,rfl⟩
 rw [hV] at V6 LV ⊢
 clear hw6 hV hs5 b5 fr5 STA
 obtain ⟨Z,hZ⟩:∃ Z:Nat→Prop,Z=fun c=>(fun _=>False) c∨(w3.heap.size≤c∧c<w6.heap.size):=⟨_,rfl⟩
 have H6:=Lib.hid (show TgR w2 10 D T t Z w6 from hZ▸HT.out.more B6.out)
 have ZN:=Lib.hid (show ∀ b,w3.heap.size≤b→b<w6.heap.size→Z b from fun b h1 h2=>hZ▸Or.inr ⟨h1,h2⟩)
 clear hZ
 have BW6:=Lib.hid (show RowKit.Below w.heap.size w w6 from BR.out.trans (B6.out.mono BR.out.size))
 have RG6:=Lib.hid (HRG.out w6 BW6.out)
 have PLAY:=Lib.hid (play_any w2 w6 D T t Z S _ X H6.out HJ.out (by omega) HCI.out (TT.out.on B2.out))
 obtain ⟨S',-,hj'⟩:=HJ.out.play (by omega) X
 have JR:=Lib.hid (show TJ 10 S' (3+2*((k+1:Nat):Int)) (t.play 10 X) from hj'.mono (by omega))
 have LFR:=Lib.hid (show X.Fresh→(Tg.new 10 t.k t.g).2=0→t.k.ep<(t.play 10 X).k.ep from fun h1 h2=>by rw [fresh_play h1]; exact (anew_epf HJ.out.ti (by omega)).1 h2)
 have LSM:=Lib.hid (show (¬ X.Fresh∨(Tg.new 10 t.k t.g).2≠0)→EpF t (t.play 10 X) (X.kind=sPower) from fun h=>play_epf HJ.out.ti (by omega) X (fun k1 k2 k3 k4 k5 k6 k7=>h.resolve_left (fun q=>q ⟨k1,k2,k3,k4,k5,k6,k7⟩)))
 have LTT:=Lib.hid (show T<w6.heap.size from by obtain ⟨X',m',ki,tb,-⟩:=H6.out; exact (Array.getElem?_eq_some_iff.1 tb.blk).1)
 clear hj'
 go_wp2_with (first | ((with_reducible refine ld_mid1 rfl 39 _ rfl ?_); refine ⟨xb,xo+k*19,X.cells.toArray,_,rfl,RG6.out,act_row.1,rfl,act_row.2,?_⟩))
 refine PLAY.out.mono ?_
 rintro e w7 ⟨T',rfl,h7,s7,hor⟩
 obtain ⟨u,hu⟩:∃ u,t.play 10 X=u:=⟨_,rfl⟩
 rw [hu] at h7 JR LFR LSM
 have H7:=Lib.hid h7
 have V7:=Lib.hid ((s7 V (ZN.out V LV.out (Array.getElem?_eq_some_iff.1 V6.out).1)).trans V6.out)
 have HS7:=Lib.hid (show StR w7 t.k.s a5 from HS6.out.same s7 (fun b hb=>h7.lt_y b hb) (fun b o e hne=>ZN.out b (FR5.out b o e) (by
  have hs:=HS6.out
  rw [e] at hs
  exact StR.blt hs hne)))
 have HOR:=Lib.hid hor
 clear h7 s7 PLAY V6 HS6 B6 H6 hu hor RG6 BW6 BR HT
 by_cases hTT:T'=T
 case neg =>
  obtain ⟨-,hfr,hnw,cb,tb,hb7⟩:=HOR.out.resolve_left (fun q=>hTT q.1)
  have hup:¬ u.k.ep≤t.k.ep:=by have:=LFR.out hfr hnw; omega
  have EP:=Lib.hid (tepoch_any w2 w7 10 D T' u Z H7.out)
  obtain ⟨ca,ta,hTa⟩:=H7.out.blk
  have hpt:=neq_tg hTT hTa hb7
  clear hfr hnw hTa hb7
  go_wp2_with fail
  refine EP.out.mono ?_
  rintro e w8 ⟨rfl,rfl⟩
  go_wp2
  go_roundw
  case rel=>exact ⟨k+1,T',u,S',by omega,rfl,by go_num,H7.out.less (fun _ q=>q.elim),JR.out⟩
  case measure=>simp [intOf]; omega
 subst hTT
 have hpt:=neq_tg_same w7 T'
 have EPF:=Lib.hid (LSM.out (by
  rcases HOR.out with q | q
  ·exact q.2
  ·have:=LTT.out; omega))
 clear HOR LTT LSM LFR
 have RU:=Lib.hid (show u.k.s.regs.length≤1000 from by have:=JR.out.ti.good.regs_len; omega)
 have STA:=Lib.hid (tstate_any w2 w7 10 D T' u Z H7.out RU.out)
 go_wp2_with fail
 refine STA.out.mono ?_
 rintro e w8 ⟨a8,c8,rfl,hs8,b8,fr8⟩
 obtain ⟨w9,hw9⟩:∃ w9,w9=w8.alloc (.cells #[.int .i64 u.k.s.gen,.slice a8 u.k.s.regs.length c8,.int .i64 u.k.s.typ,.int .i64 u.k.s.holder,.bool u.k.s.stays] 35):=⟨_,rfl⟩
 have B9:=Lib.hid (show RowKit.Below w7.heap.size w7 w9 from b8.trans ((hw9▸bal w8 _:RowKit.Below w8.heap.size w8 w9).mono b8.size))
 have HU9:=Lib.hid (show StR w9 u.k.s a8 from hw9▸hs8.below (bal w8 _))
 have U9:=Lib.hid (show w9.heap[w8.heap.size]?=some (.cells #[.int .i64 u.k.s.gen,.slice a8 u.k.s.regs.length c8,.int .i64 u.k.s.typ,.int .i64 u.k.s.holder,.bool u.k.s.stays] 35 (0,0)) from hw9▸heap_alloc_new w8 _)
 have V9:=Lib.hid ((B9.out.block V (Array.getElem?_eq_some_iff.1 V7.out).1).trans V7.out)
 have HS9:=Lib.hid (show StR w9 t.k.s a5 from HS7.out.below B9.out)
 have H9:=Lib.hid (show TgR w2 10 D T' u Z w9 from H7.out.over B9.out)
 go_upto_region 20 with fail
 rw [← hw9]
 obtain ⟨VU,hVU⟩:∃ V,w8.heap.size=V:=⟨_,rfl⟩
 rw [hVU] at U9 ⊢
 clear hw9 hVU hs8 b8 fr8 STA V7 HS7 H7 B9
 go_wp2
 go_loopw [11,12] (fun v i wr=>∃ m:Nat,m≤4∧v=.bool (lessTo t.k.s u.k.s m)∧i=.int .i64 ((m:Int)+1)∧RowKit.Below w9.heap.size w9 wr) (fun _ i _=>5 - (intOf i).toNat)
 case atStart=>exact ⟨0,by omega,rfl,rfl,Below.refl _ _⟩
 case round =>
 obtain ⟨m,hm,rfl,rfl,hbw⟩:=hrel
 have HB:=Lib.hid hbw
 clear hbw
 by_cases hm4:m<4
 ·have hm4':((m:Int)+1)≤4:=by omega
  have VC:=Lib.hid (fun w' (b:RowKit.Below wr.heap.size wr w')=>(cells5 ((b.block V (Nat.lt_of_lt_of_le (Array.getElem?_eq_some_iff.1 V9.out).1 HB.out.size)).trans ((HB.out.block V (Array.getElem?_eq_some_iff.1 V9.out).1).trans V9.out))).1)
  have UC:=Lib.hid (fun w' (b:RowKit.Below wr.heap.size wr w')=>(cells5 ((b.block VU (Nat.lt_of_lt_of_le (Array.getElem?_eq_some_iff.1 U9.out).1 HB.out.size)).trans ((HB.out.block VU (Array.getElem?_eq_some_iff.1 U9.out).1).trans U9.out))).1)
  have MT:=Lib.hid (fun w' (b:RowKit.Below wr.heap.size wr w') wb=>may_any t.k.s a5 c5 ((m:Int)+1) wb w' ((HS9.out.below HB.out).below b))
  have MU:=Lib.hid (fun w' (b:RowKit.Below wr.heap.size wr w') wb=>may_any u.k.s a8 c8 ((m:Int)+1) wb w' ((HU9.out.below HB.out).below b))
  obtain ⟨L,hL⟩:∃ L,lessTo t.k.s u.k.s m=L:=⟨_,rfl⟩
  obtain ⟨M1,hM1⟩:∃ M,pmay t.k.s ((m:Int)+1) true=M:=⟨_,rfl⟩
  obtain ⟨M2,hM2⟩:∃ M,pmay u.k.s ((m:Int)+1) true=M:=⟨_,rfl⟩
  obtain ⟨M3,hM3⟩:∃ M,pmay t.k.s ((m:Int)+1) false=M:=⟨_,rfl⟩
  obtain ⟨M4,hM4⟩:∃ M,pmay u.k.s ((m:Int)+1) false=M:=⟨_,rfl⟩
  have NX:=Lib.hid (show lessTo t.k.s u.k.s (m+1)=((L || (M1 && !M2)) || (M3 && !M4)) from by rw [← hL,← hM1,← hM2,← hM3,← hM4]; rfl)
  have K1:=Lib.hid (show ∀ w',RowKit.Below wr.heap.size wr w'→Calls Tryz.prog 32 #[stV t.k.s a5 c5,.int .i64 ((m:Int)+1),.bool true] w' fun e w''=>e=.returned (.bool M1)∧RowKit.Below w'.heap.size w' w'' from fun w' b=>hM1▸MT.out w' b true)
  have K2:=Lib.hid (show ∀ w',RowKit.Below wr.heap.size wr w'→Calls Tryz.prog 32 #[stV u.k.s a8 c8,.int .i64 ((m:Int)+1),.bool true] w' fun e w''=>e=.returned (.bool M2)∧RowKit.Below w'.heap.size w' w'' from fun w' b=>hM2▸MU.out w' b true)
  have K3:=Lib.hid (show ∀ w',RowKit.Below wr.heap.size wr w'→Calls Tryz.prog 32 #[stV t.k.s a5 c5,.int .i64 ((m:Int)+1),.bool false] w' fun e w''=>e=.returned (.bool M3)∧RowKit.Below w'.heap.size w' w'' from fun w' b=>hM3▸MT.out w' b false)
  have K4:=Lib.hid (show ∀ w',RowKit.Below wr.heap.size wr w'→Calls Tryz.prog 32 #[stV u.k.s a8 c8,.int .i64 ((m:Int)+1),.bool false] w' fun e w''=>e=.returned (.bool M4)∧RowKit.Below w'.heap.size w' w'' from fun w' b=>hM4▸MU.out w' b false)
  have q1:IntKind.i64.wrap (((m:Int)+1)+1)=((m+1:Nat):Int)+1:=by rw [IntWalk.i64_in _ (by omega)]; omega
  obtain ⟨v0,v1,v2,v3,v4⟩:=VC.out wr (Below.refl _ _)
  rw [hL]
  clear hL hM1 hM2 hM3 hM4 MT MU
  cases L
  ·go_wp2_with fail
   refine (K1.out _ (Below.refl _ _)).mono ?_
   rintro e w1_ ⟨rfl,b1⟩
   have HB1:=Lib.hid (show RowKit.Below wr.heap.size wr w1_ from b1)
   clear b1
   cases M1
   ·clear v0 v1 v2 v3 v4
    obtain ⟨v0,v1,v2,v3,v4⟩:=VC.out _ HB1.out
    obtain ⟨u0,u1,u2,u3,u4⟩:=UC.out _ HB1.out
    go_wp2_with fail
    refine (K3.out _ HB1.out).mono ?_
    rintro e w1c_ ⟨rfl,b1c⟩
    have HBx:=Lib.hid (show RowKit.Below wr.heap.size wr w1c_ from (HB1.out).trans (b1c.mono (HB1.out).size))
    clear b1c
    cases M3
    ·go_wp2
     go_roundw
     case rel=>exact ⟨m+1,by omega,by rw [NX.out]; rfl,by go_num,HB.out.trans (RowKit.Below.mono HBx.out HB.out.size)⟩
     case measure=>simp [intOf]; omega
    ·clear u0 u1 u2 u3 u4
     clear v0 v1 v2 v3 v4
     obtain ⟨v0,v1,v2,v3,v4⟩:=VC.out _ HBx.out
     obtain ⟨u0,u1,u2,u3,u4⟩:=UC.out _ HBx.out
     go_wp2_with fail
     refine (K4.out _ HBx.out).mono ?_
     rintro e w1d_ ⟨rfl,b1d⟩
     have HB1d:=Lib.hid (show RowKit.Below wr.heap.size wr w1d_ from (HBx.out).trans (b1d.mono (HBx.out).size))
     clear b1d
     cases M4
     ·go_wp2
      go_roundw
      case rel=>exact ⟨m+1,by omega,by rw [NX.out]; rfl,by go_num,HB.out.trans (RowKit.Below.mono HB1d.out HB.out.size)⟩
      case measure=>simp [intOf]; omega
     ·go_wp2
      go_roundw
      case rel=>exact ⟨m+1,by omega,by rw [NX.out]; rfl,by go_num,HB.out.trans (RowKit.Below.mono HB1d.out HB.out.size)⟩
      case measure=>simp [intOf]; omega
   ·clear v0 v1 v2 v3 v4
    obtain ⟨v0,v1,v2,v3,v4⟩:=VC.out _ HB1.out
    obtain ⟨u0,u1,u2,u3,u4⟩:=UC.out _ HB1.out
    go_wp2_with fail
    refine (K2.out _ HB1.out).mono ?_
    rintro e w2_ ⟨rfl,b2⟩
    have HB2:=Lib.hid (show RowKit.Below wr.heap.size wr w2_ from (HB1.out).trans (b2.mono (HB1.out).size))
    clear b2
    cases M2
    ·go_wp2
     go_roundw
     case rel=>exact ⟨m+1,by omega,by rw [NX.out]; rfl,by go_num,HB.out.trans (RowKit.Below.mono HB2.out HB.out.size)⟩
     case measure=>simp [intOf]; omega
    ·clear u0 u1 u2 u3 u4
     clear v0 v1 v2 v3 v4
     obtain ⟨v0,v1,v2,v3,v4⟩:=VC.out _ HB2.out
     obtain ⟨u0,u1,u2,u3,u4⟩:=UC.out _ HB2.out
     go_wp2_with fail
     refine (K3.out _ HB2.out).mono ?_
     rintro e w2c_ ⟨rfl,b2c⟩
     have HB2c:=Lib.hid (show RowKit.Below wr.heap.size wr w2c_ from (HB2.out).trans (b2c.mono (HB2.out).size))
     clear b2c
     cases M3
     ·go_wp2
      go_roundw
      case rel=>exact ⟨m+1,by omega,by rw [NX.out]; rfl,by go_num,HB.out.trans (RowKit.Below.mono HB2c.out HB.out.size)⟩
      case measure=>simp [intOf]; omega
     ·clear u0 u1 u2 u3 u4
      clear v0 v1 v2 v3 v4
      obtain ⟨v0,v1,v2,v3,v4⟩:=VC.out _ HB2c.out
      obtain ⟨u0,u1,u2,u3,u4⟩:=UC.out _ HB2c.out
      go_wp2_with fail
      refine (K4.out _ HB2c.out).mono ?_
      rintro e w2d_ ⟨rfl,b2d⟩
      have HB2d:=Lib.hid (show RowKit.Below wr.heap.size wr w2d_ from (HB2c.out).trans (b2d.mono (HB2c.out).size))
      clear b2d
      cases M4
      ·go_wp2
       go_roundw
       case rel=>exact ⟨m+1,by omega,by rw [NX.out]; rfl,by go_num,HB.out.trans (RowKit.Below.mono HB2d.out HB.out.size)⟩
       case measure=>simp [intOf]; omega
      ·go_wp2
       go_roundw
       case rel=>exact ⟨m+1,by omega,by rw [NX.out]; rfl,by go_num,HB.out.trans (RowKit.Below.mono HB2d.out HB.out.size)⟩
       case measure=>simp [intOf]; omega
  ·go_wp2
   go_roundw
   case rel=>exact ⟨m+1,by omega,by rw [NX.out]; rfl,by go_num,HB.out.trans (RowKit.Below.mono (Below.refl _ _) HB.out.size)⟩
   case measure=>simp [intOf]; omega
 ·obtain rfl:m=4:=by omega
  rw [lessTo_four]
  have H10:=Lib.hid (H9.out.over HB.out)
  have BW:=Lib.hid (show RowKit.Below w.heap.size w wr from B2.out.trans (H10.out.below.mono B2.out.size))
  obtain ⟨LS,hLS⟩:∃ LS,lessB pmay t.k.s u.k.s=LS:=⟨_,rfl⟩
  have hle:=EPF.out.le
  have hless:=EPF.out.less
  have hup:=EPF.out.up
  rw [hLS] at hless hup ⊢
  clear hLS V9 U9 HS9 HU9 H9
  obtain ⟨E,hE⟩:∃ E,t.k.ep=E:=⟨_,rfl⟩
  obtain ⟨G,hG⟩:∃ G,u.k.ep=G:=⟨_,rfl⟩
  rw [hE,hG] at hle hless hup
  have EPO:=Lib.hid (show Calls Tryz.prog 26 #[.pointer (some ⟨T',0,none⟩)] wr (fun e w'=>e=.returned (.int .i64 G)∧w'=wr) from hG▸tepoch_any w2 wr 10 D T' u Z H10.out)
  rw [hE]
  have t1:¬ G<E:=by omega
  clear hE hG
  cases LS
  ·clear hless
   by_cases hgt:E<G
   ·have hkd:X.kind=sPower:=(hup hgt).resolve_left (by simp)
    have hkc:wr.cell? ⟨xb,xo+k*19,none⟩=some (.string X.kind):=HRG.out wr BW.out 0 _ rfl
    have hkp:(X.kind.toList == [112,111,119,101,114])=true:=by rw [kd_power]; exact decide_eq_true hkd
    clear hkd hup hle
    go_wp2_with ((with_reducible refine EPO.out.mono ?_); rintro e wr ⟨rfl,rfl⟩)
    go_roundw
    case rel=>exact ⟨k+1,T',u,S',by omega,rfl,by go_num,H10.out.less (fun _ q=>q.elim),JR.out⟩
    case measure=>simp [intOf]; omega
   ·clear hup
    go_wp2_with ((with_reducible refine EPO.out.mono ?_); rintro e wr ⟨rfl,rfl⟩)
    go_roundw
    case rel=>exact ⟨k+1,T',u,S',by omega,rfl,by go_num,H10.out.less (fun _ q=>q.elim),JR.out⟩
    case measure=>simp [intOf]; omega
  ·have hgt:E<G:=hless rfl
   have hne:(G == E)=false:=by simp; omega
   clear hless hup hle
   go_wp2_with ((with_reducible refine EPO.out.mono ?_); rintro e wr ⟨rfl,rfl⟩)
   go_roundw
   case rel=>exact ⟨k+1,T',u,S',by omega,rfl,by go_num,H10.out.less (fun _ q=>q.elim),JR.out⟩
   case measure=>simp [intOf]; omega
end Go.Proofs.YtajegiifabfcjaaGreatDoor
