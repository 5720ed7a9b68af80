import Derived.Test.YtajegiifabfcjaaGreatDoorQ37
import Derived.Test.YtajegiifabfcjaaGreatDoorQ21
import Derived.Test.YtajegiifabfcjaaGreatDoorQ22
import Derived.Deep.CutBlock
namespace Go.Proofs.YtajegiifabfcjaaGreatDoor
open Go.RowKit Go.Sort
open Go.Lib (hid)
theorem asked_bx {t:Tg} {c:Cmd} {u:Tg} {a:Ans} (o:Asked t c u a):u.b=t.b:=by
 cases o with
 | no=>rfl
 | busy=>rfl
 | read=>rfl
 | refused=>rfl
 | full _ _ u hu=>rcases hu with ⟨-,rfl⟩ | ⟨-,rfl,-⟩ <;> rfl
 | write _ _ u hu=>rcases hu with ⟨-,rfl⟩ | ⟨-,rfl,-⟩ <;> rfl
theorem up_true {t:Tg} {m:Nat} (hm:m<3):t.up m true=({ t with g:=t.g.setU m true },0):=by
 unfold Tg.up
 rw [if_neg (by omega),Int.toNat_natCast]
theorem ups_next {g:Gp} (hg:g.ok) {m:Nat} (hm:m<3) (h:∀ q,q<m→g.u.getD q false=true):∀ q,q<m+1→(g.setU m true).u.getD q false=true:=fun q hq=>by
 have h3:m<g.u.length:=by rw [hg.u3]; exact hm
 have h3q:q<g.u.length:=by omega
 unfold Gp.setU
 by_cases e:q=m
 ·subst e
  simp [h3]
 ·have:=h q (by omega)
  rw [List.getD_eq_getElem?_getD] at this ⊢
  rw [List.getElem?_set_ne (fun q=>e q.symm)]
  exact this
set_option maxRecDepth 100000 in
set_option maxHeartbeats 40000000 in
theorem topfall_walk (l:List Ac) (a:Option Addr) (cap:Nat) (c:Cmd) (fuse keep:Int) (w:World) (hl:l.length≤maxLen) (hr:ActsAt w a l) (hs:c.data.size≤maxLen∧c.want.size≤maxLen) (tt:Tabs w) :
  Calls Tryz.prog 10 #[.slice a l.length cap,cmdV c,.int .i64 fuse,.int .u64 keep] w fun e w'=>e=.returned (.bool true)∧Below w.heap.size w w':=by
 have TT:=hid tt
 have HS:=hid (show c.data.size≤9223372036854775807∧c.want.size≤9223372036854775807 from by unfold maxLen at hs; omega)
 obtain ⟨w1,hw1⟩:∃ w1,w1=w.alloc (.cells #[.int .i64 c.op,.int .i64 c.who,.int .i64 c.key,.int .i64 c.new,.int .i64 c.typ,.int .i64 c.at',.bool c.stays,.string c.data,.string c.want] 37):=⟨_,rfl⟩
 have B1:=hid (show RowKit.Below w.heap.size w w1 from hw1▸bal w _)
 have R1:=hid (show w1.heap[w.heap.size]?=some (.cells #[.int .i64 c.op,.int .i64 c.who,.int .i64 c.key,.int .i64 c.new,.int .i64 c.typ,.int .i64 c.at',.bool c.stays,.string c.data,.string c.want] 37 (0,0)) from hw1▸heap_alloc_new w _)
 have HA:=(Array.getElem?_eq_some_iff.1 R1.out).1
 have WK:=hid (works_any w1 (TT.out.on B1.out))
 have PLAYED:=hid (fun w' (b:RowKit.Below w.heap.size w w')=>played_any l a cap w' hl (hr.below b) (TT.out.on b))
 clear hr hs tt
 go_enter Tryz.func10,Tryz.ntmps10
 go_upto_region 1 with fail
 rw [← hw1]
 clear hw1
 go_wp2_with fail
 refine WK.out.mono ?_
 rintro e w2 ⟨rfl,b2⟩
 have B2:=hid (show RowKit.Below w.heap.size w w2 from B1.out.trans (b2.mono B1.out.size))
 have R2:=hid ((b2.block _ HA).trans R1.out)
 have PL:=hid (PLAYED.out w2 B2.out)
 obtain ⟨A,hA⟩:∃ A,w.heap.size=A:=⟨_,rfl⟩
 have LA:=hid (show A<w2.heap.size from by have:=b2.size; omega)
 rw [hA] at R2 ⊢
 clear b2 WK PLAYED R1 B1 HA hA
 go_wp2_with fail
 refine PL.out.mono ?_
 rintro e w3 (⟨rfl,b3⟩ | ⟨D,T,t,S,rfl,h3,j3⟩)
 ·have B3:=hid (show RowKit.Below w.heap.size w w3 from B2.out.trans (b3.mono B2.out.size))
  clear b3 PL
  go_wp2
  go_ret
  exact ⟨rfl,B3.out⟩
 have H3:=hid h3
 have J3:=hid j3
 have R3:=hid ((h3.below.block A LA.out).trans R2.out)
 have B3:=hid (show RowKit.Below w.heap.size w w3 from B2.out.trans (h3.below.mono B2.out.size))
 have CK:=hid (ccheck_any c w3 HS.out)
 clear h3 j3 PL
 obtain ⟨q0,q1,q2,q3,q4,q5,q6,q7,q8⟩:=cells9 R3.out
 go_wp2_with fail
 refine CK.out.mono ?_
 rintro e w4 ⟨rfl,b4⟩
 have B4:=hid b4
 have R4:=hid ((b4.block A (Nat.lt_of_lt_of_le LA.out H3.out.below.size)).trans R3.out)
 clear b4 CK
 clear q0 q1 q2 q3 q4 q5 q6 q7 q8 R3
 by_cases hf:cmdFault c=0
 case neg =>
  rw [errV_some hf]
  clear hf
  go_wp2
  go_ret
  exact ⟨rfl,B3.out.trans (B4.out.mono B3.out.size)⟩
 rw [hf,errV_nil]
 have HF:=hid hf
 clear hf
 obtain ⟨q0,q1,q2,q3,q4,q5,q6,q7,q8⟩:=cells9 R4.out
 by_cases hop:6<c.op
 ·go_wp2
  go_ret
  exact ⟨rfl,B3.out.trans (B4.out.mono B3.out.size)⟩
 have HOP:=hid (show c.op≤6 from by omega)
 have HCK:=hid (fault_zero HF.out).1
 have CF:=hid (rd_fault (at':=0) HCK.out.who (by omega))
 have H4:=hid (H3.out.over B4.out)
 have L5:=hid (show (t.b.get c.who).length≤5 from J3.out.ti.box.len c.who)
 go_upto_block 0 with fail
 clear q0 q1 q2 q3 q4 q5 q6 q7 q8 hop B4 R4 H3
 go_cut [12] (fun _ wx=>∃ (v:Tg) (S:Cel→Prop),v.b.get c.who=[]∧TgR w2 10 D T v (fun _=>False) wx∧TJ 10 S 212 v)
 case first =>
  go_wp2_with fail
  go_loopw [12] (fun i wr=>∃ (k:Nat) (u:Tg) (S:Cel→Prop),k≤5∧(u.b.get c.who).length+k≤5∧i=.int .i64 k∧TgR w2 10 D T u (fun _=>False) wr∧TJ 10 S (200+2*(k:Int)) u) (fun i _=>5 - (intOf i).toNat)
  case atStart=>exact ⟨0,t,S,by omega,by have:=L5.out; omega,rfl,H4.out,by simpa using J3.out⟩
  case round =>
  obtain ⟨k,u,S,hk,hlen,rfl,hT,hJ⟩:=hrel
  have HT:=hid hT
  have HJ:=hid hJ
  have HLEN:=hid hlen
  clear hT hJ hlen H4 J3
  by_cases hk5:k<5
  case neg =>
   have hb:u.b.get c.who=[]:=by
    have:=HLEN.out
    exact List.eq_nil_of_length_eq_zero (by omega)
   have HB:=hid hb
   have JJ:=hid (show TJ 10 S 212 u from HJ.out.mono (by omega))
   clear hb
   go_wp2_with fail
   go_meet
   exact ⟨u,S,HB.out,HT.out,JJ.out⟩
  have hk5':(k:Int)<5:=by omega
  obtain ⟨q0,q1,q2,q3,q4,q5,q6,q7,q8⟩:=cells9 ((HT.out.below.block A LA.out).trans R2.out)
  have AK:=hid (task_any w2 wr 10 D T u (fun _=>False) S _ (cRd c.who 0) HT.out HJ.out (by omega) ⟨by show 0≤9223372036854775807; omega,by show 0≤9223372036854775807; omega⟩ (TT.out.on B2.out))
  obtain ⟨S1,-,hj1⟩:=HJ.out.ask (by omega) (cRd c.who 0)
  by_cases hb:u.b.get c.who=[]
  case neg =>
   obtain ⟨x,xl,hxl⟩:∃ x xl,u.b.get c.who=x :: xl:=by
    cases h:u.b.get c.who with
    | nil=>exact absurd h hb
    | cons x xl=>exact ⟨x,xl,rfl⟩
   obtain ⟨he,hx1,hx4⟩:=ask_told (n:=10) HJ.out.ti.box CF.out hxl
   rw [he] at AK hj1
   rw [errV_nil] at AK
   have hxn:(x == 0)=false:=by simp; omega
   have HJ':=hid (show TJ 10 S1 (200+2*((k+1:Nat):Int)) { u with b:=u.b.set c.who xl } from hj1.mono (by omega))
   have LEN':=hid (show (({ u with b:=u.b.set c.who xl }:Tg).b.get c.who).length+(k+1)≤5 from by
    show ((u.b.set c.who xl).get c.who).length+(k+1)≤5
    rw [Bl.get_set_self]
    have:=HLEN.out
    rw [hxl,List.length_cons] at this
    omega)
   clear hb hxl he hj1 hx1 hx4
   go_wp2_with fail
   refine AK.out.mono ?_
   rintro e w5 ⟨rfl,h5,-⟩
   have H5:=hid h5
   clear h5 AK
   go_wp2
   go_roundw
   case rel=>exact ⟨k+1,_,S1,by omega,LEN'.out,by go_num,H5.out,HJ'.out⟩
   case measure=>simp [intOf]; omega
  have hwt:(u.ask 10 (cRd c.who 0)).2.what=0:=ask_what CF.out hb
  have hvb:(u.ask 10 (cRd c.who 0)).1.b=u.b:=asked_bx (asked_live HJ.out.ti CF.out (by show (7:Int)≤7; omega) hb)
  obtain ⟨ra,hra⟩:∃ r,u.ask 10 (cRd c.who 0)=r:=⟨_,rfl⟩
  rw [hra] at AK hj1 hwt hvb
  clear hra
  obtain ⟨v,hv⟩:∃ v,ra.1=v:=⟨_,rfl⟩
  rw [hv] at AK hj1 hvb
  rw [hwt] at AK
  have JV:=hid (show TJ 10 S1 212 v from hj1.mono (by omega))
  have VB:=hid (show v.b.get c.who=[] from by rw [hvb]; exact hb)
  clear hv hwt hvb hb hj1
  go_wp2_with fail
  refine AK.out.mono ?_
  rintro e w5 ⟨rfl,h5,-⟩
  have H5:=hid h5
  clear h5 AK HT
  go_wp2_with fail
  go_meet
  exact ⟨v,S1,VB.out,H5.out,JV.out⟩
 case rest =>
 obtain ⟨v,S,hb,hT,hJ⟩:=hcut
 have HB:=hid hb
 have H5:=hid hT
 have J5:=hid hJ
 clear hb hT hJ H4 J3 L5
 go_wp2
 go_loopw [17] (fun i wr=>∃ (m:Nat) (z:Tg),m≤3∧i=.int .i64 m∧TgR w2 10 D T z (fun _=>False) wr∧TJ 10 S 212 z∧z.b.get c.who=[]∧∀ q,q<m→z.g.u.getD q false=true) (fun i _=>3 - (intOf i).toNat)
 case atStart=>exact ⟨0,v,by omega,rfl,H5.out,J5.out,HB.out,fun q hq=>absurd hq (by omega)⟩
 case round =>
 obtain ⟨m,z,hm,rfl,hT,hJ,hb,hup⟩:=hrel
 have HZ:=hid hT
 have JZ:=hid hJ
 have HB:=hid hb
 have UPS:=hid hup
 clear hT hJ hb hup H5 J5
 by_cases hm3:m<3
 ·have hm3':(m:Int)<3:=by omega
  have UP:=hid (up_any w2 wr 10 D T z _ (m:Int) true HZ.out)
  rw [up_true hm3] at UP
  have J':=hid (show TJ 10 S 212 { z with g:=z.g.setU m true } from ⟨by have:=JZ.out.ti.up (m:Int) true; rw [up_true hm3] at this; exact this,JZ.out.sz⟩)
  have U':=hid (ups_next JZ.out.ti.qi.ok hm3 UPS.out)
  go_wp2_with fail
  refine UP.out.mono ?_
  rintro e w6 ⟨rfl,h6,-⟩
  have H6:=hid h6
  clear h6 UP
  go_wp2
  go_roundw
  case rel=>exact ⟨m+1,_,by omega,by go_num,H6.out,J'.out,HB.out,U'.out⟩
  case measure=>simp [intOf]; omega
 obtain rfl:m=3:=by omega
 have UP:=hid (show Ups z.g from fun i hi=>UPS.out i hi)
 have GZ:=hid JZ.out.ti.good
 have RL:=hid (show z.k.s.regs.length≤1000 from by have:=GZ.out.regs_len; omega)
 have STA:=hid (tstate_any w2 wr 10 D T z _ HZ.out RL.out)
 clear UPS hm hm3
 go_wp2_with fail
 refine STA.out.mono ?_
 rintro e w6 ⟨a6,c6,rfl,hs6,b6,fr6⟩
 obtain ⟨w7,hw7⟩:∃ w7,w7=w6.alloc (.cells #[.int .i64 z.k.s.gen,.slice a6 z.k.s.regs.length c6,.int .i64 z.k.s.typ,.int .i64 z.k.s.holder,.bool z.k.s.stays] 35):=⟨_,rfl⟩
 have B7:=hid (show RowKit.Below wr.heap.size wr w7 from b6.trans ((hw7▸bal w6 _:RowKit.Below w6.heap.size w6 w7).mono b6.size))
 have HS7:=hid (show StR w7 z.k.s a6 from hw7▸hs6.below (bal w6 _))
 have V7:=hid (show w7.heap[w6.heap.size]?=some (.cells #[.int .i64 z.k.s.gen,.slice a6 z.k.s.regs.length c6,.int .i64 z.k.s.typ,.int .i64 z.k.s.holder,.bool z.k.s.stays] 35 (0,0)) from hw7▸heap_alloc_new w6 _)
 have LV:=hid (show wr.heap.size≤w6.heap.size from b6.size)
 have FR6:=hid (show ∀ b o,a6=some ⟨b,o,none⟩→wr.heap.size≤b from fun b o e=>fr6 b o e)
 go_upto_region 17 with fail
 rw [← hw7]
 obtain ⟨V,hV⟩:∃ V,w6.heap.size=V:=⟨_,rfl⟩
 rw [hV] at V7 LV ⊢
 clear hw7 hV hs6 b6 fr6 STA
 obtain ⟨pr,hpr⟩:∃ r,pdo z.k.s c=r:=⟨_,rfl⟩
 have LFS:=hid (show LFo z.k.s.regs 40 from ⟨by have:=GZ.out.regs_len; omega,fun r hr=>by have:=GZ.out.bounds r hr; omega,GZ.out.sorted⟩)
 have ORD:=hid (rordered_any z.k.s a6 c6 c w7 HS7.out LFS.out (by have:=HCK.out.who; omega) HCK.out.op.1 HCK.out.new.1 GZ.out.gen)
 have PR:=hid (pdo_r z.k.s c)
 rw [← pdo_rdo GZ.out HCK.out,hpr] at ORD
 rw [hpr] at PR
 have HPR:=hid hpr
 clear hpr
 obtain ⟨⟨v0,v1,v2,v3,v4⟩,-⟩:=cells5 V7.out
 have R7:=hid (((HZ.out.over B7.out).below.block A LA.out).trans R2.out)
 obtain ⟨q0,q1,q2,q3,q4,q5,q6,q7,q8⟩:=cells9 R7.out
 go_wp2_with fail
 refine ORD.out.mono ?_
 rintro e w8 ⟨a8,c8,vv,rfl,hs8,-,b8,al8⟩
 obtain ⟨nx,hnx⟩:∃ s,pr.1=s:=⟨_,rfl⟩
 obtain ⟨bad,hbad⟩:∃ s,pr.2.2=s:=⟨_,rfl⟩
 rw [hnx] at hs8 ⊢
 rw [hbad] at PR ⊢
 have HNX:=hid (show (pdo z.k.s c).1=nx∧(pdo z.k.s c).2.2=bad from by rw [HPR.out]; exact ⟨hnx,hbad⟩)
 dsimp only
 obtain ⟨w9,hw9⟩:∃ w9,w9=w8.alloc (.cells #[.int .i64 nx.gen,.slice a8 nx.regs.length c8,.int .i64 nx.typ,.int .i64 nx.holder,.bool nx.stays] 35):=⟨_,rfl⟩
 have b79:RowKit.Below w7.heap.size w7 w9:=b8.trans ((hw9▸bal w8 _:RowKit.Below w8.heap.size w8 w9).mono b8.size)
 have B9:=hid (show RowKit.Below wr.heap.size wr w9 from B7.out.trans (b79.mono B7.out.size))
 have HN9:=hid (show StR w9 nx a8 from hw9▸hs8.below (bal w8 _))
 have N9:=hid (show w9.heap[w8.heap.size]?=some (.cells #[.int .i64 nx.gen,.slice a8 nx.regs.length c8,.int .i64 nx.typ,.int .i64 nx.holder,.bool nx.stays] 35 (0,0)) from hw9▸heap_alloc_new w8 _)
 have HS9:=hid (HS7.out.below b79)
 have V9:=hid ((b79.block V (Array.getElem?_eq_some_iff.1 V7.out).1).trans V7.out)
 have LN:=hid (show wr.heap.size≤w8.heap.size from Nat.le_trans B7.out.size b8.size)
 have FR8:=hid (show ∀ b o,a8=some ⟨b,o,none⟩→wr.heap.size≤b from fun b o e=>by
  rcases al8 with h | h
  ·exact FR6.out b o (h.symm.trans e)
  ·exact Nat.le_trans B7.out.size (h b o e))
 go_upto_region 18 with fail
 rw [← hw9]
 obtain ⟨NB,hNB⟩:∃ V,w8.heap.size=V:=⟨_,rfl⟩
 rw [hNB] at N9 LN ⊢
 clear hw9 hNB hs8 b8 b79 ORD v0 v1 v2 v3 v4 q0 q1 q2 q3 q4 q5 q6 q7 q8 V7 HS7 R7 hnx hbad HPR al8
 obtain ⟨Z,hZ⟩:∃ Z:Nat→Prop,Z=fun c=>(fun _=>False) c∨(wr.heap.size≤c∧c<w9.heap.size):=⟨_,rfl⟩
 have H9:=hid (show TgR w2 10 D T z Z w9 from hZ▸HZ.out.more B9.out)
 have ZN:=hid (show ∀ b,wr.heap.size≤b→b<w9.heap.size→Z b from fun b h1 h2=>hZ▸Or.inr ⟨h1,h2⟩)
 clear hZ
 obtain ⟨fz,hfz⟩:∃ fz,min (max fuse (-1)) 60=fz:=⟨_,rfl⟩
 have FZ:=hid (show -1≤fz∧fz≤60 from by omega)
 have ARM:=hid (tarm_any w2 w9 10 D T z Z fz H9.out)
 go_wp2_with fail
 clear hfz
 refine ARM.out.mono ?_
 rintro e w10 ⟨rfl,h10,s10⟩
 obtain ⟨p,hp⟩:∃ p,max fz (-1)=p:=⟨_,rfl⟩
 have PB:=hid (show -1≤p∧p≤60 from by have:=FZ.out; omega)
 rw [hp] at h10
 have H10:=hid (show TgR w2 10 D T (z.armed p) Z w10 from h10)
 have S10:=hid s10
 have R10:=hid ((h10.below.block A LA.out).trans R2.out)
 clear h10 s10 hp ARM FZ
 have FALL:=hid (fall_law JZ.out (by omega) UP.out HF.out HOP.out HB.out PB.out.1 PB.out.2 keep)
 have ASK:=hid (task_anyA w2 w10 10 D T (z.armed p) Z S 212 c H10.out ⟨JZ.out.kgArm PB.out.1 PB.out.2,JZ.out.ti.qi.ok,by have:=JZ.out.ti.kb; show z.k.num+2<1000000000000000; omega⟩ (fun q=>absurd q (by have:=HOP.out; omega)) (by omega) HS.out (TT.out.on B2.out))
 obtain ⟨ra,hra⟩:∃ r,(z.armed p).ask 10 c=r:=⟨_,rfl⟩
 rw [hra] at FALL ASK
 clear hra
 obtain ⟨q0,q1,q2,q3,q4,q5,q6,q7,q8⟩:=cells9 R10.out
 go_wp2_with fail
 refine ASK.out.mono ?_
 rintro e w11 ⟨rfl,h11,s11⟩
 obtain ⟨u,hu⟩:∃ u,ra.1=u:=⟨_,rfl⟩
 obtain ⟨f,hff⟩:∃ f,ra.2.err=f:=⟨_,rfl⟩
 rw [hu] at h11 FALL
 rw [hff] at FALL ⊢
 have H11:=hid h11
 have S11:=hid (show Same Z w9 w11 from S10.out.trans s11)
 clear h11 s11 ASK q0 q1 q2 q3 q4 q5 q6 q7 q8 hu hff S10 R10 H10
 have GRP:=hid (tgroup_any w2 w11 10 D T u Z H11.out)
 have ZG:=hid (Gp.size FALL.out.gok)
 go_wp2_with fail
 refine GRP.out.mono ?_
 rintro e w12 ⟨rfl,b12⟩
 have Z12:=hid (show (w12.alloc (.cells Tryz.zeroCells60 60)).heap[w12.heap.size]?=some (.cells Gp.zero.arr 60 (0,0)) from gp_zero_arr▸heap_alloc_new w12 _)
 go_upto_region 21 with ((with_reducible refine st_row1 rfl 60 _ _ rfl ?_); refine ⟨w12.heap.size,_,u.g.arr,Gp.zero.arr,rfl,rfl,Z12.out,by rw [gp_row.2,ZG.out],by rw [ZG.out]; rfl,Gp.one _,?_⟩)
 obtain ⟨w13,hw13⟩:∃ w13,w13=(w12.alloc (.cells Tryz.zeroCells60 60)).setRow w12.heap.size u.g.arr:=⟨_,rfl⟩
 rw [← hw13]
 have B13:=hid (show RowKit.Below w11.heap.size w11 w13 from b12.trans ((hw13▸bel_row w12 _ _ _:RowKit.Below w12.heap.size w12 w13).mono b12.size))
 have G13:=hid (show w13.heap[w12.heap.size]?=some (.cells u.g.arr 60 (0,0)) from hw13▸setRow_heap _ _ _ _ _ _ Z12.out)
 obtain ⟨Z2,hZ2⟩:∃ Z2:Nat→Prop,Z2=fun c=>Z c∨(w11.heap.size≤c∧c<w13.heap.size):=⟨_,rfl⟩
 have H13:=hid (show TgR w2 10 D T u Z2 w13 from hZ2▸H11.out.more B13.out)
 have ZZ:=hid (show ∀ b,Z b→Z2 b from fun b hb=>hZ2▸Or.inl hb)
 have ZU:=hid (show Z2 w12.heap.size from hZ2▸Or.inr ⟨b12.size,(Array.getElem?_eq_some_iff.1 G13.out).1⟩)
 have S13:=hid (show Same Z w9 w13 from fun b hb=>(B13.out.block b (H11.out.lt_y b hb)).trans (S11.out b hb))
 obtain ⟨U,hU⟩:∃ U,w12.heap.size=U:=⟨_,rfl⟩
 rw [hU] at G13 ZU ⊢
 clear hw13 hU Z12 b12 GRP hZ2 B13 S11
 have RES:=hid (trestart_any w2 w13 10 D T u Z2 keep H13.out FALL.out.ok FALL.out.wl)
 go_wp2_with fail
 refine RES.out.mono ?_
 rintro e w14 ⟨rfl,h14,s14⟩
 have G14:=hid ((s14 U ZU.out).trans G13.out)
 have S14:=hid (show Same Z w9 w14 from fun b hb=>(s14 b (ZZ.out b hb)).trans (S13.out b hb))
 obtain ⟨num,ep,st,kd,sz,hnum,n1,n2,fb,fg⟩:=FALL.out.new
 have NEW:=hid (show Calls Tryz.prog 40 #[.pointer (some ⟨D,0,none⟩),.agg u.g.arr] w14 fun e w''=>NewPost w2 w14 10 D Z2 (Tg.new 10 ⟨u.k.d.restart keep,num,ep,st⟩ u.g) e w''∧(((Tg.start ⟨u.k.d.restart keep,num,ep,st⟩ u.g).isReady=false∨ep=1000000)→RowKit.Below w14.heap.size w14 w'') from by
  obtain ⟨X,m,ki,tb,lo,hy⟩:=h14
  exact tnew_any w2 w14 10 D (u.k.d.restart keep) Z2 num ep st u.g (ki.dki (fun c hc=>(hy c hc).1)) kd sz FALL.out.gok hnum (TT.out.on B2.out) (fun c hc=>lo c (hy c hc).1))
 have STL:=hid (show st.regs.length≤1000 from by have:=kd.place.k.g.regs_len; omega)
 obtain ⟨nr,hnr⟩:∃ r,Tg.new 10 ⟨u.k.d.restart keep,num,ep,st⟩ u.g=r:=⟨_,rfl⟩
 rw [hnr] at NEW n1 n2
 have N1:=hid n1
 have N2:=hid n2
 have FB:=hid fb
 have FG:=hid fg
 clear h14 s14 RES kd sz hnum n1 n2 fb fg hnr S13 G13 H13 H11
 go_wp2_with ((with_reducible refine ld_row1 rfl 60 _ rfl ?_); refine ⟨U,_,u.g.arr,_,rfl,G14.out,gp_row.1,rfl,by rw [gp_row.2,ZG.out],?_⟩)
 refine NEW.out.mono ?_
 rintro e w15 ⟨⟨p1,-⟩,-⟩
 obtain ⟨T',rfl,h15,s15,-⟩:=p1 N1.out
 have H15:=hid h15
 have S15:=hid (show Same Z w9 w15 from fun b hb=>(s15 b (ZZ.out b hb)).trans (S14.out b hb))
 clear p1 h15 s15 NEW S14 G14
 have V15:=hid ((S15.out V (ZN.out V LV.out (Array.getElem?_eq_some_iff.1 V9.out).1)).trans V9.out)
 have N15:=hid ((S15.out NB (ZN.out NB LN.out (Array.getElem?_eq_some_iff.1 N9.out).1)).trans N9.out)
 have HS15:=hid (show StR w15 z.k.s a6 from HS9.out.same S15.out (fun b hb=>H15.out.lt_y b (ZZ.out b hb)) (fun b o e hne=>ZN.out b (FR6.out b o e) (by
  have hs:=HS9.out
  rw [e] at hs
  exact StR.blt hs hne)))
 have HN15:=hid (show StR w15 nx a8 from HN9.out.same S15.out (fun b hb=>H15.out.lt_y b (ZZ.out b hb)) (fun b o e hne=>ZN.out b (FR8.out b o e) (by
  have hs:=HN9.out
  rw [e] at hs
  exact StR.blt hs hne)))
 clear V9 N9 HS9 HN9 S15 ZN LV LN
 have STA:=hid (tstate_any w2 w15 10 D T' nr.1 Z2 H15.out (by rw [N2.out]; exact STL.out))
 rw [N2.out] at STA
 go_wp2_with fail
 refine STA.out.mono ?_
 rintro e w16 ⟨a16,c16,rfl,hs16,b16,-⟩
 obtain ⟨w17,hw17⟩:∃ w17,w17=w16.alloc (.cells #[.int .i64 st.gen,.slice a16 st.regs.length c16,.int .i64 st.typ,.int .i64 st.holder,.bool st.stays] 35):=⟨_,rfl⟩
 have B17:=hid (show RowKit.Below w15.heap.size w15 w17 from b16.trans ((hw17▸bal w16 _:RowKit.Below w16.heap.size w16 w17).mono b16.size))
 have HM17:=hid (show StR w17 st a16 from hw17▸hs16.below (bal w16 _))
 have M17:=hid (show w17.heap[w16.heap.size]?=some (.cells #[.int .i64 st.gen,.slice a16 st.regs.length c16,.int .i64 st.typ,.int .i64 st.holder,.bool st.stays] 35 (0,0)) from hw17▸heap_alloc_new w16 _)
 have V17:=hid ((B17.out.block V (Array.getElem?_eq_some_iff.1 V15.out).1).trans V15.out)
 have N17:=hid ((B17.out.block NB (Array.getElem?_eq_some_iff.1 N15.out).1).trans N15.out)
 have HS17:=hid (HS15.out.below B17.out)
 have HN17:=hid (HN15.out.below B17.out)
 have BW:=hid (show RowKit.Below w.heap.size w w17 from B2.out.trans ((H15.out.over B17.out).below.mono B2.out.size))
 go_upto_region 26 with fail
 rw [← hw17]
 obtain ⟨MB,hMB⟩:∃ V,w16.heap.size=V:=⟨_,rfl⟩
 rw [hMB] at M17 ⊢
 clear hw17 hMB hs16 b16 STA V15 N15 HS15 HN15 B17 H15
 rw [HNX.out.1,HNX.out.2] at FG
 rw [HNX.out.2] at FB
 by_cases hb0:0<bad
 ·obtain ⟨hfb,hst⟩:=FB.out (by omega)
  have NUM:=hid (tpnum_any bad PR.out w17)
  rw [hfb,errV_some (by omega)]
  rw [hst] at M17 HM17
  clear hfb hst FG FB
  go_wp2_with fail
  refine NUM.out.mono ?_
  rintro e w18 ⟨rfl,b18⟩
  have BZ:=hid (show RowKit.Below w.heap.size w w18 from BW.out.trans (b18.mono BW.out.size))
  have V18:=hid ((b18.block V (Array.getElem?_eq_some_iff.1 V17.out).1).trans V17.out)
  have M18:=hid ((b18.block MB (Array.getElem?_eq_some_iff.1 M17.out).1).trans M17.out)
  have SAME:=hid (samestate_true z.k.s a16 a6 c16 c6 w18 (HM17.out.below b18) (HS17.out.below b18))
  clear b18 NUM
  obtain ⟨⟨v0,v1,v2,v3,v4⟩,-⟩:=cells5 V18.out
  obtain ⟨⟨m0,m1,m2,m3,m4⟩,-⟩:=cells5 M18.out
  go_wp2_with fail
  refine SAME.out.mono ?_
  rintro e w19 ⟨rfl,b19⟩
  have BE:=hid (show RowKit.Below w.heap.size w w19 from BZ.out.trans (b19.mono BZ.out.size))
  clear b19 v0 v1 v2 v3 v4 m0 m1 m2 m3 m4
  go_wp2
  go_ret
  exact ⟨rfl,BE.out⟩
 have hbz:bad=0:=by have:=PR.out; omega
 obtain ⟨fg1,fg2⟩:=FG.out hbz
 have FG1:=hid fg1
 have FG2:=hid fg2
 clear fg1 fg2 hbz FB FG
 by_cases hf0:f=0
 ·have hst:=FG1.out hf0
  rw [hst] at M17 HM17
  rw [hf0,errV_nil]
  have SAME:=hid (samestate_true nx a16 a8 c16 c8 w17 HM17.out HN17.out)
  clear hf0 hst
  obtain ⟨⟨v0,v1,v2,v3,v4⟩,-⟩:=cells5 N17.out
  obtain ⟨⟨m0,m1,m2,m3,m4⟩,-⟩:=cells5 M17.out
  go_wp2_with fail
  refine SAME.out.mono ?_
  rintro e w19 ⟨rfl,b19⟩
  have BE:=hid (show RowKit.Below w.heap.size w w19 from BW.out.trans (b19.mono BW.out.size))
  clear b19 v0 v1 v2 v3 v4 m0 m1 m2 m3 m4
  go_wp2
  go_ret
  exact ⟨rfl,BE.out⟩
 rw [errV_some hf0]
 clear hf0 FG1
 obtain ⟨⟨v0,v1,v2,v3,v4⟩,-⟩:=cells5 V17.out
 obtain ⟨⟨m0,m1,m2,m3,m4⟩,-⟩:=cells5 M17.out
 rcases FG2.out with hst | hst
 ·have SAME:=hid (show Calls Tryz.prog 34 #[stV st a16 c16,stV z.k.s a6 c6] w17 (fun e w''=>e=.returned (.bool true)∧RowKit.Below w17.heap.size w17 w'') from by
   have h:=HM17.out
   rw [hst] at h ⊢
   exact samestate_true z.k.s a16 a6 c16 c6 w17 h HS17.out)
  clear hst
  go_wp2_with fail
  refine SAME.out.mono ?_
  rintro e w19 ⟨rfl,b19⟩
  have BE:=hid (show RowKit.Below w.heap.size w w19 from BW.out.trans (b19.mono BW.out.size))
  clear b19 v0 v1 v2 v3 v4 m0 m1 m2 m3 m4
  go_wp2
  go_ret
  exact ⟨rfl,BE.out⟩
 ·have SOME:=hid (samestate_some st z.k.s a16 a6 c16 c6 w17 HM17.out HS17.out)
  have SAME2:=hid (show ∀ w',RowKit.Below w17.heap.size w17 w'→Calls Tryz.prog 34 #[stV st a16 c16,stV nx a8 c8] w' (fun e w''=>e=.returned (.bool true)∧RowKit.Below w'.heap.size w' w'') from fun w' b=>by
   have h:=HM17.out.below b
   rw [hst] at h ⊢
   exact samestate_true nx a16 a8 c16 c8 w' h (HN17.out.below b))
  clear hst
  go_wp2_with fail
  refine SOME.out.mono ?_
  rintro e w18 ⟨⟨qq,rfl⟩,b18⟩
  have BZ:=hid (show RowKit.Below w.heap.size w w18 from BW.out.trans (b18.mono BW.out.size))
  have N18:=hid ((b18.block NB (Array.getElem?_eq_some_iff.1 N17.out).1).trans N17.out)
  have M18:=hid ((b18.block MB (Array.getElem?_eq_some_iff.1 M17.out).1).trans M17.out)
  have SM:=hid (SAME2.out w18 b18)
  clear b18 v0 v1 v2 v3 v4 m0 m1 m2 m3 m4
  cases qq
  case true =>
   go_wp2
   go_ret
   exact ⟨rfl,BZ.out⟩
  obtain ⟨⟨v0,v1,v2,v3,v4⟩,-⟩:=cells5 N18.out
  obtain ⟨⟨m0,m1,m2,m3,m4⟩,-⟩:=cells5 M18.out
  go_wp2_with fail
  refine SM.out.mono ?_
  rintro e w19 ⟨rfl,b19⟩
  have BE:=hid (show RowKit.Below w.heap.size w w19 from BZ.out.trans (b19.mono BZ.out.size))
  clear b19 v0 v1 v2 v3 v4 m0 m1 m2 m3 m4
  go_wp2
  go_ret
  exact ⟨rfl,BE.out⟩
end Go.Proofs.YtajegiifabfcjaaGreatDoor
