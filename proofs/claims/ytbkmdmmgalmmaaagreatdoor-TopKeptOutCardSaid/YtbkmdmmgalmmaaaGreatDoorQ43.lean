/-
  TgO1, TgP1, TgP2, TgEq, Laid
-/
import Derived.Test.YtbkmdmmgalmmaaaGreatDoorQ30
import Derived.Test.YtbkmdmmgalmmaaaGreatDoorQ34
import Derived.Test.YtbkmdmmgalmmaaaGreatDoorQ42
import Derived.Test.YtbkmdmmgalmmaaaGreatDoorQ05
import Derived.Test.YtbkmdmmgalmmaaaGreatDoorQ07
import Derived.Test.YtbkmdmmgalmmaaaGreatDoorQ31
import Derived.Test.YtbkmdmmgalmmaaaGreatDoorQ12
import Derived.Test.YtbkmdmmgalmmaaaGreatDoorTie
import Derived.Handed
import Derived.Lib.LaidTab
import Derived.Stop.LaidErr
import Derived.Shelf.Vars
import Derived.LaidLaws
namespace Go.Proofs.YtbkmdmmgalmmaaaGreatDoor
open Go.RowKit Go.Sort
theorem KI.base {n:Nat} {v w wx:World} {X:Nat→Prop} {D K:Nat} {k:Kp} (h:KI n w X D K k wx) (b:Below v.heap.size v w):KI n v X D K k wx:=by
 obtain ⟨S,a,cap,kr,lo,kb,bl,hx,ax⟩:=h
 exact ⟨S,a,cap,kr,fun c e=>Nat.le_trans b.size (lo c e),Nat.le_trans b.size kb,b.trans (bl.mono b.size),hx,ax⟩
theorem TgR.base {v w0 w:World} {n D T:Nat} {t:Tg} {Y:Nat→Prop} (h:TgR w0 n D T t Y w) (b:Below v.heap.size v w0):TgR v n D T t Y w:=by
 obtain ⟨X,m,ki,tb,lo,hy⟩:=h
 exact ⟨X,m,ki.base b,⟨tb.blk,tb.ok,tb.xt,tb.xw,tb.xn,tb.wn,tb.box,tb.wait,tb.wl,tb.have',tb.apart,OwnM.mono (B:=w0.heap.size) tb.fly b.size,tb.xf,tb.done⟩,fun c e=>Nat.le_trans b.size (lo c e),hy⟩
def tg0 (d:Dk):Tg:=Tg.start ⟨d,3,2,sNone⟩ (Gp.start.fence 2)
theorem qi_start:QI Gp.start 1:=⟨startTo_ok 3 (by omega),⟨0,1,by omega,by omega,rfl,rfl⟩,fun i hi=>by
 rcases (by omega:i=0∨i=1∨i=2) with rfl | rfl | rfl <;> exact Int.le_refl 1⟩
theorem start_mem:2≤(Gp.start.mem 1).length:=by decide +kernel
theorem zero_fa:Fa (·=Cel.zero):=⟨rfl,fun _ _ hx hy _ _=>hx.trans hy.symm⟩
theorem start_ti {d:Dk} (hk:KD 10 d 1 1 sNone) (hf:d.fuse=-1):TI 10 (·=Cel.zero) 1 (Tg.start ⟨d,1,1,sNone⟩ Gp.start) :=
 ⟨hk,hf,by show (1:Int)≤1; omega,by show (1:Int)≤1; omega,qi_start,Bl.zero_ok,⟨by show (0:Int)≤0; omega,by show (0:Int)≤1; omega⟩,⟨by show (0:Int)≤0; omega,by show (0:Int)≤1; omega⟩,by simp [Tg.start],(fun m hm=>by cases hm),by simp [Tg.start],(fun m hm=>by cases hm),List.Pairwise.nil,(fun m hm=>by cases hm),zero_fa,AllC.start rfl,fun x hx=>.inl (by subst hx; show (0:Int)<1; omega)⟩
theorem new_start {d:Dk} (hk:KD 10 d 1 1 sNone) (hf:d.fuse=-1) (sz:Sz d):(Tg.new 10 ⟨d,1,1,sNone⟩ Gp.start).2=0∧∃ d',(Tg.new 10 ⟨d,1,1,sNone⟩ Gp.start).1=tg0 d'∧TJ 10 (·=Cel.zero) 3 (tg0 d'):=by
 have h:=start_ti hk hf
 obtain ⟨e1,d',e2,e3,e4⟩:=(new_live h (by omega)).1 start_mem (by show ¬ (1:Int)=1000000; omega)
 have e5:(Tg.new 10 ⟨d,1,1,sNone⟩ Gp.start).1=tg0 d':=e2
 have hs:Sz (Tg.new 10 ⟨d,1,1,sNone⟩ Gp.start).1.k.d:=sz_next (t:=Tg.start ⟨d,1,1,sNone⟩ Gp.start) sz sNone
 rw [e5] at hs
 exact ⟨e1,d',e5,h.new start_mem e3 e4,hs⟩
def OpenedPost (w:World) (e:Ending) (w':World):Prop :=
 ∃ D T d,e=.returned (.tuple #[.pointer (some ⟨D,0,none⟩),.pointer (some ⟨T,0,none⟩),.bool true])∧TgR w 10 D T (tg0 d) (fun _=>False) w'∧TJ 10 (·=Cel.zero) 3 (tg0 d)
set_option maxRecDepth 100000 in
set_option maxHeartbeats 4000000 in
theorem opened_any (w:World) (t:Tabs w):Calls Tryz.prog 19 #[] w fun e w'=>OpenedPost w e w':=by
 have TT:=Lib.hid t
 have NEW:=Lib.hid (dnew_any 10 w (by omega))
 clear t
 go_enter Tryz.func19,Tryz.ntmps19
 go_wp2_with fail
 refine NEW.out.mono ?_
 rintro e w1 ⟨D,rfl,dk,b1⟩
 have FMT:=Lib.hid (format_any (made w w1) w1 D 10 (Dk.new 10) dk ⟨rfl,rfl⟩ (Dk.new_ok (by omega)) (Sz.new 10) (by omega) (by show (0:Nat)≤800; omega) (fun b e=>e.2) (Nat.le_trans TT.out.low b1.size)
  (fun w' kp=>TT.out.on (b1.trans (kp.below b1.size (fun k e=>e.1)))))
 have HB1:=Lib.hid b1
 clear dk b1 NEW
 go_wp2_with fail
 refine FMT.out.mono ?_
 rintro e w2 ⟨rfl,d,S,dk,kd,lv,sz,sub,lt,kp⟩
 have B2:=Lib.hid (show Below w.heap.size w w2 from HB1.out.trans (kp.below HB1.out.size (fun k e=>e.1)))
 have LO:=Lib.hid (show ∀ b,S b→w.heap.size≤b from fun b e=>by
  rcases sub b e with e | e
  ·exact e.1
  ·exact Nat.le_trans HB1.out.size e.1)
 have DK:=Lib.hid dk
 have LT:=Lib.hid lt
 have NS:=Lib.hid (new_start kd lv.1 sz)
 have TN:=Lib.hid (show ∀ w',Below w2.heap.size w2 w'→Calls Tryz.prog 45 #[.pointer (some ⟨D,0,none⟩),.agg Gp.start.arr] w' fun e w''=>NewPost w w' 10 D (fun _=>False) (Tg.new 10 ⟨d,1,1,sNone⟩ Gp.start) e w'' from fun w' b =>
  (tnew_any w w' 10 D d (fun _=>False) 1 1 sNone Gp.start ⟨S,DK.out.below b,fun c e=>Nat.lt_of_lt_of_le (LT.out c e) b.size,LO.out,B2.out.trans (b.mono B2.out.size),fun c e=>e.elim⟩ kd sz qi_start.ok (by omega) TT.out (fun c e=>e.elim)).mono fun e w'' h=>h.1)
 have GN:=Lib.hid (gnew_any w2)
 obtain ⟨G,hG⟩:∃ G,Gp.start.arr=G:=⟨_,rfl⟩
 rw [hG] at TN GN
 clear dk kd lv sz sub lt kp FMT hG
 go_wp2_with fail
 refine GN.out.mono ?_
 rintro e w3 ⟨rfl,b3⟩
 have TN3:=Lib.hid (TN.out w3 b3)
 clear b3 GN TN
 go_wp2_with fail
 refine TN3.out.mono ?_
 intro e w4 hp
 obtain ⟨T,rfl,h4,-,-⟩:=hp.1 NS.out.1
 obtain ⟨-,d',e1,tj⟩:=NS.out
 rw [e1] at h4
 have P:=Lib.hid h4
 have J:=Lib.hid tj
 clear hp h4 e1 tj TN3
 go_wp2
 exact bodyPost_ret (v:=.tuple #[.pointer (some ⟨D,0,none⟩),.pointer (some ⟨T,0,none⟩),.bool true]) (by simp [results,Tryz.results19,go_sem]) rfl ⟨D,T,d',rfl,P.out,J.out⟩
def cHay:Cmd:=⟨8,1,0,0,0,3,false,⟨#[104,97,121]⟩,⟨#[]⟩⟩
def cRead:Cmd:=⟨7,2,0,0,0,3,false,⟨#[]⟩,⟨#[]⟩⟩
def wk1 (d:Dk):Tg:=((tg0 d).ask 10 cHay).1
def wk2 (d:Dk):Tg:=((wk1 d).deliver 0 false).1
def wk3 (d:Dk):Tg:=((wk2 d).deliver 0 false).1
theorem works_law (d:Dk):((tg0 d).ask 10 cHay).2=⟨⟨#[]⟩,1,0,0⟩∧((wk1 d).deliver 0 false).2=(true,0)∧((wk2 d).deliver 0 false).2=(true,0)∧((wk3 d).ask 10 cRead).2=⟨⟨#[104,97,121]⟩,0,0,0⟩:=by
 refine ⟨?_,?_,?_,?_⟩ <;> kernel_rfl
theorem TI.tgd {n:Nat} {S:Cel→Prop} {B:Int} {t:Tg} (h:TI n S B t):TgD t:=⟨by have:=h.fl; omega,fun m hm=>by have:=h.msg m hm; omega,h.ws⟩
end Go.Proofs.YtbkmdmmgalmmaaaGreatDoor

namespace Go.Proofs.YtbkmdmmgalmmaaaGreatDoor
open Go.RowKit Go.Sort
theorem kd_ask (kd:ByteArray):(kd.toList == [97,115,107])=decide (kd=sAsk):=by rw [← ba_beq,show sAsk.toList=[97,115,107] from by rw [ByteArray.toList_eq]; rfl]
theorem kd_deliver (kd:ByteArray):(kd.toList == [100,101,108,105,118,101,114])=decide (kd=sDeliver):=by rw [← ba_beq,show sDeliver.toList=[100,101,108,105,118,101,114] from by rw [ByteArray.toList_eq]; rfl]
theorem kd_lose (kd:ByteArray):(kd.toList == [108,111,115,101])=decide (kd=sLose):=by rw [← ba_beq,show sLose.toList=[108,111,115,101] from by rw [ByteArray.toList_eq]; rfl]
theorem kd_power (kd:ByteArray):(kd.toList == [112,111,119,101,114])=decide (kd=sPower):=by rw [← ba_beq,show sPower.toList=[112,111,119,101,114] from by rw [ByteArray.toList_eq]; rfl]
structure Ac.Fresh (x:Ac):Prop where
 k1:x.kind≠sAsk
 k2:x.kind≠sDeliver
 k3:x.kind≠sLose
 k4:x.kind≠sUp
 k5:x.kind≠sDown
 k6:x.kind≠sSync
 k7:x.kind≠sPower
def PlayPost (w0 w:World) (D T:Nat) (t:Tg) (Y:Nat→Prop) (x:Ac) (e:Ending) (w':World):Prop :=
 ∃ T',e=.returned (.pointer (some ⟨T',0,none⟩))∧TgR w0 10 D T' (t.play 10 x) Y w'∧Same Y w w'∧((T'=T∧(¬ x.Fresh∨(Tg.new 10 t.k t.g).2≠0))∨(w.heap.size≤T'∧x.Fresh∧(Tg.new 10 t.k t.g).2=0))
section
variable (w0 w:World) (D T:Nat) (t:Tg) (Y:Nat→Prop) (S:Cel→Prop) (B:Int)
set_option maxRecDepth 100000 in
set_option maxHeartbeats 20000000 in
theorem play_any (x:Ac) (h:TgR w0 10 D T t Y w) (hj:TJ 10 S B t) (hB:B+2<1000000000000000) (hx:x.cm.data.size≤9223372036854775807∧x.cm.want.size≤9223372036854775807) (tt:Tabs w0) :
  Calls Tryz.prog 21 #[.pointer (some ⟨D,0,none⟩),.pointer (some ⟨T,0,none⟩),.agg x.cells.toArray] w fun e w'=>PlayPost w0 w D T t Y x e w':=by
 have HJ:=Lib.hid hj
 have HBB:=Lib.hid hB
 have HX:=Lib.hid hx
 have TT:=Lib.hid tt
 obtain ⟨w1,hw1⟩:∃ w1,w1=w.alloc (.cells x.cells.toArray 68):=⟨_,rfl⟩
 have B1:=Lib.hid (show RowKit.Below w.heap.size w w1 from hw1▸bal w _)
 have R1:=Lib.hid (show w1.heap[w.heap.size]?=some (.cells x.cells.toArray 68 (0,0)) from hw1▸heap_alloc_new w _)
 have SY1:=Lib.hid (show Same Y w w1 from fun b hb=>B1.out.block b (h.lt_y b hb))
 have H1:=Lib.hid (show TgR w0 10 D T t Y w1 from h.over B1.out)
 have END:=Lib.hid (show ∀ u w',t.play 10 x=u→¬ x.Fresh→TgR w0 10 D T u Y w'→Same Y w1 w'→PlayPost w0 w D T t Y x (.returned (.pointer (some ⟨T,0,none⟩))) w' from fun u w' e hf hu hs =>
  ⟨T,rfl,e▸hu,SY1.out.trans hs,.inl ⟨rfl,.inl hf⟩⟩)
 have PL:=Lib.hid (show t.play 10 x=if x.kind=sAsk then (t.ask 10 x.cm).1 else if x.kind=sDeliver then (t.deliver x.a (decide (x.b=1))).1 else if x.kind=sLose then (t.lose x.a).1
  else if x.kind=sUp∨x.kind=sDown then (t.up x.a (decide (x.kind=sUp))).1 else if x.kind=sSync then (t.sync x.a).1 else if x.kind=sPower then (t.power 10).1 else t.anew 10 from rfl)
 have ASK:=Lib.hid (task_any w0 w1 10 D T t Y S B x.cm H1.out hj hB hx tt)
 clear h hj hB hx tt
 obtain ⟨⟨c0,c1,c2,-,-⟩,-,d0,d1,d2,d3,d4,d5,d6,d7,d8⟩:=act_cells (o:=0) (range_of R1.out)
 simp only [Nat.zero_add] at c0 c1 c2 d0 d1 d2 d3 d4 d5 d6 d7 d8
 unfold Ac.cells at hw1 ⊢
 go_enter Tryz.func21,Tryz.ntmps21
 go_upto_region 1 with fail
 rw [← hw1]
 clear hw1
 by_cases k1:x.kind=sAsk
 ·have q1:(x.kind.toList == [97,115,107])=true:=by rw [kd_ask,decide_eq_true k1]
  have E:=Lib.hid (PL.out.trans (if_pos k1))
  have NF:=Lib.hid (show ¬ x.Fresh from fun f=>f.k1 k1)
  clear k1
  go_wp2_with fail
  refine ASK.out.mono ?_
  rintro e w2 ⟨rfl,h2,s2⟩
  have P:=Lib.hid (END.out _ w2 E.out NF.out h2 s2)
  clear h2 s2
  go_wp2
  go_ret
  exact P.out
 have q1:(x.kind.toList == [97,115,107])=false:=by rw [kd_ask,decide_eq_false k1]
 clear d0 d1 d2 d3 d4 d5 d6 d7 d8 ASK
 have PL2:=Lib.hid (PL.out.trans (if_neg k1))
 by_cases k2:x.kind=sDeliver
 ·have q2:(x.kind.toList == [100,101,108,105,118,101,114])=true:=by rw [kd_deliver,decide_eq_true k2]
  have E:=Lib.hid (PL2.out.trans (if_pos k2))
  have NF:=Lib.hid (show ¬ x.Fresh from fun f=>f.k2 k2)
  have DEL:=Lib.hid (tdeliver_any w0 w1 10 D T t Y x.a (decide (x.b=1)) H1.out HJ.out.ti.tgd)
  clear k1 k2 PL
  go_wp2_with fail
  refine DEL.out.mono ?_
  rintro e w2 ⟨rfl,h2,s2⟩
  have P:=Lib.hid (END.out _ w2 E.out NF.out h2 s2)
  clear h2 s2
  go_wp2
  go_ret
  exact P.out
 have q2:(x.kind.toList == [100,101,108,105,118,101,114])=false:=by rw [kd_deliver,decide_eq_false k2]
 have PL3:=Lib.hid (PL2.out.trans (if_neg k2))
 by_cases k3:x.kind=sLose
 ·have q3:(x.kind.toList == [108,111,115,101])=true:=by rw [kd_lose,decide_eq_true k3]
  have E:=Lib.hid (PL3.out.trans (if_pos k3))
  have NF:=Lib.hid (show ¬ x.Fresh from fun f=>f.k3 k3)
  have LOS:=Lib.hid (tlose_any w0 w1 10 D T t Y x.a H1.out (by have:=HJ.out.ti.fl; omega))
  clear k1 k2 k3 PL PL2
  go_wp2_with fail
  refine LOS.out.mono ?_
  rintro e w2 ⟨rfl,h2⟩
  have P:=Lib.hid (END.out _ w2 E.out NF.out h2.1 h2.2.1)
  clear h2
  go_wp2
  go_ret
  exact P.out
 have q3:(x.kind.toList == [108,111,115,101])=false:=by rw [kd_lose,decide_eq_false k3]
 have PL4:=Lib.hid (PL3.out.trans (if_neg k3))
 by_cases k4:x.kind=sUp
 ·have q4:(x.kind.toList == [117,112])=true:=by rw [kd_up,decide_eq_true k4]
  have E:=Lib.hid (show t.play 10 x=(t.up x.a true).1 from by rw [PL4.out,if_pos (.inl k4),decide_eq_true k4])
  have NF:=Lib.hid (show ¬ x.Fresh from fun f=>f.k4 k4)
  have UPP:=Lib.hid (up_any w0 w1 10 D T t Y x.a true H1.out)
  clear k1 k2 k3 k4 PL PL2 PL3
  go_wp2_with fail
  refine UPP.out.mono ?_
  rintro e w2 ⟨rfl,h2⟩
  have P:=Lib.hid (END.out _ w2 E.out NF.out h2.1 h2.2.1)
  clear h2
  go_wp2
  go_ret
  exact P.out
 have q4:(x.kind.toList == [117,112])=false:=by rw [kd_up,decide_eq_false k4]
 by_cases k5:x.kind=sDown
 ·have q5:(x.kind.toList == [100,111,119,110])=true:=by rw [kd_down,decide_eq_true k5]
  have E:=Lib.hid (show t.play 10 x=(t.up x.a false).1 from by rw [PL4.out,if_pos (.inr k5),decide_eq_false k4])
  have NF:=Lib.hid (show ¬ x.Fresh from fun f=>f.k5 k5)
  have UPP:=Lib.hid (up_any w0 w1 10 D T t Y x.a false H1.out)
  clear k1 k2 k3 k4 k5 PL PL2 PL3
  go_wp2_with fail
  refine UPP.out.mono ?_
  rintro e w2 ⟨rfl,h2⟩
  have P:=Lib.hid (END.out _ w2 E.out NF.out h2.1 h2.2.1)
  clear h2
  go_wp2
  go_ret
  exact P.out
 have q5:(x.kind.toList == [100,111,119,110])=false:=by rw [kd_down,decide_eq_false k5]
 have PL5:=Lib.hid (PL4.out.trans (if_neg (fun h=>h.elim k4 k5)))
 by_cases k6:x.kind=sSync
 ·have q6:(x.kind.toList == [115,121,110,99])=true:=by rw [kd_sync,decide_eq_true k6]
  have E:=Lib.hid (PL5.out.trans (if_pos k6))
  have NF:=Lib.hid (show ¬ x.Fresh from fun f=>f.k6 k6)
  have SYN:=Lib.hid (tsync_any w0 w1 10 D T t Y x.a H1.out)
  clear k1 k2 k3 k4 k5 k6 PL PL2 PL3 PL4
  go_wp2_with fail
  refine SYN.out.mono ?_
  rintro e w2 ⟨rfl,h2⟩
  have P:=Lib.hid (END.out _ w2 E.out NF.out h2.1 h2.2.1)
  clear h2
  go_wp2
  go_ret
  exact P.out
 have q6:(x.kind.toList == [115,121,110,99])=false:=by rw [kd_sync,decide_eq_false k6]
 have PL6:=Lib.hid (PL5.out.trans (if_neg k6))
 by_cases k7:x.kind=sPower
 ·have q7:(x.kind.toList == [112,111,119,101,114])=true:=by rw [kd_power,decide_eq_true k7]
  have E:=Lib.hid (PL6.out.trans (if_pos k7))
  have NF:=Lib.hid (show ¬ x.Fresh from fun f=>f.k7 k7)
  have POW:=Lib.hid (tpower_any w0 w1 10 D T t Y H1.out ⟨HJ.out.kg,HJ.out.ti.qi.ok,by have:=HJ.out.ti.kb; have:=HBB.out; omega⟩ TT.out)
  clear k1 k2 k3 k4 k5 k6 k7 PL PL2 PL3 PL4 PL5
  go_wp2_with fail
  refine POW.out.mono ?_
  rintro e w2 ⟨rfl,h2,s2⟩
  have P:=Lib.hid (END.out _ w2 E.out NF.out h2 s2)
  clear h2 s2
  go_wp2
  go_ret
  exact P.out
 have q7:(x.kind.toList == [112,111,119,101,114])=false:=by rw [kd_power,decide_eq_false k7]
 have E:=Lib.hid (show t.play 10 x=t.anew 10 from PL6.out.trans (if_neg k7))
 have FR:=Lib.hid (show x.Fresh from ⟨k1,k2,k3,k4,k5,k6,k7⟩)
 have GRP:=Lib.hid (tgroup_any w0 w1 10 D T t Y H1.out)
 have NEW:=Lib.hid (show ∀ w',RowKit.Below w1.heap.size w1 w'→Calls Tryz.prog 45 #[.pointer (some ⟨D,0,none⟩),.agg t.g.arr] w' fun e w''=>NewPost w0 w' 10 D Y (Tg.new 10 t.k t.g) e w''∧(((Tg.start t.k t.g).isReady=false∨t.k.ep=1000000)→RowKit.Below w'.heap.size w' w'') from fun w' b=>by
  obtain ⟨X,m,ki,tb,lo,hy⟩:=H1.out.over b
  exact tnew_any w0 w' 10 D t.k.d Y t.k.num t.k.ep t.k.s t.g (ki.dki (fun c hc=>(hy c hc).1)) HJ.out.ti.kd HJ.out.sz HJ.out.ti.qi.ok (by have:=HJ.out.ti.kb; have:=HBB.out; omega) TT.out (fun c hc=>lo c (hy c hc).1))
 obtain ⟨ga,hga⟩:∃ ga,t.g.arr=ga:=⟨_,rfl⟩
 rw [hga] at GRP NEW
 clear hga k1 k2 k3 k4 k5 k6 k7 PL PL2 PL3 PL4 PL5 PL6 END
 go_wp2_with fail
 refine GRP.out.mono ?_
 rintro e w2 ⟨rfl,b2⟩
 have B2:=Lib.hid b2
 have NEW2:=Lib.hid (NEW.out w2 b2)
 clear b2 GRP NEW
 go_wp2_with fail
 refine NEW2.out.mono ?_
 rintro e w3 ⟨hp,hlow⟩
 by_cases hz:(Tg.new 10 t.k t.g).2=0
 ·obtain ⟨T',rfl,h3,s3,ht⟩:=hp.1 hz
  have P:=Lib.hid (show PlayPost w0 w D T t Y x (.returned (.pointer (some ⟨T',0,none⟩))) w3 from ⟨T',rfl,by
    rw [E.out]
    unfold Tg.anew
    rw [if_pos hz]
    exact h3,SY1.out.trans (fun b hb=>(s3 b hb).trans (B2.out.block b (H1.out.lt_y b hb))),.inr ⟨Nat.le_trans B1.out.size (Nat.le_trans B2.out.size ht),FR.out,hz⟩⟩)
  clear hp hlow h3 s3 ht hz NEW2
  go_wp2
  go_ret
  exact P.out
 ·obtain rfl:=hp.2 hz
  have hnr:(Tg.start t.k t.g).isReady=false∨t.k.ep=1000000:=by
   obtain ⟨n1,-,-⟩:=new_live HJ.out.ti (by have:=HBB.out; omega)
   by_cases hm:2≤(t.g.mem t.k.ep).length
   ·by_cases he:t.k.ep=1000000
    ·exact .inr he
    ·exact absurd (n1 hm he).1 hz
   ·left
    have e1:(Tg.start t.k t.g).isReady=t.isReady:=rfl
    rw [e1,HJ.out.ti.isReady]
    exact decide_eq_false hm
  have P:=Lib.hid (show PlayPost w0 w D T t Y x (.returned (.pointer (some ⟨T,0,none⟩))) w3 from ⟨T,rfl,by
    rw [E.out]
    unfold Tg.anew
    rw [if_neg hz]
    exact (H1.out.over B2.out).over (hlow hnr),SY1.out.trans (fun b hb=>((hlow hnr).block b ((H1.out.over B2.out).lt_y b hb)).trans (B2.out.block b (H1.out.lt_y b hb))),.inl ⟨rfl,.inr hz⟩⟩)
  rw [errV_some hz]
  clear hp hlow hnr hz NEW2
  go_wp2
  go_ret
  exact P.out
end
end Go.Proofs.YtbkmdmmgalmmaaaGreatDoor

namespace Go.Proofs.YtbkmdmmgalmmaaaGreatDoor
open Go.RowKit Go.Sort
section
set_option maxRecDepth 100000 in
set_option maxHeartbeats 8000000 in
theorem works_any (w:World) (tt:Tabs w):Calls Tryz.prog 5 #[] w fun e w'=>e=.returned (.bool true)∧Below w.heap.size w w':=by
 have TT:=Lib.hid tt
 have OP:=Lib.hid (opened_any w tt)
 clear tt
 go_enter Tryz.func5,Tryz.ntmps5
 go_wp2_with fail
 refine OP.out.mono ?_
 rintro e w1 ⟨D,T,d,rfl,h1,j1⟩
 obtain ⟨l1,l2,l3,l4⟩:=works_law d
 obtain ⟨S2,-,j2⟩:=j1.ask (by omega) cHay
 have j3:=j2.deliver 0 false
 have j4:=j3.deliver 0 false
 have A1:=Lib.hid (task_any w w1 10 D T (tg0 d) (fun _=>False) _ _ cHay h1 j1 (by omega) (by decide) TT.out)
 have A2:=Lib.hid (fun w' h=>tdeliver_any w w' 10 D T (wk1 d) (fun _=>False) 0 false h j2.ti.tgd)
 have A3:=Lib.hid (fun w' h=>tdeliver_any w w' 10 D T (wk2 d) (fun _=>False) 0 false h j3.ti.tgd)
 have A4:=Lib.hid (fun w' h=>task_any w w' 10 D T (wk3 d) (fun _=>False) _ _ cRead h j4 (by omega) (by decide) TT.out)
 rw [l1] at A1
 rw [l2] at A2
 rw [l3] at A3
 rw [l4] at A4
 clear h1 j1 j2 j3 j4 l1 l2 l3 l4 OP
 go_wp2_with fail
 refine A1.out.mono ?_
 rintro e w2 ⟨rfl,h2,-⟩
 have A22:=Lib.hid (A2.out w2 h2)
 clear h2 A1 A2
 rw [errV_nil]
 go_wp2_with fail
 refine A22.out.mono ?_
 rintro e w3 ⟨rfl,h3,-⟩
 have A33:=Lib.hid (A3.out w3 h3)
 clear h3 A22 A3
 rw [errV_nil]
 go_wp2_with fail
 refine A33.out.mono ?_
 rintro e w4 ⟨rfl,h4,-⟩
 have A44:=Lib.hid (A4.out w4 h4)
 clear h4 A33 A4
 rw [errV_nil]
 go_wp2_with fail
 refine A44.out.mono ?_
 rintro e w5 ⟨rfl,h5,-⟩
 have P:=Lib.hid h5.below
 clear h5 A44
 rw [errV_nil]
 go_wp2
 go_ret
 exact ⟨rfl,P.out⟩
def PlayedPost (w:World) (e:Ending) (w':World):Prop :=
 (e=.returned (.tuple #[.pointer none,.pointer none,.bool false])∧Below w.heap.size w w') ∨
 ∃ D T t S,e=.returned (.tuple #[.pointer (some ⟨D,0,none⟩),.pointer (some ⟨T,0,none⟩),.bool true])∧TgR w 10 D T t (fun _=>False) w'∧TJ 10 S 200 t
set_option maxRecDepth 100000 in
set_option maxHeartbeats 8000000 in
theorem played_any (l:List Ac) (a:Option Addr) (cap:Nat) (w:World) (hl:l.length≤maxLen) (hr:ActsAt w a l) (tt:Tabs w) :
  Calls Tryz.prog 6 #[.slice a l.length cap] w fun e w'=>PlayedPost w e w':=by
 have TT:=Lib.hid tt
 have HR:=Lib.hid hr
 have LA:=Lib.hid (lightacts_any l a cap 80 w hl hr)
 have OP:=Lib.hid (fun w' b=>opened_any w' (Tabs.on tt b))
 unfold maxLen at hl
 clear tt hr
 go_enter Tryz.func6,Tryz.ntmps6
 go_wp2_with fail
 refine LA.out.mono ?_
 rintro e w1 ⟨lb,rfl,hlb,b1⟩
 have B1:=Lib.hid b1
 cases lb
 ·clear LA OP hlb b1
  go_wp2
  exact bodyPost_ret (v:=.tuple #[.pointer none,.pointer none,.bool false]) (by simp [results,Tryz.results6,go_sem]) rfl (.inl ⟨rfl,B1.out⟩)
 have HL:=Lib.hid (hlb rfl).1
 have OP1:=Lib.hid (OP.out w1 b1)
 clear LA OP hlb b1
 go_wp2_with fail
 refine OP1.out.mono ?_
 rintro e w2 ⟨D,T,d,rfl,h2,j2⟩
 have H2:=Lib.hid h2
 have J2:=Lib.hid j2
 clear h2 j2 OP1
 go_wp2
 go_loopw [6,8] (fun v i wr=>∃ (k:Nat) (T:Nat) (t:Tg) (S:Cel→Prop),k≤l.length∧v=.pointer (some ⟨T,0,none⟩)∧i=.int .i64 k∧TgR w1 10 D T t (fun _=>False) wr∧TJ 10 S (3+2*(k:Int)) t) (fun _ i _=>l.length - (intOf i).toNat)
 case atStart=>exact ⟨0,T,tg0 d,_,by omega,rfl,rfl,H2.out,J2.out⟩
 case round =>
  obtain ⟨k,T,t,S,hk,rfl,rfl,hT,hJ⟩:=hrel
  have HT:=Lib.hid hT
  have HJ:=Lib.hid hJ
  clear hT hJ
  by_cases hlt:k<l.length
  ·obtain ⟨ok,b,o,rfl,hb,hrange⟩:=HR.out k hlt
   have bw:RowKit.Below w.heap.size w wr:=B1.out.trans (HT.out.below.mono B1.out.size)
   have hrg:wr.rangeAt b (o+k*19) l[k].cells:=fun j v hv=>(bw.cell (p:=⟨b,_,none⟩) hb).trans (hrange j v hv)
   have hci:=ok.ci
   unfold maxLen at hci
   obtain ⟨X,hX⟩:∃ X,l[k]=X:=⟨_,rfl⟩
   rw [hX] at hrg hci
   have HRG:=Lib.hid hrg
   have h80:=HL.out
   have PL:=Lib.hid (play_any w1 wr D T t (fun _=>False) S _ X HT.out HJ.out (by omega) hci (TT.out.on B1.out))
   obtain ⟨S',-,hj'⟩:=HJ.out.play (by omega) X
   have HJ':=Lib.hid (show TJ 10 S' (3+2*((k+1:Nat):Int)) (t.play 10 X) from hj'.mono (by omega))
   clear hrange hX hrg ok hci bw hj'
   go_wp2_with (first | ((with_reducible refine ld_mid1 rfl 68 _ rfl ?_); refine ⟨b,o+k*19,X.cells.toArray,_,rfl,HRG.out,act_row.1,rfl,act_row.2,?_⟩))
   refine PL.out.mono ?_
   rintro e w3 ⟨T',rfl,h3,-,-⟩
   have H3:=Lib.hid h3
   clear h3 PL
   go_wp2
   go_roundw
   case rel=>exact ⟨k+1,T',_,S',by omega,rfl,by go_num,H3.out,HJ'.out⟩
   case measure=>simp [intOf]; omega
  ·have h80:=HL.out
   have P:=Lib.hid (show TgR w 10 D T t (fun _=>False) wr from HT.out.base B1.out)
   have PJ:=Lib.hid (show TJ 10 S 200 t from HJ.out.mono (by omega))
   clear HT HJ
   go_wp2
   exact bodyPost_ret (v:=.tuple #[.pointer (some ⟨D,0,none⟩),.pointer (some ⟨T,0,none⟩),.bool true]) (by simp [results,Tryz.results6,go_sem]) rfl (.inr ⟨D,T,t,S,rfl,P.out,PJ.out⟩)
end
section
variable (w0 w:World) (D T:Nat) (t:Tg) (Y:Nat→Prop) (S:Cel→Prop) (B:Int)
set_option maxRecDepth 100000 in
set_option maxHeartbeats 8000000 in
theorem tpask_any (c:Cmd) (h:TgR w0 10 D T t Y w) (hj:TJ 10 S B t) (hB:B+20<1000000000000000) (hs:c.data.size≤9223372036854775807∧c.want.size≤9223372036854775807) (tt:Tabs w0) :
  Calls Tryz.prog 15 #[.pointer (some ⟨T,0,none⟩),cmdV c] w fun e w'=>e=.returned (.tuple #[.string (t.askN 10 c 6).2.1,.int .i64 (t.askN 10 c 6).2.2.1,errV (t.askN 10 c 6).2.2.2])∧TgR w0 10 D T (t.askN 10 c 6).1 Y w'∧Same Y w w':=by
 have HS:=Lib.hid hs
 have TT:=Lib.hid tt
 have HH:=Lib.hid h
 have HJ:=Lib.hid hj
 obtain ⟨w1,hw1⟩:∃ w1,w1=w.alloc (.cells #[.int .i64 c.op,.int .i64 c.who,.int .i64 c.key,.int .i64 c.new,.int .i64 c.typ,.int .i64 c.at',.bool c.stays,.string c.data,.string c.want] 24):=⟨_,rfl⟩
 have B1:=Lib.hid (show RowKit.Below w.heap.size w w1 from hw1▸bal w _)
 have R1:=Lib.hid (show w1.heap[w.heap.size]?=some (.cells #[.int .i64 c.op,.int .i64 c.who,.int .i64 c.key,.int .i64 c.new,.int .i64 c.typ,.int .i64 c.at',.bool c.stays,.string c.data,.string c.want] 24 (0,0)) from hw1▸heap_alloc_new w _)
 have HA:=(Array.getElem?_eq_some_iff.1 R1.out).1
 have SY1:=Lib.hid (show Same Y w w1 from fun b hb=>B1.out.block b (h.lt_y b hb))
 obtain ⟨Z,hZ⟩:∃ Z:Nat→Prop,Z=fun c=>Y c∨(w.heap.size≤c∧c<w1.heap.size):=⟨_,rfl⟩
 have H1:=Lib.hid (show TgR w0 10 D T t Z w1 from hZ▸h.more B1.out)
 have ZY:=Lib.hid (show ∀ b,Y b→Z b from fun b hb=>hZ▸Or.inl hb)
 have ZA:=Lib.hid (show Z w.heap.size from hZ▸Or.inr ⟨Nat.le_refl _,HA⟩)
 obtain ⟨R,hR⟩:∃ R,t.askN 10 c 6=R:=⟨_,rfl⟩
 have HR:=Lib.hid hR
 rw [hR]
 clear h hj hs tt hZ hR
 go_enter Tryz.func15,Tryz.ntmps15
 go_upto_region 1 with fail
 rw [← hw1]
 clear hw1
 obtain ⟨A,hA⟩:∃ A,w.heap.size=A:=⟨_,rfl⟩
 rw [hA] at R1 ZA ⊢
 clear hA HA
 go_wp2
 go_loopw [7] (fun i wr=>∃ (k:Nat) (u:Tg) (S:Cel→Prop),k≤6∧i=.int .i64 k∧R=u.askN 10 c (6 - k)∧TgR w0 10 D T u Z wr∧TJ 10 S (B+2*(k:Int)) u∧Same Z w1 wr) (fun i _=>6 - (intOf i).toNat)
 case atStart=>exact ⟨0,t,S,by omega,rfl,HR.out.symm,H1.out,by simpa using HJ.out,fun _ _=>rfl⟩
 case round =>
  obtain ⟨k,u,S,hk,rfl,hR,hT,hJ,hS⟩:=hrel
  have HR2:=Lib.hid hR
  have HT:=Lib.hid hT
  have HJ2:=Lib.hid hJ
  have HSM:=Lib.hid hS
  clear hR hT hJ hS
  have R3:=Lib.hid ((HSM.out A ZA.out).trans R1.out)
  by_cases hlt:k<6
  ·obtain ⟨q0,q1,q2,q3,q4,q5,q6,q7,q8⟩:=cells9 R3.out
   have AK:=Lib.hid (task_any w0 wr 10 D T u Z S _ c HT.out HJ2.out (by omega) HS.out TT.out)
   have ST:=Lib.hid (show R=if (u.ask 10 c).2.what=0 then ((u.ask 10 c).1,(u.ask 10 c).2.data,(u.ask 10 c).2.tag,(u.ask 10 c).2.err) else (u.ask 10 c).1.askN 10 c (6 - (k+1)) from by
    rw [HR2.out,show 6 - k=(6 - (k+1))+1 by omega]
    rfl)
   obtain ⟨S',-,hj'⟩:=HJ2.out.ask (by omega) c
   have HJ':=Lib.hid (show TJ 10 S' (B+2*((k+1:Nat):Int)) (u.ask 10 c).1 from hj'.mono (by omega))
   obtain ⟨r,hr⟩:∃ r,u.ask 10 c=r:=⟨_,rfl⟩
   rw [hr] at AK ST HJ'
   clear hr hj'
   go_wp2_with fail
   refine AK.out.mono ?_
   rintro e w3 ⟨rfl,h3,s3⟩
   have H3:=Lib.hid h3
   have S3:=Lib.hid (HSM.out.trans s3)
   clear h3 s3 AK q0 q1 q2 q3 q4 q5 q6 q7 q8
   by_cases hw:r.2.what=0
   ·have E:=Lib.hid (ST.out.trans (if_pos hw))
    go_wp2
    exact bodyPost_ret (v:=.tuple #[.string r.2.data,.int .i64 r.2.tag,errV r.2.err]) (by simp [results,Tryz.results15,go_sem]) rfl (by rw [E.out]; exact ⟨rfl,H3.out.less ZY.out,SY1.out.trans (fun b hb=>S3.out b (ZY.out b hb))⟩)
   ·have E:=Lib.hid (ST.out.trans (if_neg hw))
    go_wp2
    go_roundw
    case rel=>exact ⟨k+1,r.1,S',by omega,by go_num,E.out,H3.out,HJ'.out,S3.out⟩
    case measure=>simp [intOf]; omega
  ·have hk6:k=6:=by omega
   subst hk6
   have E:=Lib.hid (show R=(u,⟨#[]⟩,0,7) from HR2.out)
   go_wp2
   exact bodyPost_ret (v:=.tuple #[.string ⟨#[]⟩,.int .i64 0,.iface 69 (.int .i64 7)]) (by simp [results,Tryz.results15,go_sem]) rfl (by rw [E.out]; exact ⟨rfl,HT.out.less ZY.out,SY1.out.trans (fun b hb=>HSM.out b (ZY.out b hb))⟩)
end
end Go.Proofs.YtbkmdmmgalmmaaaGreatDoor

namespace Go.Proofs.YtbkmdmmgalmmaaaGreatDoor
open Go.RowKit Go.Sort
theorem yieldsIf_bin {P:Program} {ops:Array Oper} {S:World→Prop} {op:Oper} {a:Act} (hw:Region.wanted op (yielded ops a.tmps)=true) (bo:BinOp) (t u:TypeId) (x y:Operand) (ho:op.op=.binOp bo t x y u) (xs ys:Array Value)
  (hx:a.eval x=.agg xs) (hy:a.eval y=.agg ys) (hm:P.eqGuardType P.depth t=false) (v:Value) (hb:∀ w,(binOp bo t (.agg xs) (.agg ys)).run P w=.ok v w):YieldsIf P ops S op v a:=by
 refine .inl ⟨hw,fun w _=>?_⟩
 unfold execOp
 simp only [ho,hx,hy,Sem.run_bind,Sem.run_pure,Result.andThen_ok,run_eqGuard_agg _ bo t x y xs ys hm,hb]
theorem rs_row:Tryz.prog.underlying 42=some (.array 3 41)∧(Tryz.prog.info? 42).map (·.size)=some 75:=by constructor <;> kernel_rfl
theorem us_row:Tryz.prog.underlying 43=some (.array 3 4)∧(Tryz.prog.info? 43).map (·.size)=some 3∧(Tryz.prog.info? 4).map (·.size)=some 1∧Tryz.prog.plainKey 4=true∧Tryz.prog.underlying 4=some .bool:=by refine ⟨?_,?_,?_,?_,?_⟩ <;> kernel_rfl
theorem gp_fields : Tryz.prog.stoodInHeld 45 = false ∧ ((Tryz.prog.fieldsOf 45).toList.map fun f => (f.name, f.type, f.offset)) = [("R", 42, 0), ("Up", 43, 75)] := by constructor <;> kernel_rfl
theorem flatR_extract {l:List Rp} (h8:∀ r∈l,r.cells.length=8) {i:Nat} (h:i<l.length):(flatR l).toArray.extract (i*25) (i*25+25)=l[i].arr:=by
 have hz:=Rp.size (h8 _ (List.getElem_mem h))
 have hl:=flatR_length l h8
 apply Array.ext
 ·simp; omega
 ·intro j h1 h2
  have hj:j<25:=by omega
  have:=flatR_at l h8 i h j hj
  rw [Array.getElem_extract,List.getElem_toArray,← Option.some.injEq,← List.getElem?_eq_getElem,this,Array.getElem?_eq_getElem h2]
theorem list3_eq {α:Type} [DecidableEq α] {l m:List α} (hl:l.length=3) (hm:m.length=3):((List.range 3).all fun i=>decide (l[i]?=m[i]?))=decide (l=m):=by
 rw [Bool.eq_iff_iff,List.all_eq_true,decide_eq_true_eq]
 constructor
 ·intro h
  apply List.ext_getElem?
  intro i
  by_cases hi:i<3
  ·simpa using h i (List.mem_range.2 hi)
  ·rw [List.getElem?_eq_none (by omega),List.getElem?_eq_none (by omega)]
 ·rintro rfl i _; simp
instance:DecidableEq Rp:=fun a b=>decidable_of_iff (a.floor=b.floor∧a.cells=b.cells) ⟨Rp.ext',fun h=>by rw [h]; exact ⟨rfl,rfl⟩⟩
theorem eqRp_dec (a b:Rp):eqRp a b=decide (a=b):=by
 unfold eqRp
 rw [Bool.eq_iff_iff,decide_eq_true_eq,decide_eq_true_eq]
 exact ⟨Rp.ext',fun h=>by rw [h]; exact ⟨rfl,rfl⟩⟩
theorem eq_rs (d:Nat) (l m:List Rp) (hl:l.length=3) (hm:m.length=3) (cl:∀ r∈l,r.cells.length=8) (cm:∀ r∈m,r.cells.length=8) (w:World) :
  (Op.equalIn (d+5) 42 (.agg (flatR l).toArray) (.agg (flatR m).toArray)).run Tryz.prog w=.ok (decide (l=m)) w:=by
 rw [← list3_eq hl hm]
 refine eq_array (d+4) 42 41 3 25 _ _ w rs_row.1 rp_row.2.1 (fun i=>if h:i<l.length then .agg l[i].arr else undef) (fun i=>if h:i<m.length then .agg m[i].arr else undef) _ ?_
 intro i hi
 have h1:i<l.length:=by omega
 have h2:i<m.length:=by omega
 rw [part_agg w rp_row.1 rfl rp_row.2.1,part_agg w rp_row.1 rfl rp_row.2.1,flatR_extract cl h1,flatR_extract cm h2]
 simp only [dif_pos h1,dif_pos h2]
 refine ⟨trivial,trivial,?_⟩
 rw [eq_rp d l[i] m[i] (cl _ (List.getElem_mem h1)) (cm _ (List.getElem_mem h2)) w,eqRp_dec]
 refine congrArg (fun b=>Result.ok b w) ?_
 rw [List.getElem?_eq_getElem h1,List.getElem?_eq_getElem h2]
 simp
theorem eq_us (d:Nat) (l m:List Bool) (hl:l.length=3) (hm:m.length=3) (w:World) :
  (Op.equalIn (d+2) 43 (.agg (l.map Value.bool).toArray) (.agg (m.map Value.bool).toArray)).run Tryz.prog w=.ok (decide (l=m)) w:=by
 rw [← list3_eq hl hm]
 refine eq_array (d+1) 43 4 3 1 _ _ w us_row.1 us_row.2.2.1 (fun i=>.bool (l.getD i false)) (fun i=>.bool (m.getD i false)) _ ?_
 intro i hi
 have h1:i<l.length:=by omega
 have h2:i<m.length:=by omega
 refine ⟨run_part_plain w us_row.2.2.2.1 (by simp [h1]),run_part_plain w us_row.2.2.2.1 (by simp [h2]),?_⟩
 rw [run_equalIn_bool w d _ _ _ us_row.2.2.2.2]
 refine congrArg (fun b=>Result.ok b w) ?_
 simp [List.getD_eq_getElem?_getD,h1,h2]
 cases l[i] <;> cases m[i] <;> rfl
theorem Gp.ext2 {g h:Gp} (e:g.r=h.r∧g.u=h.u):g=h:=by cases g; cases h; simp_all
instance:DecidableEq Gp:=fun a b=>decidable_of_iff (a.r=b.r∧a.u=b.u) ⟨Gp.ext2,fun h=>by rw [h]; exact ⟨rfl,rfl⟩⟩
theorem eq_gp (d:Nat) {g h:Gp} (hg:g.ok) (hh:h.ok) (w:World):(Op.equalIn (d+6) 45 (.agg g.arr) (.agg h.arr)).run Tryz.prog w=.ok (decide (g=h)) w:=by
 have x1:∀ {g:Gp},g.ok→g.arr.extract 0 (0+75)=(flatR g.r).toArray:=by
  intro g hg
  have hl:=flatR_length g.r hg.c8
  apply Array.toList_inj.1
  unfold Gp.arr
  simp only [Array.toList_extract,List.extract_eq_take_drop,List.drop_zero,Nat.zero_add,Nat.sub_zero]
  rw [List.take_append_of_le_length (by have:=hg.r3; omega),List.take_of_length_le (by have:=hg.r3; omega)]
 have x2:∀ {g:Gp},g.ok→g.arr.extract 75 (75+3)=(g.u.map Value.bool).toArray:=by
  intro g hg
  have hl:=flatR_length g.r hg.c8
  have h3:=hg.r3
  have h4:=hg.u3
  apply Array.toList_inj.1
  unfold Gp.arr
  simp only [Array.toList_extract,List.extract_eq_take_drop]
  rw [List.drop_append_of_le_length (by omega),List.drop_of_length_le (by omega),List.nil_append,List.take_of_length_le (by simp; omega)]
 have:=eq_struct (d+5) 45 g.arr h.arr w gp_row.1 gp_fields.1 _ gp_fields.2 (fun o=>if o=0 then decide (g.r=h.r) else decide (g.u=h.u)) ?_
 ·rw [this]
  refine congrArg (fun b=>Result.ok b w) ?_
  rw [Bool.eq_iff_iff,decide_eq_true_eq]
  simp
  exact ⟨Gp.ext2,fun h=>by rw [h]; exact ⟨rfl,rfl⟩⟩
 ·intro s hs
  simp only [List.mem_cons,List.mem_nil_iff,or_false] at hs
  rcases hs with rfl | rfl
  ·refine ⟨by decide,_,_,part_agg w rs_row.1 rfl rs_row.2,part_agg w rs_row.1 rfl rs_row.2,?_⟩
   rw [x1 hg,x1 hh]
   exact eq_rs d g.r h.r hg.r3 hh.r3 hg.c8 hh.c8 w
  ·refine ⟨by decide,_,_,part_agg w us_row.1 rfl us_row.2.1,part_agg w us_row.1 rfl us_row.2.1,?_⟩
   rw [x2 hg,x2 hh]
   exact eq_us (d+3) g.u h.u hg.u3 hh.u3 w
theorem eql_gp {g h:Gp} (hg:g.ok) (hh:h.ok) (w:World):(binOp .eql 45 (.agg g.arr) (.agg h.arr)).run Tryz.prog w=.ok (.bool (decide (g=h))) w:=by
 rw [run_eql_struct,eq_gp 9994 hg hh]; rfl
theorem eqg_gp:Tryz.prog.eqGuardType Tryz.prog.depth 45=false:=by kernel_rfl
theorem ms_fields:Tryz.prog.underlying 87=some (.struct (Tryz.prog.fieldsOf 87))∧Tryz.prog.stoodInHeld 87=false ∧
  ((Tryz.prog.fieldsOf 87).toList.map fun f => (f.name, f.type, f.offset)) = [("To", 3, 0), ("At", 3, 1), ("Cell", 38, 2), ("Tag", 3, 5)] := by
 refine ⟨?_,?_,?_⟩ <;> kernel_rfl
theorem eqg_ms:Tryz.prog.eqGuardType Tryz.prog.depth 87=false:=by kernel_rfl
def msA (m:Ms):Array Value:=#[.int .i64 m.tt,.int .i64 m.at',.int .i64 m.c.e,.int .i64 m.c.n,.string m.c.d,.int .i64 m.tag]
theorem neq_ms (m:Ms) (w:World):(binOp .neq 87 (.agg (msA m)) (.agg (msA m))).run Tryz.prog w=.ok (.bool false) w:=by
 have:=eq_struct 9999 87 (msA m) (msA m) w ms_fields.1 ms_fields.2.1 _ ms_fields.2.2 (fun _=>true) ?_
 ·rw [run_neq_struct,this]; rfl
 ·intro s hs
  simp only [List.mem_cons,List.mem_nil_iff,or_false] at hs
  have hi:∀ (x:Int),(Op.equalIn 9999 3 (.int .i64 x) (.int .i64 x)).run Tryz.prog w=.ok true w:=fun x=>by rw [run_equalIn_int w 9998 _ _ _ _ _ under_int.1]; simp
  rcases hs with rfl | rfl | rfl | rfl
  ·exact ⟨by decide,_,_,run_part_plain w plain_int.1 rfl,run_part_plain w plain_int.1 rfl,hi _⟩
  ·exact ⟨by decide,_,_,run_part_plain w plain_int.1 rfl,run_part_plain w plain_int.1 rfl,hi _⟩
  ·refine ⟨by decide,_,_,part_agg w cell_row.1 rfl cell_row.2,part_agg w cell_row.1 rfl cell_row.2,?_⟩
   have e:(msA m).extract 2 (2+3)=#[.int .i64 m.c.e,.int .i64 m.c.n,.string m.c.d]:=rfl
   rw [e]
   exact (eq_cell 9997 m.c m.c w).trans (by simp)
  ·exact ⟨by decide,_,_,run_part_plain w plain_int.1 rfl,run_part_plain w plain_int.1 rfl,hi _⟩
theorem ms_cells {B:Nat} {w:World} {l:List Ms} {a:Option Addr} {cap:Nat} (hr:OwnM B w (.slice a l.length cap) l) {k:Nat} (hlt:k<l.length):∃ g,a=some ⟨g,0,none⟩∧g<w.heap.size∧w.cell? ⟨g,k*6,none⟩=some (.int .i64 l[k].tt)∧w.cell? ⟨g,k*6+1,none⟩=some (.int .i64 l[k].at')∧w.cell? ⟨g,k*6+2,none⟩=some (.int .i64 l[k].c.e)∧w.cell? ⟨g,k*6+3,none⟩=some (.int .i64 l[k].c.n)∧w.cell? ⟨g,k*6+4,none⟩=some (.string l[k].c.d)∧w.cell? ⟨g,k*6+5,none⟩=some (.int .i64 l[k].tag):=by
 obtain ⟨-,h2 | ⟨g,cap',cur,e1,e2,e3,-⟩⟩:=id hr
 ·exact absurd h2.2 (by omega)
 obtain ⟨rfl,rfl⟩:a=some ⟨g,0,none⟩∧cap=cap':=by simpa using e1
 have hg:=(Array.getElem?_eq_some_iff.1 e3).1
 have c:∀ j v,j<6→l[k].row[j]?=some v→w.cell? ⟨g,k*6+j,none⟩=some v:=fun j v hj hv=>by
  have:=OwnM.cells hr (k*6+j) v (by rw [msg_at hlt j hj,hv])
  rwa [Addr.add_lit,Nat.zero_add] at this
 exact ⟨g,rfl,hg,c 0 _ (by omega) rfl,c 1 _ (by omega) rfl,c 2 _ (by omega) rfl,c 3 _ (by omega) rfl,c 4 _ (by omega) rfl,c 5 _ (by omega) rfl⟩
theorem OwnM.shape {B:Nat} {w:World} {v:Value} {l:List Ms} (h:OwnM B w v l):∃ a cap,v=.slice a l.length cap:=by
 obtain ⟨-,h2 | ⟨g,cap,cur,e1,-⟩⟩:=h
 ·exact ⟨none,0,by rw [h2.1,h2.2]⟩
 ·exact ⟨_,_,e1⟩
set_option maxRecDepth 100000 in
set_option maxHeartbeats 4000000 in
theorem samemsgs_true (B B':Nat) (l:List Ms) (a a':Option Addr) (c c':Nat) (w:World) (hl:l.length≤1000) (h1:OwnM B w (.slice a l.length c) l) (h2:OwnM B' w (.slice a' l.length c') l) :
  Calls Tryz.prog 13 #[.slice a l.length c,.slice a' l.length c'] w fun e w'=>e=.returned (.bool true)∧Below w.heap.size w w':=by
 have H1:=Lib.hid h1
 have H2:=Lib.hid h2
 clear h1 h2
 go_enter Tryz.func13,Tryz.ntmps13
 go_wp2
 go_loopw [5] (fun i wr=>∃ k:Nat,k≤l.length∧i=.int .i64 k∧Below w.heap.size w wr) (fun i _=>l.length - (intOf i).toNat)
 case atStart=>exact ⟨0,by omega,rfl,Below.refl _ _⟩
 case round =>
  obtain ⟨k,hk,rfl,hbw⟩:=hrel
  have HB:=Lib.hid hbw
  clear hbw
  by_cases hlt:k<l.length
  ·obtain ⟨g,rfl,hg,a0,a1,a2,a3,a4,a5⟩:=ms_cells H1.out hlt
   obtain ⟨g',rfl,hg',b0,b1,b2,b3,b4,b5⟩:=ms_cells H2.out hlt
   obtain ⟨m,hm⟩:∃ m,l[k]=m:=⟨_,rfl⟩
   rw [hm] at a0 a1 a2 a3 a4 a5 b0 b1 b2 b3 b4 b5
   have CA:=Lib.hid (fun w' (b:Below wr.heap.size wr w')=>show w'.cell? ⟨g,k*6,none⟩=some (.int .i64 m.tt)∧w'.cell? ⟨g,k*6+1,none⟩=some (.int .i64 m.at')∧w'.cell? ⟨g,k*6+2,none⟩=some (.int .i64 m.c.e)∧w'.cell? ⟨g,k*6+3,none⟩=some (.int .i64 m.c.n)∧w'.cell? ⟨g,k*6+4,none⟩=some (.string m.c.d)∧w'.cell? ⟨g,k*6+5,none⟩=some (.int .i64 m.tag) from by
    have bb:Below w.heap.size w w':=HB.out.trans (b.mono HB.out.size)
    exact ⟨(bb.cell (p:=⟨g,_,none⟩) hg).trans a0,(bb.cell (p:=⟨g,_,none⟩) hg).trans a1,(bb.cell (p:=⟨g,_,none⟩) hg).trans a2,(bb.cell (p:=⟨g,_,none⟩) hg).trans a3,(bb.cell (p:=⟨g,_,none⟩) hg).trans a4,(bb.cell (p:=⟨g,_,none⟩) hg).trans a5⟩)
   have CB:=Lib.hid (fun w' (b:Below wr.heap.size wr w')=>show w'.cell? ⟨g',k*6,none⟩=some (.int .i64 m.tt)∧w'.cell? ⟨g',k*6+1,none⟩=some (.int .i64 m.at')∧w'.cell? ⟨g',k*6+2,none⟩=some (.int .i64 m.c.e)∧w'.cell? ⟨g',k*6+3,none⟩=some (.int .i64 m.c.n)∧w'.cell? ⟨g',k*6+4,none⟩=some (.string m.c.d)∧w'.cell? ⟨g',k*6+5,none⟩=some (.int .i64 m.tag) from by
    have bb:Below w.heap.size w w':=HB.out.trans (b.mono HB.out.size)
    exact ⟨(bb.cell (p:=⟨g',_,none⟩) hg').trans b0,(bb.cell (p:=⟨g',_,none⟩) hg').trans b1,(bb.cell (p:=⟨g',_,none⟩) hg').trans b2,(bb.cell (p:=⟨g',_,none⟩) hg').trans b3,(bb.cell (p:=⟨g',_,none⟩) hg').trans b4,(bb.cell (p:=⟨g',_,none⟩) hg').trans b5⟩)
   clear hm a0 a1 a2 a3 a4 a5 b0 b1 b2 b3 b4 b5 hg hg'
   go_upto_region 6 with fail
   go_cut [25] (fun v wx=>v=.bool false∧Below wr.heap.size wr wx)
   case first =>
    obtain ⟨S,hS⟩:∃ S:World→Prop,S=fun w'=>Below wr.heap.size wr w':=⟨_,rfl⟩
    have S3:∀ w',Below wr.heap.size wr w'→S w':=fun w' h=>by rw [hS]; exact h
    have S4:∀ w',S w'→Below wr.heap.size wr w':=fun w' h=>by rw [hS] at h; exact h
    clear hS
    refine wp_region_held_drew (S:=S) (by kernel_rfl) (S3 _ (Below.refl _ _).drew) (fun hHeld=>?_)
    obtain ⟨wd,hwd⟩:∃ wd,wd=wr.drew:=⟨_,rfl⟩
    rw [← hwd] at hHeld ⊢
    clear hwd
    refine wpAnyH_take (i:=0) (oi:=_) (v:=.slice (some ⟨g,0,none⟩) l.length c) rfl (by kernel_rfl) (by kernel_rfl) (by kernel_rfl) (fun _ _ _ h=>h) (Or.inl ⟨by rfl,fun w' hSw=>by go_simp⟩) hHeld ?_
    simp only [Act.put,List.getElem_toArray,List.getElem_cons_zero,List.setIfInBounds_toArray,List.set_cons_zero,List.set_cons_succ]
    refine wpAnyH_take (i:=1) (oi:=_) (v:=.int .i64 k) rfl (by kernel_rfl) (by kernel_rfl) (by kernel_rfl) (fun _ _ _ h=>h) (Or.inl ⟨by rfl,fun w' hSw=>by go_simp⟩) hHeld ?_
    simp only [Act.put,List.getElem_toArray,List.getElem_cons_zero,List.getElem_cons_succ,List.setIfInBounds_toArray,List.set_cons_zero,List.set_cons_succ]
    refine wpAnyH_take (i:=2) (oi:=_) (v:=.pointer (some ⟨g,k*6,none⟩)) rfl (by kernel_rfl) (by kernel_rfl) (by kernel_rfl) (fun _ _ _ h=>h) (Or.inl ⟨by rfl,fun w' hSw=>by go_simp⟩) hHeld ?_
    simp only [Act.put,List.getElem_toArray,List.getElem_cons_zero,List.getElem_cons_succ,List.setIfInBounds_toArray,List.set_cons_zero,List.set_cons_succ]
    refine wpAnyH_take (i:=3) (oi:=_) (v:=.agg (msA m)) rfl (by kernel_rfl) (by kernel_rfl) (by kernel_rfl) (fun _ _ _ h=>h) (Or.inl ⟨by rfl,fun w' hSw=>by obtain ⟨q0,q1,q2,q3,q4,q5⟩:=CA.out w' (S4 w' hSw); unfold msA; go_simp⟩) hHeld ?_
    simp only [Act.put,List.getElem_toArray,List.getElem_cons_zero,List.getElem_cons_succ,List.setIfInBounds_toArray,List.set_cons_zero,List.set_cons_succ]
    refine wpAnyH_take (i:=4) (oi:=_) (v:=.slice (some ⟨g',0,none⟩) l.length c') rfl (by kernel_rfl) (by kernel_rfl) (by kernel_rfl) (fun _ _ _ h=>h) (Or.inl ⟨by rfl,fun w' hSw=>by go_simp⟩) hHeld ?_
    simp only [Act.put,List.getElem_toArray,List.getElem_cons_zero,List.getElem_cons_succ,List.setIfInBounds_toArray,List.set_cons_zero,List.set_cons_succ]
    refine wpAnyH_take (i:=5) (oi:=_) (v:=.int .i64 k) rfl (by kernel_rfl) (by kernel_rfl) (by kernel_rfl) (fun _ _ _ h=>h) (Or.inl ⟨by rfl,fun w' hSw=>by go_simp⟩) hHeld ?_
    simp only [Act.put,List.getElem_toArray,List.getElem_cons_zero,List.getElem_cons_succ,List.setIfInBounds_toArray,List.set_cons_zero,List.set_cons_succ]
    refine wpAnyH_take (i:=6) (oi:=_) (v:=.pointer (some ⟨g',k*6,none⟩)) rfl (by kernel_rfl) (by kernel_rfl) (by kernel_rfl) (fun _ _ _ h=>h) (Or.inl ⟨by rfl,fun w' hSw=>by go_simp⟩) hHeld ?_
    simp only [Act.put,List.getElem_toArray,List.getElem_cons_zero,List.getElem_cons_succ,List.setIfInBounds_toArray,List.set_cons_zero,List.set_cons_succ]
    refine wpAnyH_take (i:=7) (oi:=_) (v:=.agg (msA m)) rfl (by kernel_rfl) (by kernel_rfl) (by kernel_rfl) (fun _ _ _ h=>h) (Or.inl ⟨by rfl,fun w' hSw=>by obtain ⟨q0,q1,q2,q3,q4,q5⟩:=CB.out w' (S4 w' hSw); unfold msA; go_simp⟩) hHeld ?_
    simp only [Act.put,List.getElem_toArray,List.getElem_cons_zero,List.getElem_cons_succ,List.setIfInBounds_toArray,List.set_cons_zero,List.set_cons_succ]
    refine wpAnyH_take (i:=8) (oi:=_) (v:=.bool false) rfl (by kernel_rfl) (by kernel_rfl) (by kernel_rfl) (fun _ _ _ h=>h) (yieldsIf_bin (by rfl) .neq 87 _ _ _ rfl (msA m) (msA m) rfl rfl eqg_ms _ (fun w=>neq_ms m w)) hHeld ?_
    simp only [Act.put,List.getElem_toArray,List.getElem_cons_zero,List.getElem_cons_succ,List.setIfInBounds_toArray,List.set_cons_zero,List.set_cons_succ]
    refine wpAnyH_done (by kernel_rfl) ?_ _
    go_wp2_with fail
    go_meet
    exact ⟨rfl,S4 _ hHeld⟩
   case rest =>
    obtain ⟨wo,rfl⟩:∃ wo:World,wo=wr:=⟨_,rfl⟩
    obtain ⟨rfl,b4⟩:=hcut
    have HB4:=Lib.hid (HB.out.trans (b4.mono HB.out.size))
    clear b4
    go_wp2
    go_roundw
    case rel=>exact ⟨k+1,by omega,by go_num,HB4.out⟩
    case measure=>simp [intOf]; omega
  ·go_wp2
   go_ret
   exact ⟨rfl,HB.out⟩
end Go.Proofs.YtbkmdmmgalmmaaaGreatDoor

namespace Go.Proofs.YtbkmdmmgalmmaaaGreatDoor
open Go.RowKit Go.Lib
section
variable {H:Type} {enc:TypeId × Value→H}
theorem returnsInHanded_laidShape {a:Assume} {C:Checked} {os:Os} {f:FuncId} {fn:Func} {s:ChangeSpec} {conds:List PathCond} {apart fresh handsOn again:Bool} {X:World→Array Value→Prop}
  (hX:∀ (w w':World) (args:Array Value),w.heap=w'.heap→X w args→X w' args)
  (own:ownKnob C.prog.godebug=none) (started:os.Started) (noInit:C.prog.inits.idxOf? f=none) (hfn:C.prog.funcs[f]?=some fn)
  (witness:∃ (w:World) (tape:Tape) (i:Input),w.os=os∧(w.forCall tape i).Shaped C.prog∧i.vars=[]∧Input.okWide C.prog (w.forCall tape i) .any w.heap.size f i ∧
   ((s.pre enc C.prog fn conds apart (w.forCall tape i).memory i.args∧X (w.forCall tape i).memory i.args)∧sizedMet enc C.prog fn (OpenSpec.ofChange s) apart (w.forCall tape i).memory i.args)∧a.holds C.prog (lone (Frame.enter C.prog f i.args .normal) [] (w.forCall tape i)))
  (contract:∀ (W:World) (base:Nat) (args:Array Value) (ds gs:List (DataW H)) (before:List MemPlace),
   (∀ (j:Nat) t v,fn.params[j]?=some t→args[j]?=some v→Value.okWide C.prog W .any base t v) →
   DataW.Whole enc C.prog fn.params.toList s.vars apart W args.toList ds gs before →
   X W args→W.ShapedOpen C.prog →
   Calls C.prog f args W fun e W'=>∃ v,e=.returned v∧s.post enc C.prog fn apart fresh handsOn again W args v W') :
  ReturnsInHanded a C os f .any (fun w args=>(s.pre enc C.prog fn conds apart w args∧X w args)∧sizedMet enc C.prog fn (OpenSpec.ofChange s) apart w args) (s.post enc C.prog fn apart fresh handsOn again):=by
 refine returnsInHanded_of_calls own started noInit witness ?_
 intro w tape i _ hsh _ hok hpre _
 obtain ⟨_,_,_,fn',hfn',_,_,_,_,hval⟩:=hok
 have e:fn'=fn:=Option.some.inj (hfn'.symm.trans hfn)
 subst e
 obtain ⟨⟨⟨ds,gs,before,hw,_⟩,hx⟩,_⟩:=hpre
 refine (contract (w.forCall tape i) w.heap.size i.args ds gs before hval (DataW.Whole.of_heap (w':=w.forCall tape i) (by rfl) hw) (hX _ _ _ (by rfl) hx) hsh).mono fun e W' ⟨v,he,hp⟩=>?_
 subst he
 exact ChangeSpec.post_blind hp
end
theorem iface_var {P:Program} {n nm:String} {d:DataW Unit} {r:List (String × DataW Unit)} {W:World} {g:Nat} {ti:TypeId} {ms:Array (String × TypeId)}
  (h:laidMet P ((n,.iface nm d) :: r) W) (hg:P.globalNamed n=some g) (ht:(P.globals[g]?).map (·.type)=some ti) (hi:P.underlying ti=some (.interface ms)) :
  ∃ u v,W.var? P n=some #[.iface u v]:=by
 obtain ⟨ps,⟨g0,t0,cs0,f0,p0,q0,hg0,ht0,hv0,hd0,_,e0⟩,_,hrows⟩:=h
 obtain rfl:=Option.some.inj (hg.symm.trans hg0)
 obtain rfl:=Option.some.inj (ht.symm.trans ht0)
 obtain ⟨_,u,v,hc,_⟩:=iface_of_trod hi hd0
 refine ⟨u,v,hv0.trans ?_⟩
 congr 1
 exact Array.toList_inj.1 hc
theorem shape_block {P:Program} {w:World} (h:w.ShapedOpen P) {g:Nat} {t:TypeId} {zero:Array Value} (hg:g<P.globals.size)
  (h0:((begin P (fun _ _=>0) default).world.heap[g]?).bind Obj.row?=some (zero,t)):g<w.heap.size∧∃ cs,w.heap[g]?=some (.cells cs t)∧cs.size=zero.size:=by
 obtain ⟨cs,hh,hs,_⟩:=h.1 g zero t hg h0
 exact ⟨(Array.getElem?_eq_some_iff.1 hh).1,cs,hh,hs⟩
theorem shape_low {P:Program} {w:World} (h:w.ShapedOpen P) (g:Nat) (hg:g<P.globals.size)
  (h0:(((begin P (fun _ _=>0) default).world.heap[g]?).bind Obj.row?).isSome=true):g<w.heap.size:=by
 obtain ⟨⟨zero,t⟩,hx⟩:=Option.isSome_iff_exists.1 h0
 exact (shape_block h hg hx).1
theorem int_var {P:Program} {w:World} {n:String} (h:w.ShapedOpen P) {g:Nat} {t:TypeId} {zero:Array Value} {k:IntKind} (hn:P.globalNamed n=some g) (hg:g<P.globals.size)
  (h0:((begin P (fun _ _=>0) default).world.heap[g]?).bind Obj.row?=some (zero,t)) (hz:zero.size=1)
  (hb:P.buildable t=true) (hc:P.cellTypes P.depth t=some [t]) (hu:P.underlying t=some (.int k)):∃ m,w.var? P n=some #[.int k m]:=by
 obtain ⟨m,hm⟩:=cell_of_shapedOpen_int h hg h0 hz hb hc hu
 obtain ⟨_,cs,hh,hs⟩:=shape_block h hg h0
 refine ⟨m,?_⟩
 unfold World.var?
 simp only [hn,Option.bind_some,hh]
 have h1:cs.size=1:=hs.trans hz
 have h2:cs[0]?=some (.int k m):=by simpa [World.cell?,hh] using hm
 congr 1
 apply Array.ext
 ·simp [h1]
 ·intro i hi1 hi2
  have:i=0:=by omega
  subst this
  have:=Array.getElem?_eq_some_iff.1 h2
  simp [this.2]
end Go.Proofs.YtbkmdmmgalmmaaaGreatDoor
