import Derived.Test.YtajegiifabfcjaaGreatDoorQ36
import Derived.Test.YtajegiifabfcjaaGreatDoorTie
import Derived.Handed
import Derived.Lib.LaidTab
import Derived.Stop.LaidErr
import Derived.Shelf.Vars
import Derived.LaidLaws
namespace Go.Proofs.YtajegiifabfcjaaGreatDoor
open Go.RowKit Go.Sort
open Go.Lib (hid)
theorem kd_ask (kd:ByteArray):(kd.toList == [97,115,107])=decide (kd=sAsk):=by rw [← ba_beq,show sAsk.toList=[97,115,107] from by rw [ByteArray.toList_eq]; rfl]
theorem kd_deliver (kd:ByteArray):(kd.toList == [100,101,108,105,118,101,114])=decide (kd=sDeliver):=by rw [← ba_beq,show sDeliver.toList=[100,101,108,105,118,101,114] from by rw [ByteArray.toList_eq]; rfl]
theorem kd_lose (kd:ByteArray):(kd.toList == [108,111,115,101])=decide (kd=sLose):=by rw [← ba_beq,show sLose.toList=[108,111,115,101] from by rw [ByteArray.toList_eq]; rfl]
theorem kd_power (kd:ByteArray):(kd.toList == [112,111,119,101,114])=decide (kd=sPower):=by rw [← ba_beq,show sPower.toList=[112,111,119,101,114] from by rw [ByteArray.toList_eq]; rfl]
structure Ac.Fresh (x:Ac):Prop where
 k1:x.kind≠sAsk
 k2:x.kind≠sDeliver
 k3:x.kind≠sLose
 k4:x.kind≠sUp
 k5:x.kind≠sDown
 k6:x.kind≠sSync
 k7:x.kind≠sPower
def PlayPost (w0 w:World) (D T:Nat) (t:Tg) (Y:Nat→Prop) (x:Ac) (e:Ending) (w':World):Prop :=
 ∃ T',e=.returned (.pointer (some ⟨T',0,none⟩))∧TgR w0 10 D T' (t.play 10 x) Y w'∧Same Y w w'∧((T'=T∧(¬ x.Fresh∨(Tg.new 10 t.k t.g).2≠0))∨(w.heap.size≤T'∧x.Fresh∧(Tg.new 10 t.k t.g).2=0∧∃ cs ty,w'.heap[T]?=some (.cells cs ty (0,0))))
section
variable (w0 w:World) (D T:Nat) (t:Tg) (Y:Nat→Prop) (S:Cel→Prop) (B:Int)
set_option maxRecDepth 100000 in
set_option maxHeartbeats 20000000 in
theorem play_any (x:Ac) (h:TgR w0 10 D T t Y w) (hj:TJ 10 S B t) (hB:B+2<1000000000000000) (hx:x.cm.data.size≤9223372036854775807∧x.cm.want.size≤9223372036854775807) (tt:Tabs w0) :
  Calls Tryz.prog 16 #[.pointer (some ⟨D,0,none⟩),.pointer (some ⟨T,0,none⟩),.agg x.cells.toArray] w fun e w'=>PlayPost w0 w D T t Y x e w':=by
 have HJ:=hid hj
 have HBB:=hid hB
 have HX:=hid hx
 have TT:=hid tt
 obtain ⟨w1,hw1⟩:∃ w1,w1=w.alloc (.cells x.cells.toArray 39):=⟨_,rfl⟩
 have B1:=hid (show RowKit.Below w.heap.size w w1 from hw1▸bal w _)
 have R1:=hid (show w1.heap[w.heap.size]?=some (.cells x.cells.toArray 39 (0,0)) from hw1▸heap_alloc_new w _)
 have SY1:=hid (show Same Y w w1 from fun b hb=>B1.out.block b (h.lt_y b hb))
 have H1:=hid (show TgR w0 10 D T t Y w1 from h.over B1.out)
 have END:=hid (show ∀ u w',t.play 10 x=u→¬ x.Fresh→TgR w0 10 D T u Y w'→Same Y w1 w'→PlayPost w0 w D T t Y x (.returned (.pointer (some ⟨T,0,none⟩))) w' from fun u w' e hf hu hs =>
  ⟨T,rfl,e▸hu,SY1.out.trans hs,.inl ⟨rfl,.inl hf⟩⟩)
 have PL:=hid (show t.play 10 x=if x.kind=sAsk then (t.ask 10 x.cm).1 else if x.kind=sDeliver then (t.deliver x.a (decide (x.b=1))).1 else if x.kind=sLose then (t.lose x.a).1
  else if x.kind=sUp∨x.kind=sDown then (t.up x.a (decide (x.kind=sUp))).1 else if x.kind=sSync then (t.sync x.a).1 else if x.kind=sPower then (t.power 10).1 else t.anew 10 from rfl)
 have ASK:=hid (task_any w0 w1 10 D T t Y S B x.cm H1.out hj hB hx tt)
 clear h hj hB hx tt
 obtain ⟨⟨c0,c1,c2,-,-⟩,-,d0,d1,d2,d3,d4,d5,d6,d7,d8⟩:=act_cells (o:=0) (range_of R1.out)
 simp only [Nat.zero_add] at c0 c1 c2 d0 d1 d2 d3 d4 d5 d6 d7 d8
 unfold Ac.cells at hw1 ⊢
 go_enter Tryz.func16,Tryz.ntmps16
 go_upto_region 1 with fail
 rw [← hw1]
 clear hw1
 by_cases k1:x.kind=sAsk
 ·have q1:(x.kind.toList == [97,115,107])=true:=by rw [kd_ask,decide_eq_true k1]
  have E:=hid (PL.out.trans (if_pos k1))
  have NF:=hid (show ¬ x.Fresh from fun f=>f.k1 k1)
  clear k1
  go_wp2_with fail
  refine ASK.out.mono ?_
  rintro e w2 ⟨rfl,h2,s2⟩
  have P:=hid (END.out _ w2 E.out NF.out h2 s2)
  clear h2 s2
  go_wp2
  go_ret
  exact P.out
 have q1:(x.kind.toList == [97,115,107])=false:=by rw [kd_ask,decide_eq_false k1]
 clear d0 d1 d2 d3 d4 d5 d6 d7 d8 ASK
 have PL2:=hid (PL.out.trans (if_neg k1))
 by_cases k2:x.kind=sDeliver
 ·have q2:(x.kind.toList == [100,101,108,105,118,101,114])=true:=by rw [kd_deliver,decide_eq_true k2]
  have E:=hid (PL2.out.trans (if_pos k2))
  have NF:=hid (show ¬ x.Fresh from fun f=>f.k2 k2)
  have DEL:=hid (tdeliver_any w0 w1 10 D T t Y x.a (decide (x.b=1)) H1.out HJ.out.ti.tgd)
  clear k1 k2 PL
  go_wp2_with fail
  refine DEL.out.mono ?_
  rintro e w2 ⟨rfl,h2,s2⟩
  have P:=hid (END.out _ w2 E.out NF.out h2 s2)
  clear h2 s2
  go_wp2
  go_ret
  exact P.out
 have q2:(x.kind.toList == [100,101,108,105,118,101,114])=false:=by rw [kd_deliver,decide_eq_false k2]
 have PL3:=hid (PL2.out.trans (if_neg k2))
 by_cases k3:x.kind=sLose
 ·have q3:(x.kind.toList == [108,111,115,101])=true:=by rw [kd_lose,decide_eq_true k3]
  have E:=hid (PL3.out.trans (if_pos k3))
  have NF:=hid (show ¬ x.Fresh from fun f=>f.k3 k3)
  have LOS:=hid (tlose_any w0 w1 10 D T t Y x.a H1.out (by have:=HJ.out.ti.fl; omega))
  clear k1 k2 k3 PL PL2
  go_wp2_with fail
  refine LOS.out.mono ?_
  rintro e w2 ⟨rfl,h2⟩
  have P:=hid (END.out _ w2 E.out NF.out h2.1 h2.2.1)
  clear h2
  go_wp2
  go_ret
  exact P.out
 have q3:(x.kind.toList == [108,111,115,101])=false:=by rw [kd_lose,decide_eq_false k3]
 have PL4:=hid (PL3.out.trans (if_neg k3))
 by_cases k4:x.kind=sUp
 ·have q4:(x.kind.toList == [117,112])=true:=by rw [kd_up,decide_eq_true k4]
  have E:=hid (show t.play 10 x=(t.up x.a true).1 from by rw [PL4.out,if_pos (.inl k4),decide_eq_true k4])
  have NF:=hid (show ¬ x.Fresh from fun f=>f.k4 k4)
  have UPP:=hid (up_any w0 w1 10 D T t Y x.a true H1.out)
  clear k1 k2 k3 k4 PL PL2 PL3
  go_wp2_with fail
  refine UPP.out.mono ?_
  rintro e w2 ⟨rfl,h2⟩
  have P:=hid (END.out _ w2 E.out NF.out h2.1 h2.2.1)
  clear h2
  go_wp2
  go_ret
  exact P.out
 have q4:(x.kind.toList == [117,112])=false:=by rw [kd_up,decide_eq_false k4]
 by_cases k5:x.kind=sDown
 ·have q5:(x.kind.toList == [100,111,119,110])=true:=by rw [kd_down,decide_eq_true k5]
  have E:=hid (show t.play 10 x=(t.up x.a false).1 from by rw [PL4.out,if_pos (.inr k5),decide_eq_false k4])
  have NF:=hid (show ¬ x.Fresh from fun f=>f.k5 k5)
  have UPP:=hid (up_any w0 w1 10 D T t Y x.a false H1.out)
  clear k1 k2 k3 k4 k5 PL PL2 PL3
  go_wp2_with fail
  refine UPP.out.mono ?_
  rintro e w2 ⟨rfl,h2⟩
  have P:=hid (END.out _ w2 E.out NF.out h2.1 h2.2.1)
  clear h2
  go_wp2
  go_ret
  exact P.out
 have q5:(x.kind.toList == [100,111,119,110])=false:=by rw [kd_down,decide_eq_false k5]
 have PL5:=hid (PL4.out.trans (if_neg (fun h=>h.elim k4 k5)))
 by_cases k6:x.kind=sSync
 ·have q6:(x.kind.toList == [115,121,110,99])=true:=by rw [kd_sync,decide_eq_true k6]
  have E:=hid (PL5.out.trans (if_pos k6))
  have NF:=hid (show ¬ x.Fresh from fun f=>f.k6 k6)
  have SYN:=hid (tsync_any w0 w1 10 D T t Y x.a H1.out)
  clear k1 k2 k3 k4 k5 k6 PL PL2 PL3 PL4
  go_wp2_with fail
  refine SYN.out.mono ?_
  rintro e w2 ⟨rfl,h2⟩
  have P:=hid (END.out _ w2 E.out NF.out h2.1 h2.2.1)
  clear h2
  go_wp2
  go_ret
  exact P.out
 have q6:(x.kind.toList == [115,121,110,99])=false:=by rw [kd_sync,decide_eq_false k6]
 have PL6:=hid (PL5.out.trans (if_neg k6))
 by_cases k7:x.kind=sPower
 ·have q7:(x.kind.toList == [112,111,119,101,114])=true:=by rw [kd_power,decide_eq_true k7]
  have E:=hid (PL6.out.trans (if_pos k7))
  have NF:=hid (show ¬ x.Fresh from fun f=>f.k7 k7)
  have POW:=hid (tpower_any w0 w1 10 D T t Y H1.out ⟨HJ.out.kg,HJ.out.ti.qi.ok,by have:=HJ.out.ti.kb; have:=HBB.out; omega⟩ TT.out)
  clear k1 k2 k3 k4 k5 k6 k7 PL PL2 PL3 PL4 PL5
  go_wp2_with fail
  refine POW.out.mono ?_
  rintro e w2 ⟨rfl,h2,s2⟩
  have P:=hid (END.out _ w2 E.out NF.out h2 s2)
  clear h2 s2
  go_wp2
  go_ret
  exact P.out
 have q7:(x.kind.toList == [112,111,119,101,114])=false:=by rw [kd_power,decide_eq_false k7]
 have E:=hid (show t.play 10 x=t.anew 10 from PL6.out.trans (if_neg k7))
 have FR:=hid (show x.Fresh from ⟨k1,k2,k3,k4,k5,k6,k7⟩)
 have GRP:=hid (tgroup_any w0 w1 10 D T t Y H1.out)
 have NEW:=hid (show ∀ w',RowKit.Below w1.heap.size w1 w'→Calls Tryz.prog 40 #[.pointer (some ⟨D,0,none⟩),.agg t.g.arr] w' fun e w''=>NewPost w0 w' 10 D (fun c=>Y c∨c=T) (Tg.new 10 t.k t.g) e w''∧(((Tg.start t.k t.g).isReady=false∨t.k.ep=1000000)→RowKit.Below w'.heap.size w' w'') from fun w' b=>by
  obtain ⟨X,m,ki,tb,lo,hy⟩:=H1.out.over b
  have hY:∀ c,(Y c∨c=T)→X c:=fun c hc=>hc.elim (fun q=>(hy c q).1) (fun q=>q▸tb.xt)
  exact tnew_any w0 w' 10 D t.k.d (fun c=>Y c∨c=T) t.k.num t.k.ep t.k.s t.g (ki.dki hY) HJ.out.ti.kd HJ.out.sz HJ.out.ti.qi.ok (by have:=HJ.out.ti.kb; have:=HBB.out; omega) TT.out (fun c hc=>lo c (hY c hc)))
 have TB1:=hid (show ∃ cs ty,w1.heap[T]?=some (.cells cs ty (0,0)) from by obtain ⟨X,m,ki,tb,lo,hy⟩:=H1.out; exact ⟨_,_,tb.blk⟩)
 obtain ⟨ga,hga⟩:∃ ga,t.g.arr=ga:=⟨_,rfl⟩
 rw [hga] at GRP NEW
 clear hga k1 k2 k3 k4 k5 k6 k7 PL PL2 PL3 PL4 PL5 PL6 END
 go_wp2_with fail
 refine GRP.out.mono ?_
 rintro e w2 ⟨rfl,b2⟩
 have B2:=hid b2
 have NEW2:=hid (NEW.out w2 b2)
 clear b2 GRP NEW
 go_wp2_with fail
 refine NEW2.out.mono ?_
 rintro e w3 ⟨hp,hlow⟩
 by_cases hz:(Tg.new 10 t.k t.g).2=0
 ·obtain ⟨T',rfl,h3,s3,ht⟩:=hp.1 hz
  have P:=hid (show PlayPost w0 w D T t Y x (.returned (.pointer (some ⟨T',0,none⟩))) w3 from ⟨T',rfl,by
    rw [E.out]
    unfold Tg.anew
    rw [if_pos hz]
    exact h3.less (fun b hb=>.inl hb),SY1.out.trans (fun b hb=>(s3 b (.inl hb)).trans (B2.out.block b (H1.out.lt_y b hb))),.inr ⟨Nat.le_trans B1.out.size (Nat.le_trans B2.out.size ht),FR.out,hz,by
     obtain ⟨cs,ty,e1⟩:=TB1.out
     exact ⟨cs,ty,(s3 T (.inr rfl)).trans ((B2.out.block T (Array.getElem?_eq_some_iff.1 e1).1).trans e1)⟩⟩⟩)
  clear hp hlow h3 s3 ht hz NEW2
  go_wp2
  go_ret
  exact P.out
 ·obtain rfl:=hp.2 hz
  have hnr:(Tg.start t.k t.g).isReady=false∨t.k.ep=1000000:=by
   obtain ⟨n1,-,-⟩:=new_live HJ.out.ti (by have:=HBB.out; omega)
   by_cases hm:2≤(t.g.mem t.k.ep).length
   ·by_cases he:t.k.ep=1000000
    ·exact .inr he
    ·exact absurd (n1 hm he).1 hz
   ·left
    have e1:(Tg.start t.k t.g).isReady=t.isReady:=rfl
    rw [e1,HJ.out.ti.isReady]
    exact decide_eq_false hm
  have P:=hid (show PlayPost w0 w D T t Y x (.returned (.pointer (some ⟨T,0,none⟩))) w3 from ⟨T,rfl,by
    rw [E.out]
    unfold Tg.anew
    rw [if_neg hz]
    exact (H1.out.over B2.out).over (hlow hnr),SY1.out.trans (fun b hb=>((hlow hnr).block b ((H1.out.over B2.out).lt_y b hb)).trans (B2.out.block b (H1.out.lt_y b hb))),.inl ⟨rfl,.inr hz⟩⟩)
  rw [errV_some hz]
  clear hp hlow hnr hz NEW2
  go_wp2
  go_ret
  exact P.out
end
section
set_option maxRecDepth 100000 in
set_option maxHeartbeats 8000000 in
theorem works_any (w:World) (tt:Tabs w):Calls Tryz.prog 13 #[] w fun e w'=>e=.returned (.bool true)∧Below w.heap.size w w':=by
 have TT:=hid tt
 have OP:=hid (opened_any w tt)
 clear tt
 go_enter Tryz.func13,Tryz.ntmps13
 go_wp2_with fail
 refine OP.out.mono ?_
 rintro e w1 ⟨D,T,d,rfl,h1,j1⟩
 obtain ⟨l1,l2,l3,l4⟩:=works_law d
 obtain ⟨S2,-,j2⟩:=j1.ask (by omega) cHay
 have j3:=j2.deliver 0 false
 have j4:=j3.deliver 0 false
 have A1:=hid (task_any w w1 10 D T (tg0 d) (fun _=>False) _ _ cHay h1 j1 (by omega) (by decide) TT.out)
 have A2:=hid (fun w' h=>tdeliver_any w w' 10 D T (wk1 d) (fun _=>False) 0 false h j2.ti.tgd)
 have A3:=hid (fun w' h=>tdeliver_any w w' 10 D T (wk2 d) (fun _=>False) 0 false h j3.ti.tgd)
 have A4:=hid (fun w' h=>task_any w w' 10 D T (wk3 d) (fun _=>False) _ _ cRead h j4 (by omega) (by decide) TT.out)
 rw [l1] at A1
 rw [l2] at A2
 rw [l3] at A3
 rw [l4] at A4
 clear h1 j1 j2 j3 j4 l1 l2 l3 l4 OP
 go_wp2_with fail
 refine A1.out.mono ?_
 rintro e w2 ⟨rfl,h2,-⟩
 have A22:=hid (A2.out w2 h2)
 clear h2 A1 A2
 rw [errV_nil]
 go_wp2_with fail
 refine A22.out.mono ?_
 rintro e w3 ⟨rfl,h3,-⟩
 have A33:=hid (A3.out w3 h3)
 clear h3 A22 A3
 rw [errV_nil]
 go_wp2_with fail
 refine A33.out.mono ?_
 rintro e w4 ⟨rfl,h4,-⟩
 have A44:=hid (A4.out w4 h4)
 clear h4 A33 A4
 rw [errV_nil]
 go_wp2_with fail
 refine A44.out.mono ?_
 rintro e w5 ⟨rfl,h5,-⟩
 have P:=hid h5.below
 clear h5 A44
 rw [errV_nil]
 go_wp2
 go_ret
 exact ⟨rfl,P.out⟩
def PlayedPost (w:World) (e:Ending) (w':World):Prop :=
 (e=.returned (.tuple #[.pointer none,.pointer none,.bool false])∧Below w.heap.size w w') ∨
 ∃ D T t S,e=.returned (.tuple #[.pointer (some ⟨D,0,none⟩),.pointer (some ⟨T,0,none⟩),.bool true])∧TgR w 10 D T t (fun _=>False) w'∧TJ 10 S 200 t
set_option maxRecDepth 100000 in
set_option maxHeartbeats 8000000 in
theorem played_any (l:List Ac) (a:Option Addr) (cap:Nat) (w:World) (hl:l.length≤maxLen) (hr:ActsAt w a l) (tt:Tabs w) :
  Calls Tryz.prog 20 #[.slice a l.length cap] w fun e w'=>PlayedPost w e w':=by
 have TT:=hid tt
 have HR:=hid hr
 have LA:=hid (lightacts_any l a cap 80 w hl hr)
 have OP:=hid (fun w' b=>opened_any w' (Tabs.on tt b))
 unfold maxLen at hl
 clear tt hr
 go_enter Tryz.func20,Tryz.ntmps20
 go_wp2_with fail
 refine LA.out.mono ?_
 rintro e w1 ⟨lb,rfl,hlb,b1⟩
 have B1:=hid b1
 cases lb
 ·clear LA OP hlb b1
  go_wp2
  exact bodyPost_ret (v:=.tuple #[.pointer none,.pointer none,.bool false]) (by simp [results,Tryz.results20,go_sem]) rfl (.inl ⟨rfl,B1.out⟩)
 have HL:=hid (hlb rfl).1
 have OP1:=hid (OP.out w1 b1)
 clear LA OP hlb b1
 go_wp2_with fail
 refine OP1.out.mono ?_
 rintro e w2 ⟨D,T,d,rfl,h2,j2⟩
 have H2:=hid h2
 have J2:=hid j2
 clear h2 j2 OP1
 go_wp2
 go_loopw [6,8] (fun v i wr=>∃ (k:Nat) (T:Nat) (t:Tg) (S:Cel→Prop),k≤l.length∧v=.pointer (some ⟨T,0,none⟩)∧i=.int .i64 k∧TgR w1 10 D T t (fun _=>False) wr∧TJ 10 S (3+2*(k:Int)) t) (fun _ i _=>l.length - (intOf i).toNat)
 case atStart=>exact ⟨0,T,tg0 d,_,by omega,rfl,rfl,H2.out,J2.out⟩
 case round =>
  obtain ⟨k,T,t,S,hk,rfl,rfl,hT,hJ⟩:=hrel
  have HT:=hid hT
  have HJ:=hid hJ
  clear hT hJ
  by_cases hlt:k<l.length
  ·obtain ⟨ok,b,o,rfl,hb,hrange⟩:=HR.out k hlt
   have bw:RowKit.Below w.heap.size w wr:=B1.out.trans (HT.out.below.mono B1.out.size)
   have hrg:wr.rangeAt b (o+k*19) l[k].cells:=fun j v hv=>(bw.cell (p:=⟨b,_,none⟩) hb).trans (hrange j v hv)
   have hci:=ok.ci
   unfold maxLen at hci
   obtain ⟨X,hX⟩:∃ X,l[k]=X:=⟨_,rfl⟩
   rw [hX] at hrg hci
   have HRG:=hid hrg
   have h80:=HL.out
   have PL:=hid (play_any w1 wr D T t (fun _=>False) S _ X HT.out HJ.out (by omega) hci (TT.out.on B1.out))
   obtain ⟨S',-,hj'⟩:=HJ.out.play (by omega) X
   have HJ':=hid (show TJ 10 S' (3+2*((k+1:Nat):Int)) (t.play 10 X) from hj'.mono (by omega))
   clear hrange hX hrg ok hci bw hj'
   go_wp2_with (first | ((with_reducible refine ld_mid1 rfl 39 _ rfl ?_); refine ⟨b,o+k*19,X.cells.toArray,_,rfl,HRG.out,act_row.1,rfl,act_row.2,?_⟩))
   refine PL.out.mono ?_
   rintro e w3 ⟨T',rfl,h3,-,-⟩
   have H3:=hid h3
   clear h3 PL
   go_wp2
   go_roundw
   case rel=>exact ⟨k+1,T',_,S',by omega,rfl,by go_num,H3.out,HJ'.out⟩
   case measure=>simp [intOf]; omega
  ·have h80:=HL.out
   have P:=hid (show TgR w 10 D T t (fun _=>False) wr from HT.out.base B1.out)
   have PJ:=hid (show TJ 10 S 200 t from HJ.out.mono (by omega))
   clear HT HJ
   go_wp2
   exact bodyPost_ret (v:=.tuple #[.pointer (some ⟨D,0,none⟩),.pointer (some ⟨T,0,none⟩),.bool true]) (by simp [results,Tryz.results20,go_sem]) rfl (.inr ⟨D,T,t,S,rfl,P.out,PJ.out⟩)
end
section
variable (w0 w:World) (D T:Nat) (t:Tg) (Y:Nat→Prop) (S:Cel→Prop) (B:Int)
set_option maxRecDepth 100000 in
set_option maxHeartbeats 8000000 in
theorem tpask_any (c:Cmd) (h:TgR w0 10 D T t Y w) (hj:TJ 10 S B t) (hB:B+20<1000000000000000) (hs:c.data.size≤9223372036854775807∧c.want.size≤9223372036854775807) (tt:Tabs w0) :
  Calls Tryz.prog 17 #[.pointer (some ⟨T,0,none⟩),cmdV c] w fun e w'=>e=.returned (.tuple #[.string (t.askN 10 c 6).2.1,.int .i64 (t.askN 10 c 6).2.2.1,errV (t.askN 10 c 6).2.2.2])∧TgR w0 10 D T (t.askN 10 c 6).1 Y w'∧Same Y w w':=by
 have HS:=hid hs
 have TT:=hid tt
 have HH:=hid h
 have HJ:=hid hj
 obtain ⟨w1,hw1⟩:∃ w1,w1=w.alloc (.cells #[.int .i64 c.op,.int .i64 c.who,.int .i64 c.key,.int .i64 c.new,.int .i64 c.typ,.int .i64 c.at',.bool c.stays,.string c.data,.string c.want] 37):=⟨_,rfl⟩
 have B1:=hid (show RowKit.Below w.heap.size w w1 from hw1▸bal w _)
 have R1:=hid (show w1.heap[w.heap.size]?=some (.cells #[.int .i64 c.op,.int .i64 c.who,.int .i64 c.key,.int .i64 c.new,.int .i64 c.typ,.int .i64 c.at',.bool c.stays,.string c.data,.string c.want] 37 (0,0)) from hw1▸heap_alloc_new w _)
 have HA:=(Array.getElem?_eq_some_iff.1 R1.out).1
 have SY1:=hid (show Same Y w w1 from fun b hb=>B1.out.block b (h.lt_y b hb))
 obtain ⟨Z,hZ⟩:∃ Z:Nat→Prop,Z=fun c=>Y c∨(w.heap.size≤c∧c<w1.heap.size):=⟨_,rfl⟩
 have H1:=hid (show TgR w0 10 D T t Z w1 from hZ▸h.more B1.out)
 have ZY:=hid (show ∀ b,Y b→Z b from fun b hb=>hZ▸Or.inl hb)
 have ZA:=hid (show Z w.heap.size from hZ▸Or.inr ⟨Nat.le_refl _,HA⟩)
 obtain ⟨R,hR⟩:∃ R,t.askN 10 c 6=R:=⟨_,rfl⟩
 have HR:=hid hR
 rw [hR]
 clear h hj hs tt hZ hR
 go_enter Tryz.func17,Tryz.ntmps17
 go_upto_region 1 with fail
 rw [← hw1]
 clear hw1
 obtain ⟨A,hA⟩:∃ A,w.heap.size=A:=⟨_,rfl⟩
 rw [hA] at R1 ZA ⊢
 clear hA HA
 go_wp2
 go_loopw [7] (fun i wr=>∃ (k:Nat) (u:Tg) (S:Cel→Prop),k≤6∧i=.int .i64 k∧R=u.askN 10 c (6 - k)∧TgR w0 10 D T u Z wr∧TJ 10 S (B+2*(k:Int)) u∧Same Z w1 wr) (fun i _=>6 - (intOf i).toNat)
 case atStart=>exact ⟨0,t,S,by omega,rfl,HR.out.symm,H1.out,by simpa using HJ.out,fun _ _=>rfl⟩
 case round =>
  obtain ⟨k,u,S,hk,rfl,hR,hT,hJ,hS⟩:=hrel
  have HR2:=hid hR
  have HT:=hid hT
  have HJ2:=hid hJ
  have HSM:=hid hS
  clear hR hT hJ hS
  have R3:=hid ((HSM.out A ZA.out).trans R1.out)
  by_cases hlt:k<6
  ·obtain ⟨q0,q1,q2,q3,q4,q5,q6,q7,q8⟩:=cells9 R3.out
   have AK:=hid (task_any w0 wr 10 D T u Z S _ c HT.out HJ2.out (by omega) HS.out TT.out)
   have ST:=hid (show R=if (u.ask 10 c).2.what=0 then ((u.ask 10 c).1,(u.ask 10 c).2.data,(u.ask 10 c).2.tag,(u.ask 10 c).2.err) else (u.ask 10 c).1.askN 10 c (6 - (k+1)) from by
    rw [HR2.out,show 6 - k=(6 - (k+1))+1 by omega]
    rfl)
   obtain ⟨S',-,hj'⟩:=HJ2.out.ask (by omega) c
   have HJ':=hid (show TJ 10 S' (B+2*((k+1:Nat):Int)) (u.ask 10 c).1 from hj'.mono (by omega))
   obtain ⟨r,hr⟩:∃ r,u.ask 10 c=r:=⟨_,rfl⟩
   rw [hr] at AK ST HJ'
   clear hr hj'
   go_wp2_with fail
   refine AK.out.mono ?_
   rintro e w3 ⟨rfl,h3,s3⟩
   have H3:=hid h3
   have S3:=hid (HSM.out.trans s3)
   clear h3 s3 AK q0 q1 q2 q3 q4 q5 q6 q7 q8
   by_cases hw:r.2.what=0
   ·have E:=hid (ST.out.trans (if_pos hw))
    go_wp2
    exact bodyPost_ret (v:=.tuple #[.string r.2.data,.int .i64 r.2.tag,errV r.2.err]) (by simp [results,Tryz.results17,go_sem]) rfl (by rw [E.out]; exact ⟨rfl,H3.out.less ZY.out,SY1.out.trans (fun b hb=>S3.out b (ZY.out b hb))⟩)
   ·have E:=hid (ST.out.trans (if_neg hw))
    go_wp2
    go_roundw
    case rel=>exact ⟨k+1,r.1,S',by omega,by go_num,E.out,H3.out,HJ'.out,S3.out⟩
    case measure=>simp [intOf]; omega
  ·have hk6:k=6:=by omega
   subst hk6
   have E:=hid (show R=(u,⟨#[]⟩,0,7) from HR2.out)
   go_wp2
   exact bodyPost_ret (v:=.tuple #[.string ⟨#[]⟩,.int .i64 0,.iface 95 (.int .i64 7)]) (by simp [results,Tryz.results17,go_sem]) rfl (by rw [E.out]; exact ⟨rfl,HT.out.less ZY.out,SY1.out.trans (fun b hb=>HSM.out b (ZY.out b hb))⟩)
end
end Go.Proofs.YtajegiifabfcjaaGreatDoor
namespace Go.Proofs.YtajegiifabfcjaaGreatDoor
open Go.RowKit Go.Lib
section
variable {H:Type} {enc:TypeId × Value→H}
theorem returnsInHanded_laidShape {a:Assume} {C:Checked} {os:Os} {f:FuncId} {fn:Func} {s:ChangeSpec} {conds:List PathCond} {apart fresh handsOn again:Bool} {X:World→Array Value→Prop}
  (hX:∀ (w w':World) (args:Array Value),w.heap=w'.heap→X w args→X w' args)
  (own:ownKnob C.prog.godebug=none) (started:os.Started) (noInit:C.prog.inits.idxOf? f=none) (hfn:C.prog.funcs[f]?=some fn)
  (witness:∃ (w:World) (tape:Tape) (i:Input),w.os=os∧(w.forCall tape i).Shaped C.prog∧i.vars=[]∧Input.okWide C.prog (w.forCall tape i) .any w.heap.size f i ∧
   ((s.pre enc C.prog fn conds apart (w.forCall tape i).memory i.args∧X (w.forCall tape i).memory i.args)∧sizedMet enc C.prog fn (OpenSpec.ofChange s) apart (w.forCall tape i).memory i.args)∧a.holds C.prog (lone (Frame.enter C.prog f i.args .normal) [] (w.forCall tape i)))
  (contract:∀ (W:World) (base:Nat) (args:Array Value) (ds gs:List (DataW H)) (before:List MemPlace),
   (∀ (j:Nat) t v,fn.params[j]?=some t→args[j]?=some v→Value.okWide C.prog W .any base t v) →
   DataW.Whole enc C.prog fn.params.toList s.vars apart W args.toList ds gs before →
   X W args→W.ShapedOpen C.prog →
   Calls C.prog f args W fun e W'=>∃ v,e=.returned v∧s.post enc C.prog fn apart fresh handsOn again W args v W') :
  ReturnsInHanded a C os f .any (fun w args=>(s.pre enc C.prog fn conds apart w args∧X w args)∧sizedMet enc C.prog fn (OpenSpec.ofChange s) apart w args) (s.post enc C.prog fn apart fresh handsOn again):=by
 refine returnsInHanded_of_calls own started noInit witness ?_
 intro w tape i _ hsh _ hok hpre _
 obtain ⟨_,_,_,fn',hfn',_,_,_,_,hval⟩:=hok
 have e:fn'=fn:=Option.some.inj (hfn'.symm.trans hfn)
 subst e
 obtain ⟨⟨⟨ds,gs,before,hw,_⟩,hx⟩,_⟩:=hpre
 refine (contract (w.forCall tape i) w.heap.size i.args ds gs before hval (DataW.Whole.of_heap (w':=w.forCall tape i) (by rfl) hw) (hX _ _ _ (by rfl) hx) hsh).mono fun e W' ⟨v,he,hp⟩=>?_
 subst he
 exact ChangeSpec.post_blind hp
end
theorem iface_var {P:Program} {n nm:String} {d:DataW Unit} {r:List (String × DataW Unit)} {W:World} {g:Nat} {ti:TypeId} {ms:Array (String × TypeId)}
  (h:laidMet P ((n,.iface nm d) :: r) W) (hg:P.globalNamed n=some g) (ht:(P.globals[g]?).map (·.type)=some ti) (hi:P.underlying ti=some (.interface ms)) :
  ∃ u v,W.var? P n=some #[.iface u v]:=by
 obtain ⟨ps,⟨g0,t0,cs0,f0,p0,q0,hg0,ht0,hv0,hd0,_,e0⟩,_,hrows⟩:=h
 obtain rfl:=Option.some.inj (hg.symm.trans hg0)
 obtain rfl:=Option.some.inj (ht.symm.trans ht0)
 obtain ⟨_,u,v,hc,_⟩:=iface_of_trod hi hd0
 refine ⟨u,v,hv0.trans ?_⟩
 congr 1
 exact Array.toList_inj.1 hc
theorem shape_block {P:Program} {w:World} (h:w.ShapedOpen P) {g:Nat} {t:TypeId} {zero:Array Value} (hg:g<P.globals.size)
  (h0:((begin P (fun _ _=>0) default).world.heap[g]?).bind Obj.row?=some (zero,t)):g<w.heap.size∧∃ cs,w.heap[g]?=some (.cells cs t)∧cs.size=zero.size:=by
 obtain ⟨cs,hh,hs,_⟩:=h.1 g zero t hg h0
 exact ⟨(Array.getElem?_eq_some_iff.1 hh).1,cs,hh,hs⟩
theorem shape_low {P:Program} {w:World} (h:w.ShapedOpen P) (g:Nat) (hg:g<P.globals.size)
  (h0:(((begin P (fun _ _=>0) default).world.heap[g]?).bind Obj.row?).isSome=true):g<w.heap.size:=by
 obtain ⟨⟨zero,t⟩,hx⟩:=Option.isSome_iff_exists.1 h0
 exact (shape_block h hg hx).1
theorem int_var {P:Program} {w:World} {n:String} (h:w.ShapedOpen P) {g:Nat} {t:TypeId} {zero:Array Value} {k:IntKind} (hn:P.globalNamed n=some g) (hg:g<P.globals.size)
  (h0:((begin P (fun _ _=>0) default).world.heap[g]?).bind Obj.row?=some (zero,t)) (hz:zero.size=1)
  (hb:P.buildable t=true) (hc:P.cellTypes P.depth t=some [t]) (hu:P.underlying t=some (.int k)):∃ m,w.var? P n=some #[.int k m]:=by
 obtain ⟨m,hm⟩:=cell_of_shapedOpen_int h hg h0 hz hb hc hu
 obtain ⟨_,cs,hh,hs⟩:=shape_block h hg h0
 refine ⟨m,?_⟩
 unfold World.var?
 simp only [hn,Option.bind_some,hh]
 have h1:cs.size=1:=hs.trans hz
 have h2:cs[0]?=some (.int k m):=by simpa [World.cell?,hh] using hm
 congr 1
 apply Array.ext
 ·simp [h1]
 ·intro i hi1 hi2
  have:i=0:=by omega
  subst this
  have:=Array.getElem?_eq_some_iff.1 h2
  simp [this.2]
end Go.Proofs.YtajegiifabfcjaaGreatDoor
namespace Go.Proofs.YtajegiifabfcjaaGreatDoor
open Go.RowKit Go.Sort
section
variable (w0 w:World) (n D T:Nat) (t:Tg) (Y:Nat→Prop)
theorem tarm_any (p:Int) (h:TgR w0 n D T t Y w) :
  Calls Tryz.prog 38 #[.pointer (some ⟨D,0,none⟩),.int .i64 p] w fun e w'=>e=.returned (.tuple #[])∧TgR w0 n D T { t with k:={ t.k with d:={ t.k.d with fuse:=max p (-1) } } } Y w'∧Same Y w w':=by
 obtain ⟨X,m,ki,tb,lo,hy⟩:=h
 refine (armI n w0 w X D m.K t.k p ki).mono ?_
 rintro e w' ⟨rfl,ki',sm⟩
 exact ⟨rfl,⟨X,m,ki',(tb.same sm ki'.lt).setK _,lo,hy⟩,fun b hb=>sm b (hy b hb).1⟩
theorem trestart_any (keep:Int) (h:TgR w0 n D T t Y w) (ok:t.k.d.ok n) (hwl:t.k.d.wait.length≤1000) :
  Calls Tryz.prog 39 #[.pointer (some ⟨D,0,none⟩),.int .u64 keep] w fun e w'=>e=.returned (.tuple #[])∧TgR w0 n D T { t with k:={ t.k with d:=t.k.d.restart keep } } Y w'∧Same Y w w':=by
 obtain ⟨X,m,ki,tb,lo,hy⟩:=h
 refine (restartI n w0 w X D m.K t.k keep ki ok hwl).mono ?_
 rintro e w' ⟨rfl,ki',sm⟩
 exact ⟨rfl,⟨X,m,ki',(tb.same sm ki'.lt).setK _,lo,hy⟩,fun b hb=>sm b (hy b hb).1⟩
end
set_option maxRecDepth 100000 in
theorem tpnum_any (f:Int) (hf:0≤f∧f≤100) (w:World):Calls Tryz.prog 28 #[.iface 95 (.int .i64 f)] w fun e w'=>e=.returned (.int .i64 f)∧Below w.heap.size w w':=by
 have hta:=fun w=>assert_errno w (.int .i64 f)
 have q:IntKind.i64.wrap f=f:=IntWalk.i64_in _ (by omega)
 go_enter Tryz.func28,Tryz.ntmps28
 go_wp2
 go_ret
 exact ⟨rfl,Below.refl _ _⟩
theorem number_err (f:Int) (hf:0≤f∧f≤100) (w:World):Calls Tryz.prog 28 #[errV f] w fun e w'=>e=.returned (.int .i64 f)∧Below w.heap.size w w':=by
 by_cases h:f=0
 ·subst h
  rw [errV_nil]
  exact number_nil w
 ·rw [errV_some h]
  exact tpnum_any f hf w
theorem asked_err {t:Tg} {c:Cmd} {u:Tg} {a:Ans} (o:Asked t c u a):0≤a.err∧a.err≤100:=by
 have g:∀ f:Int,0≤f→f≤100→0≤(Ans.bad f).err∧(Ans.bad f).err≤100:=fun f h1 h2=>⟨h1,h2⟩
 cases o with
 | no=>exact g 4 (by omega) (by omega)
 | busy=>exact g 7 (by omega) (by omega)
 | read=>exact ⟨Int.le_refl 0,by show (0:Int)≤100; omega⟩
 | refused _ _ _ f hf=>rcases hf with ⟨-,rfl⟩ | ⟨-,-,rfl⟩ <;> exact g _ (by omega) (by omega)
 | full=>exact g 6 (by omega) (by omega)
 | write=>exact ⟨Int.le_refl 0,by show (0:Int)≤100; omega⟩
theorem six_err {n:Nat} {S:Cel→Prop} {B:Int} {t:Tg} (h:TI n S B t) {c:Cmd} (hf:cmdFault c=0) (ho:7≤c.op) {r:Tg × ByteArray × Int × Int} (hr:t.askN n c 6=r):0≤r.2.2.2∧r.2.2.2≤100:=by
 obtain ⟨u,a,o,e⟩:=asked_six h hf ho
 rw [hr] at e
 subst e
 exact asked_err o
section
variable {P:Program} {ops:Array Oper} {rest:List Oper} {o:Oper} {a:Act} {w:World} {Q:Exit→Act→World→Prop}
end
def cRd (who at':Int):Cmd:=⟨7,who,0,0,0,at',false,⟨#[]⟩,⟨#[]⟩⟩
theorem rd_fault {who at':Int} (hw:1≤who∧who≤4) (ha:0≤at'∧at'≤7):cmdFault (cRd who at')=0:=by
 have hp:cfP (cRd who at')=0:=(show cfP (cRd 1 0)=0 from by decide +kernel)
 show (if (7:Int)<1∨(9:Int)<7 then 2 else if who<1∨4<who then 1 else stage (decide ((7:Int)≤6)) 0 999 (stage (decide ((7:Int)=1∨(7:Int)=2∨(7:Int)=6)) 0 999 (stage (decide ((7:Int)≤7)) at' 7 (cfP (cRd who at')))))=0
 rw [hp,if_neg (by omega),if_neg (by omega)]
 unfold stage
 rw [if_neg (by simp),if_neg (by omega),if_neg (by simp),if_neg (by omega),if_neg (by simp),if_neg (by omega)]
end Go.Proofs.YtajegiifabfcjaaGreatDoor
namespace Go.Proofs.YtajegiifabfcjaaGreatDoor
open Go.RowKit
def Ups (g:Gp):Prop:=∀ i,i<3→g.u.getD i false=true
theorem ups_mem {g:Gp} {ep:Int} (h:QI g ep) (hu:Ups g):2≤(g.mem ep).length:=by
 obtain ⟨i,j,hij,hj,h1,h2⟩:=h.two
 have m1:g.isM ep i=true:=isM_iff.2 ⟨hu i (by omega),h1⟩
 have m2:g.isM ep j=true:=isM_iff.2 ⟨hu j hj,h2⟩
 unfold Gp.mem Gp.memTo
 rw [List.length_map]
 have key:∀ f:Nat→Bool,f i=true→f j=true→2≤((List.range 3).filter f).length:=by
  intro f h1 h2
  have e:List.range 3=[0,1,2]:=rfl
  rw [e]
  have:(i=0∧j=1)∨(i=0∧j=2)∨(i=1∧j=2):=by omega
  rcases this with ⟨rfl,rfl⟩ | ⟨rfl,rfl⟩ | ⟨rfl,rfl⟩ <;> simp only [List.filter_cons,h1,h2,List.filter_nil] <;> (repeat' split) <;> simp_all
 exact key _ m1 m2
theorem ups_fence {g:Gp} (ep:Int) (hu:Ups g):Ups (g.fence ep):=fun i hi=>by rw [u_fence]; exact hu i hi
section
variable {n:Nat}
theorem fall_new {d:Dk} {num ep:Int} {s:St} {g:Gp} (hk:KD n d num ep s) (hf:d.fuse=-1) (hu:Ups g) (hq:QI g ep∨QI g (ep - 1)) (he:ep<1000000) (hn:num+2<1000000000000000) :
  (Tg.new n ⟨d,num,ep,s⟩ g).2=0∧(Tg.new n ⟨d,num,ep,s⟩ g).1.k.s=s:=by
 obtain ⟨g1,hg1⟩:∃ g1,g.fence ep=g1:=⟨_,rfl⟩
 have q1:QI g1 ep:=by
  rcases hq with hq | hq
  ·rw [← hg1,hq.fence]; exact hq
  ·have:=(fence_next hq (ups_mem hq hu)).1
   rw [show ep - 1+1=ep by omega,hg1] at this
   exact this
 have hu1:Ups g1:=hg1▸ups_fence ep hu
 have e:(Tg.start ⟨d,num,ep,s⟩ g).next n s=(Tg.start ⟨d,num,ep,s⟩ g1).next n s:=by
  have e1:(Tg.start ⟨d,num,ep,s⟩ g).ready=Tg.start ⟨d,num,ep,s⟩ g1:=by
   unfold Tg.ready Tg.start
   dsimp only
   rw [hg1]
  have e2:(Tg.start ⟨d,num,ep,s⟩ g1).ready=Tg.start ⟨d,num,ep,s⟩ g1:=QI.ready (t:=Tg.start ⟨d,num,ep,s⟩ g1) q1
  have e3:(Tg.start ⟨d,num,ep,s⟩ g).isReady=(Tg.start ⟨d,num,ep,s⟩ g1).isReady:=by
   unfold Tg.isReady Tg.start
   dsimp only
   rw [hg1,q1.fence]
  unfold Tg.next
  rw [e1,e2,e3]
  rfl
 obtain ⟨n1,-,-⟩:=next_core (n:=n) (t:=Tg.start ⟨d,num,ep,s⟩ g1) hk hf q1 hn hk.place.k.g
 obtain ⟨a1,d',a2,-⟩:=n1 (ups_mem q1 hu1) (by show ¬ ep=1000000; omega)
 unfold Tg.new
 rw [e]
 exact ⟨a1,by rw [a2]⟩
structure FallF (n:Nat) (t:Tg) (s':St) (keep:Int) (u:Tg) (f:Int):Prop where
 ok:u.k.d.ok n
 wl:u.k.d.wait.length≤900
 sz:Sz u.k.d
 gok:u.g.ok
 kd:∃ num ep st,KD n (u.k.d.restart keep) num ep st∧num≤t.k.num+2∧ep≤t.k.ep+1∧Ups u.g∧(QI u.g ep∨QI u.g (ep - 1))∧(f=0→st=s')∧(st=t.k.s∨st=s')
theorem fall_order {t:Tg} (hkg:KG n t.k) (hq:QI t.g t.k.ep) (hu:Ups t.g) (hnum:t.k.num+2<1000000000000000) (hep:t.k.ep+1<1000000) {c:Cmd} (hc:CmdOk c) (keep:Int) :
  ((pdo t.k.s c).2.2≠0→t.order n c=(t,(pdo t.k.s c).2.2)) ∧
  ((pdo t.k.s c).2.2=0→FallF n t (pdo t.k.s c).1 keep (t.order n c).1 (t.order n c).2):=by
 have hg:=hkg.kd.place.k.g
 have hwait:=hkg.kd.wait
 have he:=hkg.kd.place.k.e0
 refine ⟨fun h0=>by unfold Tg.order; rw [if_pos h0],fun h0=>?_⟩
 have hg':=pdo_good hg hc h0
 unfold Tg.order
 rw [if_neg (by simp [h0])]
 have one:∀ (v:Tg) (ep:Int) (s':St),KG n v.k→v.k.num+1<1000000000000000→1≤ep∧ep≤1000000→Good s' →
   ((v.keep n ep s').2=0∧KG n (v.keep n ep s').1.k∧(v.keep n ep s').1.k.num=v.k.num+1∧(v.keep n ep s').1.k.ep=ep∧(v.keep n ep s').1.k.s=s'∧(v.keep n ep s').1.g=v.g) ∨
   ((v.keep n ep s').2=10∧Fell n (v.keep n ep s').1.k.d v.k.num v.k.ep v.k.s ep s'∧Sz (v.keep n ep s').1.k.d∧(v.keep n ep s').1.k.d.wait.length≤3∧(v.keep n ep s').1.g=v.g):=by
  intro v ep s' hv hvn hve hvs
  rcases keep_law hv (by omega) hve ((good_iff _).2 hvs) with ⟨a,b,c,d,e⟩ | ⟨a,b,c,d⟩
  ·exact .inl ⟨a,b,c,d,e,rfl⟩
  ·exact .inr ⟨a,b,c,d,rfl⟩
 have live:∀ (v:Tg) (st:St) (f:Int),KG n v.k→v.k.num≤t.k.num+2→v.k.ep≤t.k.ep+1→Ups v.g→(QI v.g v.k.ep)→(f=0→v.k.s=st)→(v.k.s=t.k.s∨v.k.s=st)→FallF n t st keep v f:=by
  intro v st f hv h1 h2 h3 h4 h5 h6
  exact ⟨hv.kd.ok,by rw [hv.kd.wait]; simp,hv.sz,h4.ok,v.k.num,v.k.ep,v.k.s,hv.kd.restart keep,h1,h2,h3,.inl h4,h5,h6⟩
 dsimp only
 by_cases hl:lessB pmay t.k.s (pdo t.k.s c).1=true
 ·rw [if_pos hl]
  generalize (pdo t.k.s c).1=s' at hg' hl ⊢
  have hrd:t.ready=t:=hq.ready
  have hir:t.isReady=true:=by rw [hq.isReady]; exact decide_eq_true (ups_mem hq hu)
  have hn:t.next n s'=if (t.keep n (t.k.ep+1) t.k.s).2≠0 then t.keep n (t.k.ep+1) t.k.s else
    if (t.keep n (t.k.ep+1) t.k.s).1.fresh.isReady=false then ((t.keep n (t.k.ep+1) t.k.s).1.fresh.ready,7) else (t.keep n (t.k.ep+1) t.k.s).1.fresh.ready.keep n (t.keep n (t.k.ep+1) t.k.s).1.fresh.k.ep s':=by
   unfold Tg.next
   rw [hir,if_neg (by decide),if_neg (by omega),hrd]
  rcases one t (t.k.ep+1) t.k.s hkg (by omega) (by omega) hg with ⟨a1,a2,a3,a4,a5,a6⟩ | ⟨a1,a2,a3,a4,a5⟩
  ·rw [if_neg (by simp [a1])] at hn
   obtain ⟨v,hv⟩:∃ v,(t.keep n (t.k.ep+1) t.k.s).1=v:=⟨_,rfl⟩
   rw [hv] at hn a2 a3 a4 a5 a6
   have fq:=fence_next hq (ups_mem hq hu)
   obtain ⟨v2,hv2⟩:∃ v2,v.fresh.ready=v2:=⟨_,rfl⟩
   have k2:v2.k=v.k∧v2.g=t.g.fence (t.k.ep+1):=by
    rw [← hv2]
    unfold Tg.ready Tg.fresh
    dsimp only
    exact ⟨rfl,by rw [a6,a4]⟩
   have ir2:v.fresh.isReady=true:=by
    unfold Tg.isReady Tg.fresh
    dsimp only
    rw [a6,a4]
    exact decide_eq_true (by rw [fq.2.1]; exact ups_mem hq hu)
   rw [ir2,if_neg (by decide),hv2,show v.fresh.k.ep=t.k.ep+1 from a4] at hn
   have hq2:QI v2.g (t.k.ep+1):=by rw [k2.2]; exact fq.1
   have hu2:Ups v2.g:=by rw [k2.2]; exact ups_fence _ hu
   rcases one v2 (t.k.ep+1) s' (by rw [k2.1]; exact a2) (by rw [k2.1,a3]; omega) (by omega) hg' with ⟨b1,b2,b3,b4,b5,b6⟩ | ⟨b1,b2,b3,b4,b5⟩
   ·rw [hn,b1]
    rw [if_neg (by simp)]
    refine live _ _ _ b2 (by show (v2.keep n (t.k.ep+1) s').1.k.num≤_; rw [b3,k2.1,a3]; omega) (by show (v2.keep n (t.k.ep+1) s').1.k.ep≤_; rw [b4]; omega) (by show Ups (v2.keep n (t.k.ep+1) s').1.g; rw [b6]; exact hu2) (by show QI (v2.keep n (t.k.ep+1) s').1.g (v2.keep n (t.k.ep+1) s').1.k.ep; rw [b6,b4]; exact hq2) (fun _=>b5) (.inr b5)
   ·rw [hn,b1,if_pos (by decide)]
    rw [k2.1,a3,a4,a5] at b2
    refine ⟨b2.1,by omega,b3,by rw [b5]; exact hq2.ok,?_⟩
    rcases b2.2 keep with q | q
    ·exact ⟨_,_,_,q,by omega,by omega,by rw [b5]; exact hu2,.inl (by rw [b5]; exact hq2),(fun h=>absurd (b1.symm.trans h) (by decide)),.inl rfl⟩
    ·exact ⟨_,_,_,q,by omega,by omega,by rw [b5]; exact hu2,.inl (by rw [b5]; exact hq2),fun _=>rfl,.inr rfl⟩
  ·rw [if_pos (by rw [a1]; decide)] at hn
   rw [hn,a1,if_pos (by decide)]
   refine ⟨a2.1,by omega,a3,by rw [a5]; exact hq.ok,?_⟩
   rcases a2.2 keep with q | q
   ·exact ⟨_,_,_,q,by omega,by omega,by rw [a5]; exact hu,.inl (by rw [a5]; exact hq),(fun h=>absurd (a1.symm.trans h) (by decide)),.inl rfl⟩
   ·exact ⟨_,_,_,q,by omega,by omega,by rw [a5]; exact hu,.inr (by rw [a5,show t.k.ep+1 - 1=t.k.ep by omega]; exact hq),(fun h=>absurd (a1.symm.trans h) (by decide)),.inl rfl⟩
 ·rw [if_neg hl]
  generalize (pdo t.k.s c).1=s' at hg' hl ⊢
  rcases one t t.k.ep s' hkg (by omega) (by omega) hg' with ⟨b1,b2,b3,b4,b5,b6⟩ | ⟨b1,b2,b3,b4,b5⟩
  ·rw [b1,if_neg (by simp)]
   refine live _ _ _ b2 (by show (t.keep n t.k.ep s').1.k.num≤_; rw [b3]; omega) (by show (t.keep n t.k.ep s').1.k.ep≤_; rw [b4]; omega) (by show Ups (t.keep n t.k.ep s').1.g; rw [b6]; exact hu) (by show QI (t.keep n t.k.ep s').1.g (t.keep n t.k.ep s').1.k.ep; rw [b6,b4]; exact hq) (fun _=>b5) (.inr b5)
  ·rw [b1,if_pos (by decide)]
   refine ⟨b2.1,by omega,b3,by rw [b5]; exact hq.ok,?_⟩
   rcases b2.2 keep with q | q
   ·exact ⟨_,_,_,q,by omega,by omega,by rw [b5]; exact hu,.inl (by rw [b5]; exact hq),(fun h=>absurd (b1.symm.trans h) (by decide)),.inl rfl⟩
   ·exact ⟨_,_,_,q,by omega,by omega,by rw [b5]; exact hu,.inl (by rw [b5]; exact hq),fun _=>rfl,.inr rfl⟩
end
def Tg.armed (t:Tg) (f:Int):Tg:={ t with k:={ t.k with d:={ t.k.d with fuse:=f } } }
theorem pacts_r (s:St) (c:Cmd):0≤(pacts s c).2.2∧(pacts s c).2.2≤100:=by
 unfold pacts
 split
 ·exact ⟨Int.le_refl _,by show (0:Int)≤100; omega⟩
 split
 ·show 0≤(preserve s c).2∧(preserve s c).2≤100
  unfold preserve; (repeat' split) <;> (dsimp only; omega)
 split
 ·unfold prelease; (repeat' split) <;> (dsimp only; omega)
 split
 ·exact ⟨Int.le_refl _,by show (0:Int)≤100; omega⟩
 split
 ·unfold ppreempt; dsimp only; (repeat' split) <;> (dsimp only; omega)
 ·exact ⟨Int.le_refl _,by show (0:Int)≤100; omega⟩
theorem pdo_r (s:St) (c:Cmd):0≤(pdo s c).2.2∧(pdo s c).2.2≤100:=by
 have:=pacts_r s c
 unfold pdo
 split
 ·dsimp only; omega
 split
 ·dsimp only; omega
 split
 ·exact this
 split <;> (dsimp only; omega)
theorem ask_ord {n:Nat} {t:Tg} {c:Cmd} (hf:cmdFault c=0) (hb:t.b.get c.who=[]) (ho:c.op≤6):t.ask n c=((t.order n c).1,⟨⟨#[]⟩,0,0,(t.order n c).2⟩):=by
 unfold Tg.ask
 rw [if_neg (by simp [hf]),hb,if_neg (by simp [takeN]),if_pos ho]
 rfl
structure FallR (t:Tg) (c:Cmd) (keep:Int) (u:Tg) (f:Int):Prop where
 ok:u.k.d.ok 10
 wl:u.k.d.wait.length≤1000
 gok:u.g.ok
 new:∃ num ep st,KD 10 (u.k.d.restart keep) num ep st∧Sz (u.k.d.restart keep)∧num+2<1000000000000000∧(Tg.new 10 ⟨u.k.d.restart keep,num,ep,st⟩ u.g).2=0∧(Tg.new 10 ⟨u.k.d.restart keep,num,ep,st⟩ u.g).1.k.s=st ∧
  ((pdo t.k.s c).2.2≠0→f=(pdo t.k.s c).2.2∧st=t.k.s)∧((pdo t.k.s c).2.2=0→(f=0→st=(pdo t.k.s c).1)∧(st=t.k.s∨st=(pdo t.k.s c).1))
theorem TJ.kgArm {S:Cel→Prop} {B:Int} {t:Tg} (h:TJ 10 S B t) {p:Int} (h0:-1≤p) (h1:p≤60):KG 10 (t.armed p).k:=⟨h.ti.kd.arm h0 (by omega),⟨h.sz.kept,h.sz.now,h.sz.wait⟩⟩
theorem fall_law {S:Cel→Prop} {B:Int} {t:Tg} (h:TJ 10 S B t) (hB:B+4<1000000) (hu:Ups t.g) {c:Cmd} (hf:cmdFault c=0) (ho:c.op≤6) (hb:t.b.get c.who=[]) {p:Int} (h0:-1≤p) (h1:p≤60) (keep:Int) :
  FallR t c keep ((t.armed p).ask 10 c).1 ((t.armed p).ask 10 c).2.err:=by
 have hkg:=h.kgArm h0 h1
 have hkb:=h.ti.kb
 have heb:=h.ti.eb
 obtain ⟨hc,-⟩:=fault_zero hf
 have e:(t.armed p).ask 10 c=(((t.armed p).order 10 c).1,⟨⟨#[]⟩,0,0,((t.armed p).order 10 c).2⟩):=ask_ord hf hb ho
 rw [e]
 obtain ⟨l1,l2⟩:=fall_order (t:=t.armed p) hkg h.ti.qi hu (by show t.k.num+2<1000000000000000; omega) (by show t.k.ep+1<1000000; omega) hc keep
 by_cases hz:(pdo t.k.s c).2.2=0
 ·have F:=l2 hz
  obtain ⟨num,ep,st,k1,k2,k3,k4,k5,k6,k7⟩:=F.kd
  have k2':num≤t.k.num+2:=k2
  have k3':ep≤t.k.ep+1:=k3
  obtain ⟨n1,n2⟩:=fall_new k1 rfl k4 k5 (by omega) (by omega)
  exact ⟨F.ok,by have:=F.wl; show ((t.armed p).order 10 c).1.k.d.wait.length≤1000; omega,F.gok,num,ep,st,k1,F.sz.restart keep,by omega,n1,n2,fun q=>absurd hz q,fun _=>⟨k6,k7⟩⟩
 ·have E:(t.armed p).order 10 c=(t.armed p,(pdo t.k.s c).2.2):=l1 hz
  rw [E]
  have kr:=hkg.kd.restart keep
  obtain ⟨n1,n2⟩:=fall_new kr rfl hu (.inl h.ti.qi) (by show t.k.ep<1000000; omega) (by show t.k.num+2<1000000000000000; omega)
  exact ⟨hkg.kd.ok,by show (t.armed p).k.d.wait.length≤1000; rw [hkg.kd.wait]; simp,h.ti.qi.ok,t.k.num,t.k.ep,t.k.s,kr,hkg.sz.restart keep,by omega,n1,n2,fun _=>⟨rfl,rfl⟩,fun q=>absurd q hz⟩
end Go.Proofs.YtajegiifabfcjaaGreatDoor
