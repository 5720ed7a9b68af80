/-
  TopDone: the walk. (Printed in part by gen_done.py.)
-/
import Derived.Test.YtajegiifabfcjaaGreatDoorTTgK
import Derived.Test.YtajegiifabfcjaaGreatDoorTTgDn
import Derived.Test.YtajegiifabfcjaaGreatDoorTDoneP
namespace Go.Proofs.YtajegiifabfcjaaGreatDoor
open Go.RowKit Go.Sort
theorem TJ.ofSix {S S':Cel→Prop} {B B':Int} {t:Tg} (h:TJ 10 S B t) {c:Cmd} (hf:cmdFault c=0) {r:Tg × ByteArray × Int × Int} (hr:t.askN 10 c 6=r) (h':TI 10 S' B' r.1):TJ 10 S' B' r.1 :=
 ⟨h',by rw [← hr,askN_six h.ti hf]; exact sz_ask (t:=t.deaf c.who) h.sz c⟩
def actZd:Array Value:=#[.string ⟨#[]⟩,.int .i64 0,.int .i64 0,.string ⟨#[]⟩,.int .u64 0,.int .i64 0,.slice none 0 0,.int .i64 0,.int .i64 0,.bool false,.int .i64 0,.int .i64 0,.int .i64 0,.int .i64 0,.int .i64 0,.int .i64 0,.bool false,.string ⟨#[]⟩,.string ⟨#[]⟩]
def SkipR (k:Nat) (x:Ac) (v:Value):Prop:=∃ B:Bool,v=.bool B∧(B=false→x.kind=sAsk→Elsewhere k x.cm)
theorem SkipR.mk {k:Nat} {x:Ac} (B:Bool) (h:B=false→x.kind=sAsk→Elsewhere k x.cm):SkipR k x (.bool B):=⟨B,rfl,h⟩
def FreshR (x:Ac) (v:Value):Prop:=∃ B:Bool,v=.bool B∧(B=true ↔ x.Fresh)
theorem FreshR.yes {x:Ac} (h:x.Fresh):FreshR x (.bool true):=⟨true,rfl,fun _=>h,fun _=>rfl⟩
theorem FreshR.no {x:Ac} (h:¬ x.Fresh):FreshR x (.bool false):=⟨false,rfl,⟨fun e=>(by cases e),fun e=>absurd e h⟩⟩
def DnR (k:Nat) (cl:Cel) (tag:Int) (t:Tg) (v:Value):Prop:=∃ B:Bool,v=.bool B∧(B=false→DPre k cl tag t)∧(B=true→DPost k cl t)
theorem DnR.mk {k:Nat} {cl:Cel} {tag:Int} {t:Tg} (B:Bool) (h1:B=false→DPre k cl tag t) (h2:B=true→DPost k cl t):DnR k cl tag t (.bool B):=⟨B,rfl,h1,h2⟩
set_option maxRecDepth 100000 in
set_option maxHeartbeats 40000000 in
theorem topdone_walk (l:List Ac) (a:Option Addr) (cap:Nat) (more:List Ac) (am:Option Addr) (capm:Nat) (i:Int) (data:ByteArray) (w:World) (hl:l.length≤maxLen) (hr:ActsAt w a l) (hlm:more.length≤maxLen) (hrm:ActsAt w am more) (hd:data.size≤maxLen) (tt:Tabs w) :
  Calls Tryz.prog 6 #[.slice a l.length cap,.slice am more.length capm,.int .i64 i,.string data] w fun e w'=>e=.returned (.bool true)∧Below w.heap.size w w':=by
 have HRM:=Lib.hid hrm
 have LAM:=Lib.hid (fun w' (b:RowKit.Below w.heap.size w w')=>lightacts_any more am capm 60 w' hlm (hrm.below b))
 have HDS:=Lib.hid (show data.size≤9223372036854775807 from by unfold maxLen at hd; omega)
 have HLM:=Lib.hid (show more.length≤9223372036854775807 from by unfold maxLen at hlm; omega)
 clear hrm hlm hd
 have TT:=Lib.hid tt
 have WK:=Lib.hid (works_any w tt)
 have PLAYED:=Lib.hid (fun w' (b:RowKit.Below w.heap.size w w')=>played_any l a cap w' hl (hr.below b) (TT.out.on b))
 clear hr tt
 go_enter Tryz.func6,Tryz.ntmps6
 go_wp2_with fail
 refine WK.out.mono ?_
 rintro e w2 ⟨rfl,b2⟩
 have B2:=Lib.hid b2
 have PL:=Lib.hid (PLAYED.out w2 b2)
 clear b2 WK PLAYED
 go_wp2_with fail
 refine PL.out.mono ?_
 rintro e w3 (⟨rfl,b3⟩ | ⟨D,T,t,S,rfl,h3,j3⟩)
 ·have B3:=Lib.hid (show RowKit.Below w.heap.size w w3 from B2.out.trans (b3.mono B2.out.size))
  clear b3 PL
  go_wp2
  go_ret
  exact ⟨rfl,B3.out⟩
 have H3:=Lib.hid h3
 have J3:=Lib.hid j3
 have BW3:=Lib.hid (show RowKit.Below w.heap.size w w3 from B2.out.trans (h3.below.mono B2.out.size))
 clear h3 j3 PL
 have LA:=Lib.hid (LAM.out w3 BW3.out)
 clear LAM
 go_wp2_with fail
 refine LA.out.mono ?_
 rintro e w4 ⟨lb,rfl,hlb,b4⟩
 have B4:=Lib.hid b4
 have BW4:=Lib.hid (show RowKit.Below w.heap.size w w4 from BW3.out.trans (b4.mono BW3.out.size))
 clear b4 LA BW3
 cases lb
 ·clear hlb
  go_wp2
  go_ret
  exact ⟨rfl,BW4.out⟩
 have HL60:=Lib.hid (hlb rfl).1
 clear hlb
 obtain ⟨c,hc⟩:∃ c:Cmd,c=⟨8,1,0,0,0,i,false,data,⟨#[]⟩⟩:=⟨_,rfl⟩
 obtain ⟨w5,hw5⟩:∃ w5,w5=w4.alloc (.cells #[.int .i64 8,.int .i64 1,.int .i64 0,.int .i64 0,.int .i64 0,.int .i64 i,.bool false,.string data,.string ⟨#[]⟩] 37):=⟨_,rfl⟩
 have B5:=Lib.hid (show RowKit.Below w3.heap.size w3 w5 from B4.out.trans ((hw5▸bal w4 _:RowKit.Below w4.heap.size w4 w5).mono B4.out.size))
 have R5:=Lib.hid (show w5.heap[w4.heap.size]?=some (.cells #[.int .i64 c.op,.int .i64 c.who,.int .i64 c.key,.int .i64 c.new,.int .i64 c.typ,.int .i64 c.at',.bool c.stays,.string c.data,.string c.want] 37 (0,0)) from by rw [hc]; exact hw5▸heap_alloc_new w4 _)
 have C0:=Lib.hid (show c.op=8∧c.at'=i∧c.data=data from by rw [hc]; exact ⟨rfl,rfl,rfl⟩)
 have HS:=Lib.hid (show c.data.size≤9223372036854775807∧c.want.size≤9223372036854775807 from by rw [hc]; exact ⟨HDS.out,by show 0≤9223372036854775807; omega⟩)
 go_upto_region 8 with fail
 rw [← hw5]
 obtain ⟨A,hA⟩:∃ A,w4.heap.size=A:=⟨_,rfl⟩
 rw [hA] at R5 ⊢
 clear hw5 hA hc HDS
 have CK:=Lib.hid (ccheck_any c w5 HS.out)
 obtain ⟨q0,q1,q2,q3,q4,q5,q6,q7,q8⟩:=cells9 R5.out
 go_wp2_with fail
 refine CK.out.mono ?_
 rintro e w6 ⟨rfl,b6⟩
 have B6:=Lib.hid (show RowKit.Below w3.heap.size w3 w6 from B5.out.trans (b6.mono B5.out.size))
 have R6:=Lib.hid ((b6.block A (Array.getElem?_eq_some_iff.1 R5.out).1).trans R5.out)
 have H6:=Lib.hid (H3.out.over B6.out)
 have BW6:=Lib.hid (show RowKit.Below w.heap.size w w6 from B2.out.trans (H6.out.below.mono B2.out.size))
 clear b6 CK q0 q1 q2 q3 q4 q5 q6 q7 q8 R5 B5 B4 BW4
 by_cases hf:cmdFault c=0
 case neg =>
  rw [errV_some hf]
  clear hf
  go_wp2
  go_ret
  exact ⟨rfl,BW6.out⟩
 rw [hf,errV_nil]
 have HF:=Lib.hid hf
 have hat:=(fault_zero hf).2.1 (by have:=C0.out.1; omega)
 rw [C0.out.2.1] at hat
 obtain ⟨k,hki⟩:∃ k:Nat,i=(k:Int):=⟨i.toNat,by omega⟩
 have HK8:=Lib.hid (show k<8 from by omega)
 have CAT:=Lib.hid (show c.at'=(k:Int) from C0.out.2.1.trans hki)
 subst hki
 clear hf hat
 have ASK:=Lib.hid (tpask_any w2 w6 D T t _ S _ c H6.out J3.out (by omega) HS.out (TT.out.on B2.out))
 obtain ⟨r,hr⟩:∃ r,t.askN 10 c 6=r:=⟨_,rfl⟩
 have LAW:=Lib.hid (fun he=>pre_start J3.out.ti HF.out C0.out.1 CAT.out hr he)
 have OFS:=Lib.hid (fun S' B' (h':TI 10 S' B' r.1)=>J3.out.ofSix HF.out hr h')
 rw [hr] at ASK
 clear hr
 obtain ⟨q0,q1,q2,q3,q4,q5,q6,q7,q8⟩:=cells9 R6.out
 go_wp2_with fail
 refine ASK.out.mono ?_
 rintro e w7 ⟨rfl,h7,-⟩
 dsimp only
 have H7:=Lib.hid h7
 clear h7 ASK q0 q1 q2 q3 q4 q5 q6 q7 q8 R6 H6 B6 BW6
 have BW7:=Lib.hid (show RowKit.Below w.heap.size w w7 from B2.out.trans (H7.out.below.mono B2.out.size))
 obtain ⟨u,hu⟩:∃ u,r.1=u:=⟨_,rfl⟩
 obtain ⟨tag,htag⟩:∃ g,r.2.2.1=g:=⟨_,rfl⟩
 obtain ⟨f,hff⟩:∃ f,r.2.2.2=f:=⟨_,rfl⟩
 rw [hu] at H7 LAW OFS
 rw [htag] at LAW ⊢
 rw [hff] at LAW ⊢
 clear hu htag hff H3
 by_cases hf0:f=0
 case neg =>
  rw [errV_some hf0]
  clear hf0
  go_wp2
  go_ret
  exact ⟨rfl,BW7.out⟩
 obtain ⟨S1,ti1,cl,hcl,hpre⟩:=LAW.out hf0
 have J7:=Lib.hid (OFS.out _ _ ti1)
 have PRE:=Lib.hid hpre
 have CLD:=Lib.hid (show cl.d=data from hcl.trans C0.out.2.2)
 rw [hf0,errV_nil]
 clear hf0 ti1 hcl hpre LAW OFS J3
 have DN:=Lib.hid (tdone_any w2 w7 10 D T u _ tag H7.out)
 rw [decide_eq_false PRE.out.nd] at DN
 go_wp2_with fail
 refine DN.out.mono ?_
 rintro e w7 ⟨rfl,rfl⟩
 clear DN
 go_wp2
 go_loopw [11,16,17] (fun v d i wr=>∃ (j:Nat) (T:Nat) (t:Tg) (S:Cel→Prop),j≤more.length∧v=.pointer (some ⟨T,0,none⟩)∧DnR k cl tag t d∧i=.int .i64 j∧TgR w2 10 D T t (fun _=>False) wr∧TJ 10 S (201+2*(j:Int)) t) (fun _ _ i _=>more.length - (intOf i).toNat)
 case atStart=>exact ⟨0,T,u,S1,by omega,rfl,DnR.mk false (fun _=>PRE.out) (fun e=>by cases e),rfl,H7.out,by simpa using J7.out⟩
 case round =>
 obtain ⟨j,T,t,S,hj,rfl,⟨dn,rfl,hd1,hd2⟩,rfl,hT,hJ⟩:=hrel
 have HT:=Lib.hid hT
 have HJ:=Lib.hid hJ
 have HD1:=Lib.hid hd1
 have HD2:=Lib.hid hd2
 clear hT hJ hd1 hd2 H7 J7 PRE
 have BR:=Lib.hid (show RowKit.Below w.heap.size w wr from B2.out.trans (HT.out.below.mono B2.out.size))
 have h60:=HL60.out
 have hlm:=HLM.out
 by_cases hlt:j<more.length
 case neg =>
  have JT:=Lib.hid (show TJ 10 S 330 t from HJ.out.mono (by omega))
  clear HJ h60 hlm
  cases dn
  ·go_wp2
   go_ret
   exact ⟨rfl,BR.out⟩
  have DP:=Lib.hid (HD2.out rfl)
  clear HD1 HD2
  obtain ⟨wo,rfl⟩:∃ wo:World,wo=wr:=⟨_,rfl⟩
  go_wp2
  go_loopw [20] (fun i wr=>∃ (m:Nat) (v:Tg),m≤4∧i=.int .i64 ((m:Int)+1)∧TgR w2 10 D T v (fun _=>False) wr∧TJ 10 S 330 v∧DPost k cl v) (fun i _=>5 - (intOf i).toNat)
  case atStart=>exact ⟨0,t,by omega,rfl,HT.out,JT.out,DP.out⟩
  case round =>
  obtain ⟨m,v,hm,rfl,hT,hJ,hP⟩:=hrel
  have HV:=Lib.hid hT
  have JV:=Lib.hid hJ
  have PV:=Lib.hid hP
  clear hT hJ hP
  have BV:=Lib.hid (show RowKit.Below w.heap.size w wr from B2.out.trans (HV.out.below.mono B2.out.size))
  by_cases hm4:m<4
  case neg =>
   obtain rfl:m=4:=by omega
   go_wp2
   go_ret
   exact ⟨rfl,BV.out⟩
  have hm4':(m:Int)+1≤4:=by omega
  have CF:=Lib.hid (rd_fault (who:=(m:Int)+1) (at':=(k:Int)) (by omega) (by have:=HK8.out; omega))
  have ASK:=Lib.hid (tpask_any w2 wr D T v _ S _ (cRd ((m:Int)+1) (k:Int)) HV.out JV.out (by omega) ⟨by show 0≤9223372036854775807; omega,by show 0≤9223372036854775807; omega⟩ (TT.out.on B2.out))
  obtain ⟨r,hr⟩:∃ r,v.askN 10 (cRd ((m:Int)+1) (k:Int)) 6=r:=⟨_,rfl⟩
  obtain ⟨ti2,dp2,hk2,hdat,herr⟩:=post_read JV.out.ti HK8.out PV.out CF.out rfl rfl hr
  have J2:=Lib.hid (JV.out.ofSix CF.out hr ti2)
  have P2:=Lib.hid dp2
  have HDAT:=Lib.hid hdat
  have HERR:=Lib.hid herr
  have HKK:=Lib.hid hk2
  rw [hr] at ASK
  clear hr ti2 dp2 hk2 hdat herr
  have qm:IntKind.i64.wrap (((m:Int)+1)+1)=((m+1:Nat):Int)+1:=by rw [IntWalk.i64_in _ (by omega)]; omega
  go_wp2_with fail
  refine ASK.out.mono ?_
  rintro e w8 ⟨rfl,h8,-⟩
  dsimp only
  have H8:=Lib.hid h8
  clear h8 ASK HV
  obtain ⟨z,hz⟩:∃ u,r.1=u:=⟨_,rfl⟩
  obtain ⟨s,hs⟩:∃ s,r.2.1=s:=⟨_,rfl⟩
  obtain ⟨f,hff⟩:∃ f,r.2.2.2=f:=⟨_,rfl⟩
  rw [hz] at H8 J2 P2 HKK
  rw [hs] at HDAT ⊢
  rw [hff] at HDAT HERR ⊢
  clear hz hs hff
  by_cases hf0:f=0
  ·have hsd:(s.toList == data.toList)=true:=by
    rw [HDAT.out hf0,CLD.out]
    simp
   rw [hf0,errV_nil]
   clear hf0
   go_wp2
   go_roundw
   case rel=>exact ⟨m+1,z,by omega,by go_num,H8.out,J2.out,P2.out⟩
   case measure=>simp [intOf]; omega
  rcases HERR.out.resolve_left hf0 with hf7 | ⟨hf4,hpm⟩
  ·rw [hf7,errV_some (by omega)]
   have NUM:=Lib.hid (tpnum_any 7 (by omega) w8)
   clear hf7 hf0
   go_wp2_with fail
   refine NUM.out.mono ?_
   rintro e w9 ⟨rfl,b9⟩
   have H9:=Lib.hid (H8.out.over b9)
   clear b9
   go_wp2
   go_roundw
   case rel=>exact ⟨m+1,z,by omega,by go_num,H9.out,J2.out,P2.out⟩
   case measure=>simp [intOf]; omega
  ·rw [hf4,errV_some (by omega)]
   have NUM:=Lib.hid (tpnum_any 4 (by omega) w8)
   have PM:=Lib.hid (show pmay z.k.s ((m:Int)+1) false=false from by rw [HKK.out]; exact hpm)
   have RL:=Lib.hid (show z.k.s.regs.length≤1000 from by have:=J2.out.ti.good.regs_len; omega)
   clear hf4 hf0 hpm
   go_wp2_with fail
   refine NUM.out.mono ?_
   rintro e w9 ⟨rfl,b9⟩
   have H9:=Lib.hid (H8.out.over b9)
   have STA:=Lib.hid (tstate_any w2 w9 10 D T z _ H9.out RL.out)
   clear b9
   go_wp2_with fail
   refine STA.out.mono ?_
   rintro e w10 ⟨a10,c10,rfl,hs10,b10,-⟩
   have H10:=Lib.hid (H9.out.over b10)
   have MAY:=Lib.hid (may_any z.k.s a10 c10 ((m:Int)+1) false w10 hs10)
   rw [PM.out] at MAY
   clear hs10 b10 STA
   go_wp2_with fail
   refine MAY.out.mono ?_
   rintro e w11 ⟨rfl,b11⟩
   have H11:=Lib.hid (H10.out.over b11)
   clear b11
   go_wp2
   go_roundw
   case rel=>exact ⟨m+1,z,by omega,by go_num,H11.out,J2.out,P2.out⟩
   case measure=>simp [intOf]; omega
 obtain ⟨ok,xb,xo,rfl,hb,hrange⟩:=HRM.out j hlt
 have hci:=ok.ci
 unfold maxLen at hci
 obtain ⟨X,hX⟩:∃ X,more[j]=X:=⟨_,rfl⟩
 rw [hX] at hrange hci
 have HRG:=Lib.hid (show wr.rangeAt xb (xo+j*19) X.cells from fun j v hv=>(BR.out.cell (p:=⟨xb,_,none⟩) hb).trans (hrange j v hv))
 have HCI:=Lib.hid hci
 have hj60:j<60:=by omega
 clear hrange hX ok hci h60 hb
 go_upto_region 18 with (first | ((with_reducible refine ld_mid1 rfl 39 _ rfl ?_); refine ⟨xb,xo+j*19,X.cells.toArray,_,rfl,HRG.out,act_row.1,rfl,act_row.2,?_⟩) | ((with_reducible refine st_row1 rfl 39 _ _ rfl ?_); refine ⟨wr.heap.size,_,X.cells.toArray,_,rfl,rfl,heap_alloc_new wr _,act_row.2,rfl,act_one X,?_⟩))
 obtain ⟨w8,hw8⟩:∃ w8,w8=(wr.alloc (.cells actZd 39)).setRow wr.heap.size X.cells.toArray:=⟨_,rfl⟩
 have B8:=Lib.hid (show RowKit.Below wr.heap.size wr w8 from hw8▸bel_row wr _ _ _)
 have A8:=Lib.hid (show w8.heap[wr.heap.size]?=some (.cells X.cells.toArray 39 (0,0)) from hw8▸setRow_heap _ _ _ _ _ _ (heap_alloc_new wr _))
 unfold actZd at hw8
 rw [← hw8]
 clear hw8
 obtain ⟨Z,hZ⟩:∃ Z:Nat→Prop,Z=fun c=>(fun _=>False) c∨(wr.heap.size≤c∧c<w8.heap.size):=⟨_,rfl⟩
 have H8:=Lib.hid (show TgR w2 10 D T t Z w8 from hZ▸HT.out.more B8.out)
 have ZA:=Lib.hid (show Z wr.heap.size from hZ▸Or.inr ⟨Nat.le_refl _,(Array.getElem?_eq_some_iff.1 A8.out).1⟩)
 clear hZ
 obtain ⟨AB,hAB⟩:∃ V,wr.heap.size=V:=⟨_,rfl⟩
 rw [hAB] at A8 ZA ⊢
 clear hAB B8 HRG
 have CELLS:=Lib.hid (act_cells (o:=0) (range_of A8.out))
 simp only [Act.put]
 go_cut [83] (fun v wx=>SkipR k X v∧wx=w8)
 case first =>
  obtain ⟨⟨c0,-,-,-,-⟩,-,d0,-,-,-,-,d5,-,-,-⟩:=CELLS.out
  simp only [Nat.zero_add] at c0 d0 d5
  by_cases k1:X.kind=sAsk
  case neg =>
   have q1:(X.kind.toList == [97,115,107])=false:=by rw [kd_ask,decide_eq_false k1]
   have SK:=Lib.hid (show SkipR k X (.bool false) from SkipR.mk false (fun _ e=>absurd e k1))
   clear k1
   go_wp2_with fail
   go_meet
   exact ⟨SK.out,rfl⟩
  have q1:(X.kind.toList == [97,115,107])=true:=by rw [kd_ask,decide_eq_true k1]
  clear k1
  by_cases h8:8≤X.cm.op
  case neg =>
   have SK:=Lib.hid (show SkipR k X (.bool false) from SkipR.mk false (fun _ _ e=>h8 e.1))
   go_wp2_with fail
   go_meet
   exact ⟨SK.out,rfl⟩
  by_cases hat:X.cm.at'=(k:Int)
  ·have q2:(X.cm.at' == (k:Int))=true:=by simpa using hat
   have SK:=Lib.hid (show SkipR k X (.bool true) from SkipR.mk true (fun e=>by cases e))
   clear hat
   go_wp2_with fail
   go_meet
   exact ⟨SK.out,rfl⟩
  ·have q2:(X.cm.at' == (k:Int))=false:=by simpa using hat
   have SK:=Lib.hid (show SkipR k X (.bool false) from SkipR.mk false (fun _ _ e=>hat e.2))
   clear hat
   go_wp2_with fail
   go_meet
   exact ⟨SK.out,rfl⟩
 case rest =>
 obtain ⟨⟨sk,rfl,hsk⟩,rfl⟩:=hcut
 cases sk
 case true =>
  clear hsk
  go_wp2
  go_roundw
  case rel=>exact ⟨j+1,T,t,S,by omega,rfl,DnR.mk dn HD1.out HD2.out,by go_num,H8.out.less (fun _ q=>q.elim),HJ.out.mono (by omega)⟩
  case measure=>simp [intOf]; omega
 have ELS:=Lib.hid (hsk rfl)
 clear hsk
 go_upto_region 19 with fail
 go_cut [19] (fun v wx=>FreshR X v∧wx=wc)
 case first =>
  obtain ⟨⟨c0,-,-,-,-⟩,-,-⟩:=CELLS.out
  by_cases k1:X.kind=sAsk
  ·have q1:(X.kind.toList == [97,115,107])=true:=by rw [kd_ask,decide_eq_true k1]
   have NF:=Lib.hid (FreshR.no (x:=X) (fun f=>f.k1 k1))
   clear k1
   go_wp2_with fail
   go_meet
   exact ⟨NF.out,rfl⟩
  have q1:(X.kind.toList == [97,115,107])=false:=by rw [kd_ask,decide_eq_false k1]
  by_cases k2:X.kind=sDeliver
  ·have q2:(X.kind.toList == [100,101,108,105,118,101,114])=true:=by rw [kd_deliver,decide_eq_true k2]
   have NF:=Lib.hid (FreshR.no (x:=X) (fun f=>f.k2 k2))
   clear k2
   go_wp2_with fail
   go_meet
   exact ⟨NF.out,rfl⟩
  have q2:(X.kind.toList == [100,101,108,105,118,101,114])=false:=by rw [kd_deliver,decide_eq_false k2]
  by_cases k3:X.kind=sLose
  ·have q3:(X.kind.toList == [108,111,115,101])=true:=by rw [kd_lose,decide_eq_true k3]
   have NF:=Lib.hid (FreshR.no (x:=X) (fun f=>f.k3 k3))
   clear k3
   go_wp2_with fail
   go_meet
   exact ⟨NF.out,rfl⟩
  have q3:(X.kind.toList == [108,111,115,101])=false:=by rw [kd_lose,decide_eq_false k3]
  by_cases k4:X.kind=sUp
  ·have q4:(X.kind.toList == [117,112])=true:=by rw [kd_up,decide_eq_true k4]
   have NF:=Lib.hid (FreshR.no (x:=X) (fun f=>f.k4 k4))
   clear k4
   go_wp2_with fail
   go_meet
   exact ⟨NF.out,rfl⟩
  have q4:(X.kind.toList == [117,112])=false:=by rw [kd_up,decide_eq_false k4]
  by_cases k5:X.kind=sDown
  ·have q5:(X.kind.toList == [100,111,119,110])=true:=by rw [kd_down,decide_eq_true k5]
   have NF:=Lib.hid (FreshR.no (x:=X) (fun f=>f.k5 k5))
   clear k5
   go_wp2_with fail
   go_meet
   exact ⟨NF.out,rfl⟩
  have q5:(X.kind.toList == [100,111,119,110])=false:=by rw [kd_down,decide_eq_false k5]
  by_cases k6:X.kind=sSync
  ·have q6:(X.kind.toList == [115,121,110,99])=true:=by rw [kd_sync,decide_eq_true k6]
   have NF:=Lib.hid (FreshR.no (x:=X) (fun f=>f.k6 k6))
   clear k6
   go_wp2_with fail
   go_meet
   exact ⟨NF.out,rfl⟩
  have q6:(X.kind.toList == [115,121,110,99])=false:=by rw [kd_sync,decide_eq_false k6]
  by_cases k7:X.kind=sPower
  ·have q7:(X.kind.toList == [112,111,119,101,114])=true:=by rw [kd_power,decide_eq_true k7]
   have NF:=Lib.hid (FreshR.no (x:=X) (fun f=>f.k7 k7))
   clear k7
   go_wp2_with fail
   go_meet
   exact ⟨NF.out,rfl⟩
  have q7:(X.kind.toList == [112,111,119,101,114])=false:=by rw [kd_power,decide_eq_false k7]
  have YF:=Lib.hid (FreshR.yes (x:=X) ⟨k1,k2,k3,k4,k5,k6,k7⟩)
  clear k1 k2 k3 k4 k5 k6 k7
  go_wp2_with fail
  go_meet
  exact ⟨YF.out,rfl⟩
 case rest =>
 obtain ⟨⟨fr,rfl,hfr⟩,rfl⟩:=hcut
 have FRI:=Lib.hid hfr
 clear hfr
 have PLAY:=Lib.hid (play_any w2 wc D T t Z S _ X H8.out HJ.out (by omega) HCI.out (TT.out.on B2.out))
 obtain ⟨S',-,hj'⟩:=HJ.out.play (by omega) X
 have JR:=Lib.hid (show TJ 10 S' (201+2*((j+1:Nat):Int)) (t.play 10 X) from hj'.mono (by omega))
 have LPOST:=Lib.hid (fun (hd:dn=true)=>post_play HJ.out.ti (by omega) HK8.out (HD2.out hd) X ELS.out)
 have LPRE:=Lib.hid (fun (hd:dn=false) hx=>pre_play HJ.out.ti (by omega) HK8.out (HD1.out hd) X ELS.out hx)
 clear hj'
 go_wp2_with ((with_reducible refine ld_row1 rfl 39 _ rfl ?_); refine ⟨AB,_,X.cells.toArray,_,rfl,A8.out,act_row.1,rfl,act_row.2,?_⟩)
 refine PLAY.out.mono ?_
 rintro e w9 ⟨T',rfl,h9,s9,-⟩
 obtain ⟨u2,hu⟩:∃ u,t.play 10 X=u:=⟨_,rfl⟩
 rw [hu] at h9 JR LPOST LPRE
 have H9:=Lib.hid (h9.less (Y':=fun _=>False) (fun _ q=>q.elim))
 have A9:=Lib.hid ((s9 AB ZA.out).trans A8.out)
 have BW9:=Lib.hid (show RowKit.Below w.heap.size w w9 from B2.out.trans (h9.below.mono B2.out.size))
 have CELLS9:=Lib.hid (act_cells (o:=0) (range_of A9.out))
 clear h9 s9 PLAY hu H8 HT CELLS
 obtain ⟨⟨c0,-,-,-,-⟩,-,-⟩:=CELLS9.out
 cases dn
 case true =>
  have DP:=Lib.hid (LPOST.out rfl)
  clear LPOST LPRE HD1 HD2
  cases fr
  ·go_wp2
   go_roundw
   case rel=>exact ⟨j+1,T',u2,S',by omega,rfl,DnR.mk true (fun e=>by cases e) (fun _=>DP.out),by go_num,H9.out,JR.out⟩
   case measure=>simp [intOf]; omega
  ·go_wp2
   go_roundw
   case rel=>exact ⟨j+1,T',u2,S',by omega,rfl,DnR.mk true (fun e=>by cases e) (fun _=>DP.out),by go_num,H9.out,JR.out⟩
   case measure=>simp [intOf]; omega
 cases fr
 case true =>
  clear FRI LPOST LPRE HD1 HD2
  go_wp2
  go_ret
  exact ⟨rfl,BW9.out⟩
 by_cases k7:X.kind=sPower
 ·have q7:(X.kind.toList == [112,111,119,101,114])=true:=by rw [kd_power,decide_eq_true k7]
  clear FRI LPOST LPRE HD1 HD2 k7
  go_wp2
  go_ret
  exact ⟨rfl,BW9.out⟩
 have q7:(X.kind.toList == [112,111,119,101,114])=false:=by rw [kd_power,decide_eq_false k7]
 have KX:=Lib.hid (show X.kind=sAsk∨X.kind=sDeliver∨X.kind=sLose∨X.kind=sUp∨X.kind=sDown∨X.kind=sSync from by
  by_cases k1:X.kind=sAsk
  ·exact .inl k1
  by_cases k2:X.kind=sDeliver
  ·exact .inr (.inl k2)
  by_cases k3:X.kind=sLose
  ·exact .inr (.inr (.inl k3))
  by_cases k4:X.kind=sUp
  ·exact .inr (.inr (.inr (.inl k4)))
  by_cases k5:X.kind=sDown
  ·exact .inr (.inr (.inr (.inr (.inl k5))))
  by_cases k6:X.kind=sSync
  ·exact .inr (.inr (.inr (.inr (.inr k6))))
  exact absurd (FRI.out.2 ⟨k1,k2,k3,k4,k5,k6,k7⟩) (by simp))
 have LP:=Lib.hid (LPRE.out rfl KX.out)
 have DN:=Lib.hid (tdone_any w2 w9 10 D T' u2 _ tag H9.out)
 obtain ⟨DB,hDB⟩:∃ b,decide (tag∈u2.done)=b:=⟨_,rfl⟩
 have HDB:=Lib.hid hDB
 rw [hDB] at DN
 clear k7 KX LPOST LPRE HD1 HD2 hDB FRI
 go_wp2_with fail
 refine DN.out.mono ?_
 rintro e w9 ⟨rfl,rfl⟩
 go_wp2
 go_roundw
 case rel=>exact ⟨j+1,T',u2,S',by omega,rfl,DnR.mk DB (fun e=>LP.out.1 (of_decide_eq_false (HDB.out.trans e))) (fun e=>LP.out.2 (of_decide_eq_true (HDB.out.trans e))),by go_num,H9.out,JR.out⟩
 case measure=>simp [intOf]; omega
end Go.Proofs.YtajegiifabfcjaaGreatDoor
