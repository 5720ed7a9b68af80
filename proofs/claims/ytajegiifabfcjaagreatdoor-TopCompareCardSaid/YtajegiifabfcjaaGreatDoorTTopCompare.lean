/-
  TopCompare: the walk. (Printed in part by gen_comp.py.)
-/
import Derived.Test.YtajegiifabfcjaaGreatDoorTTgNw
import Derived.Test.YtajegiifabfcjaaGreatDoorTConfP
import Derived.Test.YtajegiifabfcjaaGreatDoorTTgEq
namespace Go.Proofs.YtajegiifabfcjaaGreatDoor
open Go.RowKit Go.Sort
set_option maxRecDepth 100000 in
set_option maxHeartbeats 40000000 in
theorem topcompare_walk (l:List Ac) (a:Option Addr) (cap:Nat) (c:Cmd) (w:World) (hl:l.length≤maxLen) (hr:ActsAt w a l) (hs:c.data.size≤maxLen∧c.want.size≤maxLen) (tt:Tabs w) :
  Calls Tryz.prog 9 #[.slice a l.length cap,cmdV c] w fun e w'=>e=.returned (.bool true)∧Below w.heap.size w w':=by
 have TT:=Lib.hid tt
 have HS:=Lib.hid (show c.data.size≤9223372036854775807∧c.want.size≤9223372036854775807 from by unfold maxLen at hs; omega)
 obtain ⟨w1,hw1⟩:∃ w1,w1=w.alloc (.cells #[.int .i64 c.op,.int .i64 c.who,.int .i64 c.key,.int .i64 c.new,.int .i64 c.typ,.int .i64 c.at',.bool c.stays,.string c.data,.string c.want] 37):=⟨_,rfl⟩
 have B1:=Lib.hid (show RowKit.Below w.heap.size w w1 from hw1▸bal w _)
 have R1:=Lib.hid (show w1.heap[w.heap.size]?=some (.cells #[.int .i64 c.op,.int .i64 c.who,.int .i64 c.key,.int .i64 c.new,.int .i64 c.typ,.int .i64 c.at',.bool c.stays,.string c.data,.string c.want] 37 (0,0)) from hw1▸heap_alloc_new w _)
 have HA:=(Array.getElem?_eq_some_iff.1 R1.out).1
 have WK:=Lib.hid (works_any w1 (TT.out.on B1.out))
 have PLAYED:=Lib.hid (fun w' (b:RowKit.Below w.heap.size w w')=>played_any l a cap w' hl (hr.below b) (TT.out.on b))
 clear hr hs tt
 go_enter Tryz.func9,Tryz.ntmps9
 go_upto_region 1 with fail
 rw [← hw1]
 clear hw1
 go_wp2_with fail
 refine WK.out.mono ?_
 rintro e w2 ⟨rfl,b2⟩
 have B2:=Lib.hid (show RowKit.Below w.heap.size w w2 from B1.out.trans (b2.mono B1.out.size))
 have R2:=Lib.hid ((b2.block _ HA).trans R1.out)
 have PL:=Lib.hid (PLAYED.out w2 B2.out)
 obtain ⟨A,hA⟩:∃ A,w.heap.size=A:=⟨_,rfl⟩
 have LA:=Lib.hid (show A<w2.heap.size from by have:=b2.size; omega)
 rw [hA] at R2 ⊢
 clear b2 WK PLAYED R1 B1 HA hA
 go_wp2_with fail
 refine PL.out.mono ?_
 rintro e w3 (⟨rfl,b3⟩ | ⟨D,T,t,S,rfl,h3,j3⟩)
 ·have B3:=Lib.hid (show RowKit.Below w.heap.size w w3 from B2.out.trans (b3.mono B2.out.size))
  clear b3 PL
  go_wp2
  go_ret
  exact ⟨rfl,B3.out⟩
 have H3:=Lib.hid h3
 have J3:=Lib.hid j3
 have R3:=Lib.hid ((h3.below.block A LA.out).trans R2.out)
 have B3:=Lib.hid (show RowKit.Below w.heap.size w w3 from B2.out.trans (h3.below.mono B2.out.size))
 have CK:=Lib.hid (ccheck_any c w3 HS.out)
 clear h3 j3 PL
 obtain ⟨q0,q1,q2,q3,q4,q5,q6,q7,q8⟩:=cells9 R3.out
 go_wp2_with fail
 refine CK.out.mono ?_
 rintro e w4 ⟨rfl,b4⟩
 have B4:=Lib.hid b4
 have R4:=Lib.hid ((b4.block A (Nat.lt_of_lt_of_le LA.out H3.out.below.size)).trans R3.out)
 clear b4 CK
 clear q0 q1 q2 q3 q4 q5 q6 q7 q8 R3
 by_cases hf:cmdFault c=0
 case neg =>
  rw [errV_some hf]
  clear hf
  go_wp2
  go_ret
  exact ⟨rfl,B3.out.trans (B4.out.mono B3.out.size)⟩
 rw [hf,errV_nil]
 have HF:=Lib.hid hf
 clear hf
 obtain ⟨q0,q1,q2,q3,q4,q5,q6,q7,q8⟩:=cells9 R4.out
 by_cases hop:c.op=9
 case neg =>
  go_wp2
  go_ret
  exact ⟨rfl,B3.out.trans (B4.out.mono B3.out.size)⟩
 have HOP:=Lib.hid hop
 have FL:=Lib.hid (show t.fly.length≤1000 from by have:=J3.out.ti.fl; omega)
 have FLY:=Lib.hid (tflying_any w2 w4 10 D T t _ (H3.out.over B4.out) FL.out)
 go_wp2_with fail
 clear hop
 refine FLY.out.mono ?_
 rintro e w9 ⟨v9,rfl,o9,b9⟩
 obtain ⟨fa,fc,rfl⟩:=o9.shape
 have B9:=Lib.hid (show RowKit.Below w3.heap.size w3 w9 from B4.out.trans (b9.mono B4.out.size))
 clear o9 b9 FLY q0 q1 q2 q3 q4 q5 q6 q7 q8 R4 B4
 have H9:=Lib.hid (H3.out.over B9.out)
 have R9:=Lib.hid ((H9.out.below.block A LA.out).trans R2.out)
 have ASK:=Lib.hid (tpask_any w2 w9 D T t _ S _ c H9.out J3.out (by omega) HS.out (TT.out.on B2.out))
 obtain ⟨r,hr⟩:∃ r,t.askN 10 c 6=r:=⟨_,rfl⟩
 have LAW:=Lib.hid (compare_law J3.out.ti HF.out HOP.out hr)
 have ERR:=Lib.hid (six_err J3.out.ti HF.out (by have:=HOP.out; omega) hr)
 have ATB:=Lib.hid ((fault_zero HF.out).2.1 (by have:=HOP.out; omega))
 rw [hr] at ASK
 clear hr
 obtain ⟨q0,q1,q2,q3,q4,q5,q6,q7,q8⟩:=cells9 R9.out
 go_wp2_with fail
 refine ASK.out.mono ?_
 rintro e w10 ⟨rfl,h10,-⟩
 dsimp only
 have H10:=Lib.hid h10
 clear h10 ASK q0 q1 q2 q3 q4 q5 q6 q7 q8 R9
 have R10:=Lib.hid ((H10.out.below.block A LA.out).trans R2.out)
 have BW:=Lib.hid (show RowKit.Below w.heap.size w w10 from B2.out.trans (H10.out.below.mono B2.out.size))
 obtain ⟨t',ht'⟩:∃ t',r.1=t':=⟨_,rfl⟩
 obtain ⟨tag,htag⟩:∃ g,r.2.2.1=g:=⟨_,rfl⟩
 obtain ⟨f,hff⟩:∃ f,r.2.2.2=f:=⟨_,rfl⟩
 rw [ht'] at H10 LAW
 rw [htag] at LAW ⊢
 rw [hff] at LAW ERR ⊢
 clear ht' htag hff
 have NWC:=Lib.hid (newest_any w2 w10 10 D T t' _ c.at'.toNat H10.out (by have:=ATB.out; omega))
 have EAT:=Lib.hid (show ((c.at'.toNat:Nat):Int)=c.at' from by have:=ATB.out; omega)
 rw [EAT.out] at NWC
 obtain ⟨X,hX⟩:∃ X,t'.newest c.at'.toNat=X:=⟨_,rfl⟩
 obtain ⟨MO,hMO⟩:∃ X,t'.most=X:=⟨_,rfl⟩
 rw [hX,hMO] at NWC LAW
 clear hX hMO
 obtain ⟨q0,q1,q2,q3,q4,q5,q6,q7,q8⟩:=cells9 R10.out
 go_wp2_with fail
 refine NWC.out.mono ?_
 rintro e w11 ⟨rfl,b11⟩
 dsimp only [Cel.cells]
 obtain ⟨w12,hw12⟩:∃ w12,w12=w11.alloc (.cells #[.int .i64 X.e,.int .i64 X.n,.string X.d] 30):=⟨_,rfl⟩
 have B12:=Lib.hid (show RowKit.Below w10.heap.size w10 w12 from b11.trans ((hw12▸bal w11 _:RowKit.Below w11.heap.size w11 w12).mono b11.size))
 have V12:=Lib.hid (show w12.heap[w11.heap.size]?=some (.cells X.cells 30 (0,0)) from hw12▸heap_alloc_new w11 _)
 clear b11 NWC q0 q1 q2 q3 q4 q5 q6 q7 q8
 go_upto_region 10 with fail
 rw [← hw12]
 obtain ⟨V,hV⟩:∃ V,w11.heap.size=V:=⟨_,rfl⟩
 rw [hV] at V12 ⊢
 clear hw12 hV
 have LT12:=Lib.hid (show A<w12.heap.size∧V<w12.heap.size from ⟨Nat.lt_of_lt_of_le LA.out (Nat.le_trans H10.out.below.size B12.out.size),(Array.getElem?_eq_some_iff.1 V12.out).1⟩)
 have R12:=Lib.hid ((B12.out.block A (Nat.lt_of_lt_of_le LA.out H10.out.below.size)).trans R10.out)
 have CB:=Lib.hid (fun w' (b:RowKit.Below w12.heap.size w12 w')=>cells9 ((b.block A LT12.out.1).trans R12.out))
 have XB:=Lib.hid (fun w' (b:RowKit.Below w12.heap.size w12 w')=>cell_box ((b.block V LT12.out.2).trans V12.out))
 have BW2:=Lib.hid (show RowKit.Below w.heap.size w w12 from BW.out.trans (B12.out.mono BW.out.size))
 have FLY:=Lib.hid (fun w' (b:RowKit.Below w12.heap.size w12 w')=>tflying_any w2 w' 10 D T t' _ ((H10.out.over B12.out).over b) (by have:=LAW.out.2.2.1; omega))
 clear R12 V12 R10 B12 R2 B9 H9 H3 J3
 by_cases hf0:f=0
 ·obtain ⟨ht,hmo,hd,hln⟩:=LAW.out.2.2.2.2 hf0
  have hd2:(X.d.toList == c.want.toList)=true:=by rw [ba_beq]; exact decide_eq_true hd
  have LN:=Lib.hid hln
  have HD2:=Lib.hid hd2
  rw [hf0,errV_nil,hmo]
  clear hf0 hd hmo hln LAW hd2
  obtain ⟨q0,q1,q2,q3,q4,q5,q6,q7,q8⟩:=CB.out _ (Below.refl _ _)
  obtain ⟨x0,x1,x2⟩:=XB.out _ (Below.refl _ _)
  have hd2:=HD2.out
  go_wp2_with fail
  refine (FLY.out _ (Below.refl _ _)).mono ?_
  rintro e wf ⟨v4,rfl,o4,b4⟩
  obtain ⟨f4,k4,rfl⟩:=o4.shape
  have BZ:=Lib.hid (show RowKit.Below w.heap.size w wf from BW2.out.trans (b4.mono BW2.out.size))
  rw [LN.out]
  have FL2:=FL.out
  clear o4 b4
  have e1:IntKind.i64.wrap ((t.fly.length:Int)+3)=((t.fly.length+3:Nat):Int):=by rw [IntWalk.i64_in _ (by omega)]; omega
  go_wp2
  go_ret
  exact ⟨rfl,BZ.out⟩
 ·obtain ⟨ht,hln,hor⟩:=LAW.out.2.2.2.1 hf0
  have NUM:=Lib.hid (fun w'=>tpnum_any f ERR.out w')
  have LN:=Lib.hid hln
  have HOR:=Lib.hid hor
  rw [errV_some hf0,ht]
  clear hf0 hln hor LAW
  go_wp2_with fail
  refine (FLY.out _ (Below.refl _ _)).mono ?_
  rintro e wf ⟨v4,rfl,o4,b4⟩
  obtain ⟨f4,k4,rfl⟩:=o4.shape
  have B5:=Lib.hid b4
  rw [LN.out]
  clear o4 b4
  go_wp2_with fail
  refine (NUM.out _).mono ?_
  rintro e wn ⟨rfl,bn⟩
  have B6:=Lib.hid (show RowKit.Below w12.heap.size w12 wn from B5.out.trans (bn.mono B5.out.size))
  have BZ:=Lib.hid (show RowKit.Below w.heap.size w wn from BW2.out.trans (B6.out.mono BW2.out.size))
  clear bn B5
  by_cases h9:f=9
  ·obtain ⟨hmo,hd⟩:=(HOR.out).resolve_left (fun q=>q h9)
   have hd2:(X.d.toList == c.want.toList)=false:=by rw [ba_beq]; exact decide_eq_false hd
   rw [hmo]
   clear hd hmo
   obtain ⟨q0,q1,q2,q3,q4,q5,q6,q7,q8⟩:=CB.out _ B6.out
   obtain ⟨x0,x1,x2⟩:=XB.out _ B6.out
   go_wp2
   go_ret
   exact ⟨rfl,BZ.out⟩
  ·go_wp2
   go_ret
   exact ⟨rfl,BZ.out⟩
end Go.Proofs.YtajegiifabfcjaaGreatDoor
