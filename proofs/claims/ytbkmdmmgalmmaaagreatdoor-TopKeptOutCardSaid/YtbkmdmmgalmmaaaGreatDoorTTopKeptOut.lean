/-
  TopKeptOut: the walk. (Printed in part by gen_kept.py.)
-/
import Derived.Test.YtbkmdmmgalmmaaaGreatDoorQ43
import Derived.Test.YtbkmdmmgalmmaaaGreatDoorQ45
import Derived.Test.YtbkmdmmgalmmaaaGreatDoorQ46
namespace Go.Proofs.YtbkmdmmgalmmaaaGreatDoor
open Go.RowKit Go.Sort
theorem tj_askN {S S':Cel→Prop} {B B':Int} {t:Tg} (h:TJ 10 S B t) {c:Cmd} {r:Tg × ByteArray × Int × Int} (hr:t.askN 10 c 6=r) (h':TI 10 S' B' r.1):TJ 10 S' B' r.1:=⟨h',hr▸sz_askN c 6 h.sz⟩
set_option maxRecDepth 100000 in
set_option maxHeartbeats 40000000 in
theorem topkeptout_walk (l:List Ac) (a:Option Addr) (cap:Nat) (c:Cmd) (pl:List Int) (pa:Option Addr) (pc:Nat) (w:World) (hl:l.length≤maxLen) (hr:ActsAt w a l) (hs:c.data.size≤maxLen∧c.want.size≤maxLen) (hp:Ints w.heap.size w pa pl) (tt:Tabs w) :
  Calls Tryz.prog 4 #[.slice a l.length cap,cmdV c,.slice pa pl.length pc] w fun e w'=>e=.returned (.bool true)∧Below w.heap.size w w':=by
 have TT:=Lib.hid tt
 have HP:=Lib.hid hp
 have HS:=Lib.hid (show c.data.size≤9223372036854775807∧c.want.size≤9223372036854775807 from by unfold maxLen at hs; omega)
 obtain ⟨w1,hw1⟩:∃ w1,w1=w.alloc (.cells #[.int .i64 c.op,.int .i64 c.who,.int .i64 c.key,.int .i64 c.new,.int .i64 c.typ,.int .i64 c.at',.bool c.stays,.string c.data,.string c.want] 24):=⟨_,rfl⟩
 have B1:=Lib.hid (show RowKit.Below w.heap.size w w1 from hw1▸bal w _)
 have R1:=Lib.hid (show w1.heap[w.heap.size]?=some (.cells #[.int .i64 c.op,.int .i64 c.who,.int .i64 c.key,.int .i64 c.new,.int .i64 c.typ,.int .i64 c.at',.bool c.stays,.string c.data,.string c.want] 24 (0,0)) from hw1▸heap_alloc_new w _)
 have HA:=(Array.getElem?_eq_some_iff.1 R1.out).1
 have WK:=Lib.hid (works_any w1 (TT.out.on B1.out))
 have PLAYED:=Lib.hid (fun w' (b:RowKit.Below w.heap.size w w')=>played_any l a cap w' hl (hr.below b) (TT.out.on b))
 clear hr hs tt hp
 go_enter Tryz.func4,Tryz.ntmps4
 go_upto_region 1 with fail
 rw [← hw1]
 clear hw1
 go_wp2_with fail
 refine WK.out.mono ?_
 rintro e w2 ⟨rfl,b2⟩
 have B2:=Lib.hid (show RowKit.Below w.heap.size w w2 from B1.out.trans (b2.mono B1.out.size))
 have R2:=Lib.hid ((b2.block _ HA).trans R1.out)
 have PL:=Lib.hid (PLAYED.out w2 B2.out)
 obtain ⟨A,hA⟩:∃ A,w.heap.size=A:=⟨_,rfl⟩
 have LA:=Lib.hid (show A<w2.heap.size from by have:=b2.size; omega)
 rw [hA] at R2 ⊢
 clear b2 WK PLAYED R1 B1 HA hA
 go_wp2_with fail
 refine PL.out.mono ?_
 rintro e w3 (⟨rfl,b3⟩ | ⟨D,T,t,S,rfl,h3,j3⟩)
 ·have B3:=Lib.hid (show RowKit.Below w.heap.size w w3 from B2.out.trans (b3.mono B2.out.size))
  clear b3 PL
  go_wp2
  go_ret
  exact ⟨rfl,B3.out⟩
 have H3:=Lib.hid h3
 have J3:=Lib.hid j3
 have R3:=Lib.hid ((h3.below.block A LA.out).trans R2.out)
 have B3:=Lib.hid (show RowKit.Below w.heap.size w w3 from B2.out.trans (h3.below.mono B2.out.size))
 have CK:=Lib.hid (ccheck_any c w3 HS.out)
 clear h3 j3 PL
 obtain ⟨q0,q1,q2,q3,q4,q5,q6,q7,q8⟩:=cells9 R3.out
 by_cases hpl:40<pl.length
 ·have hpl':(40:Int)<(pl.length:Int):=by omega
  clear hpl
  go_wp2
  go_ret
  exact ⟨rfl,B3.out⟩
 have hpl':¬ (40:Int)<(pl.length:Int):=by omega
 go_wp2_with fail
 refine CK.out.mono ?_
 rintro e w4 ⟨rfl,b4⟩
 have B4:=Lib.hid b4
 have R4:=Lib.hid ((b4.block A (Nat.lt_of_lt_of_le LA.out H3.out.below.size)).trans R3.out)
 clear b4 CK q0 q1 q2 q3 q4 q5 q6 q7 q8 R3
 by_cases hf:cmdFault c=0
 case neg =>
  rw [errV_some hf]
  clear hf
  go_wp2
  go_ret
  exact ⟨rfl,B3.out.trans (B4.out.mono B3.out.size)⟩
 rw [hf,errV_nil]
 have HF:=Lib.hid hf
 clear hf
 obtain ⟨q0,q1,q2,q3,q4,q5,q6,q7,q8⟩:=cells9 R4.out
 by_cases hop:c.op≤6
 case neg =>
  go_wp2
  go_ret
  exact ⟨rfl,B3.out.trans (B4.out.mono B3.out.size)⟩
 have HOP:=Lib.hid hop
 have RL:=Lib.hid (show t.k.s.regs.length≤1000 from by have:=J3.out.ti.good.regs_len; omega)
 have STA:=Lib.hid (tstate_any w2 w4 10 D T t _ (H3.out.over B4.out) RL.out)
 go_wp2_with fail
 refine STA.out.mono ?_
 rintro e w5 ⟨a5,c5,rfl,hs5,b5,fr5⟩
 obtain ⟨w6,hw6⟩:∃ w6,w6=w5.alloc (.cells #[.int .i64 t.k.s.gen,.slice a5 t.k.s.regs.length c5,.int .i64 t.k.s.typ,.int .i64 t.k.s.holder,.bool t.k.s.stays] 35):=⟨_,rfl⟩
 have b45:RowKit.Below w3.heap.size w3 w5:=B4.out.trans (b5.mono B4.out.size)
 have B6:=Lib.hid (show RowKit.Below w3.heap.size w3 w6 from b45.trans ((hw6▸bal w5 _:RowKit.Below w5.heap.size w5 w6).mono b45.size))
 have HS6:=Lib.hid (show StR w6 t.k.s a5 from hw6▸hs5.below (bal w5 _))
 have V6:=Lib.hid (show w6.heap[w5.heap.size]?=some (.cells #[.int .i64 t.k.s.gen,.slice a5 t.k.s.regs.length c5,.int .i64 t.k.s.typ,.int .i64 t.k.s.holder,.bool t.k.s.stays] 35 (0,0)) from hw6▸heap_alloc_new w5 _)
 have LV:=Lib.hid (show w3.heap.size≤w5.heap.size from b45.size)
 have FR5:=Lib.hid (show ∀ b o,a5=some ⟨b,o,none⟩→w3.heap.size≤b from fun b o e=>Nat.le_trans B4.out.size (fr5 b o e))
 go_upto_region 8 with fail
 rw [← hw6]
 obtain ⟨V,hV⟩:∃ V,w5.heap.size=V:=⟨_,rfl⟩
 rw [hV] at V6 LV ⊢
 have R6:=Lib.hid ((B6.out.block A (Nat.lt_of_lt_of_le LA.out H3.out.below.size)).trans ((H3.out.below.block A LA.out).trans R2.out))
 clear hw6 hV hs5 b5 fr5 b45 STA q0 q1 q2 q3 q4 q5 q6 q7 q8 R4 hop
 obtain ⟨Z,hZ⟩:∃ Z:Nat→Prop,Z=fun c=>(fun _=>False) c∨(w3.heap.size≤c∧c<w6.heap.size):=⟨_,rfl⟩
 have H6:=Lib.hid (show TgR w2 10 D T t Z w6 from hZ▸H3.out.more B6.out)
 have ZN:=Lib.hid (show ∀ b,w3.heap.size≤b→b<w6.heap.size→Z b from fun b h1 h2=>hZ▸Or.inr ⟨h1,h2⟩)
 clear hZ
 have EPO:=Lib.hid (tepoch_any w2 w6 10 D T t Z H6.out)
 go_wp2_with fail
 refine EPO.out.mono ?_
 rintro e w6 ⟨rfl,rfl⟩
 have ASK:=Lib.hid (tpask_any w2 w6 D T t Z S _ c H6.out J3.out (by omega) HS.out (TT.out.on B2.out))
 obtain ⟨r,hr⟩:∃ r,t.askN 10 c 6=r:=⟨_,rfl⟩
 obtain ⟨S',ti',law⟩:=kept_law J3.out.ti (by omega) HF.out HOP.out hr
 have LAW:=Lib.hid law
 have JR:=Lib.hid (tj_askN J3.out hr ti')
 rw [hr] at ASK
 clear hr ti' law EPO
 obtain ⟨q0,q1,q2,q3,q4,q5,q6,q7,q8⟩:=cells9 R6.out
 go_wp2_with fail
 refine ASK.out.mono ?_
 rintro e w7 ⟨rfl,h7,s7⟩
 dsimp only
 have H7:=Lib.hid h7
 have S7:=Lib.hid s7
 have V7:=Lib.hid ((s7 V (ZN.out V LV.out (Array.getElem?_eq_some_iff.1 V6.out).1)).trans V6.out)
 have HS7:=Lib.hid (show StR w7 t.k.s a5 from HS6.out.same s7 (fun b hb=>h7.lt_y b hb) (fun b o e hne=>ZN.out b (FR5.out b o e) (by
  have hs:=HS6.out
  rw [e] at hs
  exact StR.blt hs hne)))
 clear h7 s7 ASK q0 q1 q2 q3 q4 q5 q6 q7 q8 V6 HS6 R6 S7
 obtain ⟨u,hu⟩:∃ u,r.1=u:=⟨_,rfl⟩
 obtain ⟨f,hff⟩:∃ f,r.2.2.2=f:=⟨_,rfl⟩
 rw [hu] at H7 LAW JR
 rw [hff] at LAW ⊢
 clear hu hff H6
 have RU:=Lib.hid (show u.k.s.regs.length≤1000 from by have:=JR.out.ti.good.regs_len; omega)
 have STA:=Lib.hid (tstate_any w2 w7 10 D T u Z H7.out RU.out)
 go_wp2_with fail
 refine STA.out.mono ?_
 rintro e w8 ⟨a8,c8,rfl,hs8,b8,fr8⟩
 obtain ⟨w9,hw9⟩:∃ w9,w9=w8.alloc (.cells #[.int .i64 u.k.s.gen,.slice a8 u.k.s.regs.length c8,.int .i64 u.k.s.typ,.int .i64 u.k.s.holder,.bool u.k.s.stays] 35):=⟨_,rfl⟩
 have B9:=Lib.hid (show RowKit.Below w7.heap.size w7 w9 from b8.trans ((hw9▸bal w8 _:RowKit.Below w8.heap.size w8 w9).mono b8.size))
 have HU9:=Lib.hid (show StR w9 u.k.s a8 from hw9▸hs8.below (bal w8 _))
 have U9:=Lib.hid (show w9.heap[w8.heap.size]?=some (.cells #[.int .i64 u.k.s.gen,.slice a8 u.k.s.regs.length c8,.int .i64 u.k.s.typ,.int .i64 u.k.s.holder,.bool u.k.s.stays] 35 (0,0)) from hw9▸heap_alloc_new w8 _)
 have V9:=Lib.hid ((B9.out.block V (Array.getElem?_eq_some_iff.1 V7.out).1).trans V7.out)
 have HS9:=Lib.hid (show StR w9 t.k.s a5 from HS7.out.below B9.out)
 have H9:=Lib.hid (show TgR w2 10 D T u Z w9 from H7.out.over B9.out)
 go_upto_region 11 with fail
 rw [← hw9]
 obtain ⟨VU,hVU⟩:∃ V,w8.heap.size=V:=⟨_,rfl⟩
 rw [hVU] at U9 ⊢
 clear hw9 hVU hs8 b8 fr8 STA V7 HS7 H7 B9
 go_wp2
 go_loopw [16,17] (fun v i wr=>∃ k:Nat,k≤4∧v=.bool (lessTo t.k.s u.k.s k)∧i=.int .i64 ((k:Int)+1)∧RowKit.Below w9.heap.size w9 wr) (fun _ i _=>5 - (intOf i).toNat)
 case atStart=>exact ⟨0,by omega,rfl,rfl,Below.refl _ _⟩
 case round =>
 obtain ⟨k,hk,rfl,rfl,hbw⟩:=hrel
 have HB:=Lib.hid hbw
 clear hbw
 by_cases hk4:k<4
 ·have hk4':((k:Int)+1)≤4:=by omega
  have VC:=Lib.hid (fun w' (b:RowKit.Below wr.heap.size wr w')=>(cells5 ((b.block V (Nat.lt_of_lt_of_le (Array.getElem?_eq_some_iff.1 V9.out).1 HB.out.size)).trans ((HB.out.block V (Array.getElem?_eq_some_iff.1 V9.out).1).trans V9.out))).1)
  have UC:=Lib.hid (fun w' (b:RowKit.Below wr.heap.size wr w')=>(cells5 ((b.block VU (Nat.lt_of_lt_of_le (Array.getElem?_eq_some_iff.1 U9.out).1 HB.out.size)).trans ((HB.out.block VU (Array.getElem?_eq_some_iff.1 U9.out).1).trans U9.out))).1)
  have MT:=Lib.hid (fun w' (b:RowKit.Below wr.heap.size wr w') wb=>may_any t.k.s a5 c5 ((k:Int)+1) wb w' ((HS9.out.below HB.out).below b))
  have MU:=Lib.hid (fun w' (b:RowKit.Below wr.heap.size wr w') wb=>may_any u.k.s a8 c8 ((k:Int)+1) wb w' ((HU9.out.below HB.out).below b))
  obtain ⟨L,hL⟩:∃ L,lessTo t.k.s u.k.s k=L:=⟨_,rfl⟩
  obtain ⟨M1,hM1⟩:∃ M,pmay t.k.s ((k:Int)+1) true=M:=⟨_,rfl⟩
  obtain ⟨M2,hM2⟩:∃ M,pmay u.k.s ((k:Int)+1) true=M:=⟨_,rfl⟩
  obtain ⟨M3,hM3⟩:∃ M,pmay t.k.s ((k:Int)+1) false=M:=⟨_,rfl⟩
  obtain ⟨M4,hM4⟩:∃ M,pmay u.k.s ((k:Int)+1) false=M:=⟨_,rfl⟩
  have NX:=Lib.hid (show lessTo t.k.s u.k.s (k+1)=((L || (M1 && !M2)) || (M3 && !M4)) from by rw [← hL,← hM1,← hM2,← hM3,← hM4]; rfl)
  have K1:=Lib.hid (show ∀ w',RowKit.Below wr.heap.size wr w'→Calls Tryz.prog 16 #[stV t.k.s a5 c5,.int .i64 ((k:Int)+1),.bool true] w' fun e w''=>e=.returned (.bool M1)∧RowKit.Below w'.heap.size w' w'' from fun w' b=>hM1▸MT.out w' b true)
  have K2:=Lib.hid (show ∀ w',RowKit.Below wr.heap.size wr w'→Calls Tryz.prog 16 #[stV u.k.s a8 c8,.int .i64 ((k:Int)+1),.bool true] w' fun e w''=>e=.returned (.bool M2)∧RowKit.Below w'.heap.size w' w'' from fun w' b=>hM2▸MU.out w' b true)
  have K3:=Lib.hid (show ∀ w',RowKit.Below wr.heap.size wr w'→Calls Tryz.prog 16 #[stV t.k.s a5 c5,.int .i64 ((k:Int)+1),.bool false] w' fun e w''=>e=.returned (.bool M3)∧RowKit.Below w'.heap.size w' w'' from fun w' b=>hM3▸MT.out w' b false)
  have K4:=Lib.hid (show ∀ w',RowKit.Below wr.heap.size wr w'→Calls Tryz.prog 16 #[stV u.k.s a8 c8,.int .i64 ((k:Int)+1),.bool false] w' fun e w''=>e=.returned (.bool M4)∧RowKit.Below w'.heap.size w' w'' from fun w' b=>hM4▸MU.out w' b false)
  have q1:IntKind.i64.wrap (((k:Int)+1)+1)=((k+1:Nat):Int)+1:=by rw [IntWalk.i64_in _ (by omega)]; omega
  obtain ⟨v0,v1,v2,v3,v4⟩:=VC.out wr (Below.refl _ _)
  rw [hL]
  clear hL hM1 hM2 hM3 hM4 MT MU
  cases L
  ·go_wp2_with fail
   refine (K1.out _ (Below.refl _ _)).mono ?_
   rintro e w1_ ⟨rfl,b1⟩
   have HB1:=Lib.hid (show RowKit.Below wr.heap.size wr w1_ from b1)
   clear b1
   cases M1
   ·clear v0 v1 v2 v3 v4
    obtain ⟨v0,v1,v2,v3,v4⟩:=VC.out _ HB1.out
    obtain ⟨u0,u1,u2,u3,u4⟩:=UC.out _ HB1.out
    go_wp2_with fail
    refine (K3.out _ HB1.out).mono ?_
    rintro e w1c_ ⟨rfl,b1c⟩
    have HBx:=Lib.hid (show RowKit.Below wr.heap.size wr w1c_ from (HB1.out).trans (b1c.mono (HB1.out).size))
    clear b1c
    cases M3
    ·go_wp2
     go_roundw
     case rel=>exact ⟨k+1,by omega,by rw [NX.out]; rfl,by go_num,HB.out.trans (RowKit.Below.mono HBx.out HB.out.size)⟩
     case measure=>simp [intOf]; omega
    ·clear u0 u1 u2 u3 u4
     clear v0 v1 v2 v3 v4
     obtain ⟨v0,v1,v2,v3,v4⟩:=VC.out _ HBx.out
     obtain ⟨u0,u1,u2,u3,u4⟩:=UC.out _ HBx.out
     go_wp2_with fail
     refine (K4.out _ HBx.out).mono ?_
     rintro e w1d_ ⟨rfl,b1d⟩
     have HB1d:=Lib.hid (show RowKit.Below wr.heap.size wr w1d_ from (HBx.out).trans (b1d.mono (HBx.out).size))
     clear b1d
     cases M4
     ·go_wp2
      go_roundw
      case rel=>exact ⟨k+1,by omega,by rw [NX.out]; rfl,by go_num,HB.out.trans (RowKit.Below.mono HB1d.out HB.out.size)⟩
      case measure=>simp [intOf]; omega
     ·go_wp2
      go_roundw
      case rel=>exact ⟨k+1,by omega,by rw [NX.out]; rfl,by go_num,HB.out.trans (RowKit.Below.mono HB1d.out HB.out.size)⟩
      case measure=>simp [intOf]; omega
   ·clear v0 v1 v2 v3 v4
    obtain ⟨v0,v1,v2,v3,v4⟩:=VC.out _ HB1.out
    obtain ⟨u0,u1,u2,u3,u4⟩:=UC.out _ HB1.out
    go_wp2_with fail
    refine (K2.out _ HB1.out).mono ?_
    rintro e w2_ ⟨rfl,b2⟩
    have HB2:=Lib.hid (show RowKit.Below wr.heap.size wr w2_ from (HB1.out).trans (b2.mono (HB1.out).size))
    clear b2
    cases M2
    ·go_wp2
     go_roundw
     case rel=>exact ⟨k+1,by omega,by rw [NX.out]; rfl,by go_num,HB.out.trans (RowKit.Below.mono HB2.out HB.out.size)⟩
     case measure=>simp [intOf]; omega
    ·clear u0 u1 u2 u3 u4
     clear v0 v1 v2 v3 v4
     obtain ⟨v0,v1,v2,v3,v4⟩:=VC.out _ HB2.out
     obtain ⟨u0,u1,u2,u3,u4⟩:=UC.out _ HB2.out
     go_wp2_with fail
     refine (K3.out _ HB2.out).mono ?_
     rintro e w2c_ ⟨rfl,b2c⟩
     have HB2c:=Lib.hid (show RowKit.Below wr.heap.size wr w2c_ from (HB2.out).trans (b2c.mono (HB2.out).size))
     clear b2c
     cases M3
     ·go_wp2
      go_roundw
      case rel=>exact ⟨k+1,by omega,by rw [NX.out]; rfl,by go_num,HB.out.trans (RowKit.Below.mono HB2c.out HB.out.size)⟩
      case measure=>simp [intOf]; omega
     ·clear u0 u1 u2 u3 u4
      clear v0 v1 v2 v3 v4
      obtain ⟨v0,v1,v2,v3,v4⟩:=VC.out _ HB2c.out
      obtain ⟨u0,u1,u2,u3,u4⟩:=UC.out _ HB2c.out
      go_wp2_with fail
      refine (K4.out _ HB2c.out).mono ?_
      rintro e w2d_ ⟨rfl,b2d⟩
      have HB2d:=Lib.hid (show RowKit.Below wr.heap.size wr w2d_ from (HB2c.out).trans (b2d.mono (HB2c.out).size))
      clear b2d
      cases M4
      ·go_wp2
       go_roundw
       case rel=>exact ⟨k+1,by omega,by rw [NX.out]; rfl,by go_num,HB.out.trans (RowKit.Below.mono HB2d.out HB.out.size)⟩
       case measure=>simp [intOf]; omega
      ·go_wp2
       go_roundw
       case rel=>exact ⟨k+1,by omega,by rw [NX.out]; rfl,by go_num,HB.out.trans (RowKit.Below.mono HB2d.out HB.out.size)⟩
       case measure=>simp [intOf]; omega
  ·go_wp2
   go_roundw
   case rel=>exact ⟨k+1,by omega,by rw [NX.out]; rfl,by go_num,HB.out.trans (RowKit.Below.mono (Below.refl _ _) HB.out.size)⟩
   case measure=>simp [intOf]; omega
 ·obtain rfl:k=4:=by omega
  rw [lessTo_four]
  have H10:=Lib.hid (H9.out.over HB.out)
  have BW:=Lib.hid (show RowKit.Below w.heap.size w wr from B2.out.trans (H10.out.below.mono B2.out.size))
  obtain ⟨LS,hLS⟩:∃ LS,lessB pmay t.k.s u.k.s=LS:=⟨_,rfl⟩
  have HLS:=Lib.hid hLS
  rw [hLS]
  clear hLS V9 U9 HS9 HU9 H9
  by_cases hf0:f=0
  case neg =>
   rw [errV_some hf0]
   clear hf0
   go_wp2
   go_ret
   exact ⟨rfl,BW.out⟩
  have LW:=Lib.hid (LAW.out hf0)
  rw [hf0,errV_nil]
  clear hf0 LAW
  have EPO:=Lib.hid (fun w' (b:RowKit.Below wr.heap.size wr w')=>tepoch_any w2 w' 10 D T u Z (H10.out.over b))
  cases LS
  ·have ee:=LW.out.1 HLS.out
   have EP:=Lib.hid (EPO.out wr (Below.refl _ _))
   rw [ee] at EP
   clear ee EPO
   go_wp2_with fail
   refine EP.out.mono ?_
   rintro e wr ⟨rfl,rfl⟩
   go_wp2
   go_ret
   exact ⟨rfl,BW.out⟩
  have L1:=Lib.hid (LW.out.2 HLS.out)
  have elt:decide (u.k.ep≤t.k.ep)=false:=decide_eq_false (by have:=L1.out.1; omega)
  have WT:=Lib.hid (twaiting_none w2 wr 10 D T u Z H10.out L1.out.2.1)
  have EP:=Lib.hid (EPO.out wr (Below.refl _ _))
  go_wp2_with fail
  refine EP.out.mono ?_
  rintro e wr ⟨rfl,rfl⟩
  go_wp2_with fail
  refine WT.out.mono ?_
  rintro e w11 ⟨⟨wa,wc,rfl⟩,b11⟩
  have B11:=Lib.hid b11
  have GRP:=Lib.hid (tgroup_any w2 w11 10 D T u Z (H10.out.over b11))
  clear WT EP EPO b11
  have GOK:=Lib.hid (show u.g.ok from JR.out.ti.qi.ok)
  have ZG:=Lib.hid (Gp.size GOK.out)
  obtain ⟨g,hg⟩:∃ g,u.g=g:=⟨_,rfl⟩
  have HG:=Lib.hid hg
  rw [hg] at GRP ZG GOK
  clear hg
  go_wp2_with fail
  refine GRP.out.mono ?_
  rintro e w12 ⟨rfl,b12⟩
  have Z12:=Lib.hid (show (w12.alloc (.cells Tryz.zeroCells45 45)).heap[w12.heap.size]?=some (.cells Gp.zero.arr 45 (0,0)) from gp_zero_arr▸heap_alloc_new w12 _)
  have B12:=Lib.hid (show RowKit.Below wr.heap.size wr w12 from B11.out.trans (b12.mono B11.out.size))
  clear b12 GRP B11 elt
  go_upto_region 21 with ((with_reducible refine st_row1 rfl 45 _ _ rfl ?_); refine ⟨w12.heap.size,_,g.arr,Gp.zero.arr,rfl,rfl,Z12.out,by rw [gp_row.2,ZG.out],by rw [ZG.out]; rfl,Gp.one _,?_⟩)
  obtain ⟨w13,hw13⟩:∃ w13,w13=(w12.alloc (.cells Tryz.zeroCells45 45)).setRow w12.heap.size g.arr:=⟨_,rfl⟩
  rw [← hw13]
  have B13:=Lib.hid (show RowKit.Below wr.heap.size wr w13 from B12.out.trans ((hw13▸bel_row w12 _ _ _:RowKit.Below w12.heap.size w12 w13).mono B12.out.size))
  have G13:=Lib.hid (show w13.heap[w12.heap.size]?=some (.cells g.arr 45 (0,0)) from hw13▸setRow_heap _ _ _ _ _ _ Z12.out)
  obtain ⟨Z2,hZ2⟩:∃ Z2:Nat→Prop,Z2=fun c=>Z c∨(wr.heap.size≤c∧c<w13.heap.size):=⟨_,rfl⟩
  have H13:=Lib.hid (show TgR w2 10 D T u Z2 w13 from hZ2▸H10.out.more B13.out)
  have ZU:=Lib.hid (show Z2 w12.heap.size from hZ2▸Or.inr ⟨B12.out.size,(Array.getElem?_eq_some_iff.1 G13.out).1⟩)
  obtain ⟨U,hU⟩:∃ U,w12.heap.size=U:=⟨_,rfl⟩
  rw [hU] at G13 ZU ⊢
  have KO0:=Lib.hid (show KO u.k.ep g u from HG.out▸L1.out.2.2)
  obtain ⟨E,hE⟩:∃ E,u.k.ep=E:=⟨_,rfl⟩
  rw [hE] at KO0
  have HBB:=Lib.hid HB.out
  clear hw13 hU hZ2 hE Z12 B12 B13 L1 LW HLS H10 HB
  obtain ⟨wo,rfl⟩:∃ wo:World,wo=wr:=⟨_,rfl⟩
  go_wp2
  go_loopw [19] (fun i wr=>∃ (k:Nat) (v:Tg),k≤pl.length∧i=.int .i64 k∧TgR w2 10 D T v Z2 wr∧TJ 10 S' (200+2) v∧KO E g v∧Same Z2 w13 wr) (fun i _=>pl.length - (intOf i).toNat)
  case atStart=>exact ⟨0,u,by omega,rfl,H13.out,JR.out,KO0.out,fun _ _=>rfl⟩
  case round =>
  obtain ⟨k,v,hk,rfl,hT,hJ,hK,hSm⟩:=hrel
  have HT:=Lib.hid hT
  have HJ:=Lib.hid hJ
  have HK:=Lib.hid hK
  have HSm:=Lib.hid hSm
  clear hT hJ hK hSm
  have BR:=Lib.hid (show RowKit.Below w.heap.size w wr from B2.out.trans (HT.out.below.mono B2.out.size))
  by_cases hlt:k<pl.length
  ·obtain ⟨pb,po,rfl,hpb,hpc⟩:=HP.out k hlt
   have hpc':wr.cell? ⟨pb,po+k,none⟩=some (.int .i64 pl[k]):=(BR.out.cell (p:=⟨pb,_,none⟩) hpb).trans hpc
   have FL:=Lib.hid (show v.fly.length≤1000 from by have:=HJ.out.ti.fl; omega)
   have FLY:=Lib.hid (tflying_any w2 wr 10 D T v Z2 HT.out FL.out)
   go_wp2_with fail
   refine FLY.out.mono ?_
   rintro e w14 ⟨v14,rfl,o14,b14⟩
   obtain ⟨fa,fc,rfl⟩:=o14.shape
   have B14:=Lib.hid b14
   have hpc2:w14.cell? ⟨pb,po+k,none⟩=some (.int .i64 pl[k]):=(b14.cell (p:=⟨pb,_,none⟩) (Nat.lt_of_lt_of_le hpb BR.out.size)).trans hpc'
   clear o14 b14 FLY hpc hpc'
   by_cases hn:v.fly.length=0
   ·rw [hn]
    have BE:=Lib.hid (show RowKit.Below w.heap.size w w14 from BR.out.trans (B14.out.mono BR.out.size))
    clear hn
    go_wp2
    go_ret
    exact ⟨rfl,BE.out⟩
   have hn':¬ (v.fly.length:Int)=0:=by omega
   obtain ⟨x,hx⟩:∃ x,pl[k]=x:=⟨_,rfl⟩
   rw [hx] at hpc2
   clear hx
   have DEL:=Lib.hid (fun i b=>tdeliver_any w2 w14 10 D T v Z2 i b (HT.out.over B14.out) HJ.out.ti.tgd)
   have SM14:=Lib.hid (show Same Z2 w13 w14 from fun b hb=>(B14.out.block b (HT.out.lt_y b hb)).trans (HSm.out b hb))
   have hk41:k≤40:=by omega
   go_wp2_with fail
   refine (DEL.out _ _).mono ?_
   rintro e w15 ⟨rfl,h15,s15⟩
   dsimp only
   have H15:=Lib.hid h15
   have J15:=Lib.hid (HJ.out.deliver ((bits BinOp.and IntKind.i64 x 1023).tmod (v.fly.length:Int)) ((k:Int) % 2 == 0))
   have K15:=Lib.hid (HK.out.deliver HJ.out.ti ((bits BinOp.and IntKind.i64 x 1023).tmod (v.fly.length:Int)) ((k:Int) % 2 == 0))
   have SM15:=Lib.hid (SM14.out.trans s15)
   obtain ⟨v',hv'⟩:∃ v',(v.deliver ((bits BinOp.and IntKind.i64 x 1023).tmod (v.fly.length:Int)) ((k:Int) % 2 == 0)).1=v':=⟨_,rfl⟩
   rw [hv'] at H15 J15 K15
   clear h15 s15 DEL SM14 hv' hpc2 HT HJ HK HSm hn hn' FL
   have GRP:=Lib.hid (tgroup_any w2 w15 10 D T v' Z2 H15.out)
   have VOK:=Lib.hid (show v'.g.ok from J15.out.ti.qi.ok)
   have ZV:=Lib.hid (Gp.size VOK.out)
   go_wp2_with fail
   refine GRP.out.mono ?_
   rintro e w16 ⟨rfl,b16⟩
   have Z16:=Lib.hid (show (w16.alloc (.cells Tryz.zeroCells45 45)).heap[w16.heap.size]?=some (.cells Gp.zero.arr 45 (0,0)) from gp_zero_arr▸heap_alloc_new w16 _)
   have B16:=Lib.hid b16
   clear b16 GRP
   go_upto_region 28 with ((with_reducible refine st_row1 rfl 45 _ _ rfl ?_); refine ⟨w16.heap.size,_,v'.g.arr,Gp.zero.arr,rfl,rfl,Z16.out,by rw [gp_row.2,ZV.out],by rw [ZV.out]; rfl,Gp.one _,?_⟩)
   obtain ⟨w17,hw17⟩:∃ w17,w17=(w16.alloc (.cells Tryz.zeroCells45 45)).setRow w16.heap.size v'.g.arr:=⟨_,rfl⟩
   rw [← hw17]
   have B17:=Lib.hid (show RowKit.Below w15.heap.size w15 w17 from B16.out.trans ((hw17▸bel_row w16 _ _ _:RowKit.Below w16.heap.size w16 w17).mono B16.out.size))
   have G17:=Lib.hid (show w17.heap[w16.heap.size]?=some (.cells v'.g.arr 45 (0,0)) from hw17▸setRow_heap _ _ _ _ _ _ Z16.out)
   have H17:=Lib.hid (H15.out.over B17.out)
   have SM17:=Lib.hid (show Same Z2 w13 w17 from fun b hb=>(B17.out.block b (H15.out.lt_y b hb)).trans (SM15.out b hb))
   have U17:=Lib.hid ((SM17.out U ZU.out).trans G13.out)
   obtain ⟨U2,hU2⟩:∃ U2,w16.heap.size=U2:=⟨_,rfl⟩
   rw [hU2] at G17 ⊢
   clear hw17 hU2 Z16 B16 B17 H15 SM15
   obtain ⟨wq,rfl⟩:∃ wq:World,wq=wr:=⟨_,rfl⟩
   go_wp2
   go_loopw [22] (fun i wr=>∃ (m:Nat),m≤3∧i=.int .i64 m∧RowKit.Below w17.heap.size w17 wr) (fun i _=>3 - (intOf i).toNat)
   case atStart=>exact ⟨0,by omega,rfl,Below.refl _ _⟩
   case round =>
   obtain ⟨m,hm,rfl,hbw⟩:=hrel
   have HBW:=Lib.hid hbw
   clear hbw
   by_cases hm3:m<3
   ·have hgr:m<g.r.length:=by rw [GOK.out.r3]; exact hm3
    have hvr:m<v'.g.r.length:=by rw [VOK.out.r3]; exact hm3
    obtain ⟨p,hp⟩:∃ p,g.r[m]=p:=⟨_,rfl⟩
    obtain ⟨q,hq⟩:∃ q,v'.g.r[m]=q:=⟨_,rfl⟩
    have LAW:=Lib.hid (show p.floor=E→q=p from fun h=>by
     have hs:=K15.out.same m hm3 (by unfold flG; simp [hgr,hp,h])
     simpa [hgr,hvr,hp,hq] using hs)
    have P8:=Lib.hid (show p.cells.length=8 from hp▸GOK.out.c8 _ (List.getElem_mem hgr))
    have ZP:=Lib.hid (Rp.size P8.out)
    have KP:=Lib.hid (show ∀ w',RowKit.Below wr.heap.size wr w'→w'.heap[U]?=some (.cells g.arr 45 (0,0)) from fun w' b=>(b.block U (Nat.lt_of_lt_of_le (Array.getElem?_eq_some_iff.1 U17.out).1 HBW.out.size)).trans ((HBW.out.block U (Array.getElem?_eq_some_iff.1 U17.out).1).trans U17.out))
    have KQ:=Lib.hid (show ∀ w',RowKit.Below wr.heap.size wr w'→w'.heap[U2]?=some (.cells v'.g.arr 45 (0,0)) from fun w' b=>(b.block U2 (Nat.lt_of_lt_of_le (Array.getElem?_eq_some_iff.1 G17.out).1 HBW.out.size)).trans ((HBW.out.block U2 (Array.getElem?_eq_some_iff.1 G17.out).1).trans G17.out))
    have RP:=Lib.hid (fun w' (b:RowKit.Below wr.heap.size wr w')=>show w'.rangeAt U (m*25) p.arr.toList from hp▸(gp_range (KP.out w' b) GOK.out hgr).1)
    have RQ:=Lib.hid (fun w' (b:RowKit.Below wr.heap.size wr w')=>show w'.rangeAt U2 (m*25) q.arr.toList from hq▸(gp_range (KQ.out w' b) VOK.out hvr).1)
    have FP:=Lib.hid (fun w' (b:RowKit.Below wr.heap.size wr w')=>show w'.cell? ⟨U,m*25,none⟩=some (.int .i64 p.floor) from hp▸(gp_floor (KP.out w' b) GOK.out hgr).1)
    have EPO:=Lib.hid (show ∀ w',RowKit.Below wr.heap.size wr w'→Calls Tryz.prog 14 #[.pointer (some ⟨T,0,none⟩)] w' fun e w''=>e=.returned (.int .i64 E)∧w''=w' from fun w' b=>by
     have h:=tepoch_any w2 w' 10 D T v' Z2 ((H17.out.over HBW.out).over b)
     rw [K15.out.ep] at h
     exact h)
    clear hp hq hgr hvr KP KQ
    go_upto_region 31 with fail
    go_cut [165] (fun v wx=>v=.bool false∧RowKit.Below wr.heap.size wr wx)
    case first =>
     obtain ⟨S9,hS⟩:∃ S:World→Prop,S=fun w'=>RowKit.Below wr.heap.size wr w':=⟨_,rfl⟩
     have S3:∀ w',RowKit.Below wr.heap.size wr w'→S9 w':=fun w' h=>by rw [hS]; exact h
     have S4:∀ w',S9 w'→RowKit.Below wr.heap.size wr w':=fun w' h=>by rw [hS] at h; exact h
     clear hS
     refine wp_region_held_drew (S:=S9) (by kernel_rfl) (S3 _ (Below.refl _ _).drew) (fun hHeld=>?_)
     obtain ⟨wd,hwd⟩:∃ wd,wd=wr.drew:=⟨_,rfl⟩
     rw [← hwd] at hHeld ⊢
     clear hwd
     by_cases hfe:p.floor=E
     ·have QP:=Lib.hid (LAW.out hfe)
      have NE:=Lib.hid (fun w=>(neq_rp p p P8.out P8.out w).trans (by rw [eqRp_self]; rfl:_=Result.ok (.bool false) w))
      rw [QP.out] at RQ
      have FE:=Lib.hid hfe
      rw [hfe] at FP
      clear hfe QP
      refine wpAnyH_take (i:=0) (oi:=_) (v:=.int .i64 m) rfl (by kernel_rfl) (by kernel_rfl) (by kernel_rfl) (fun _ _ _ h=>h) (Or.inl ⟨by rfl,fun w' hSw=>by go_simp⟩) hHeld ?_
      simp only [Act.put,List.getElem_toArray,List.getElem_cons_zero,List.setIfInBounds_toArray,List.set_cons_zero,List.set_cons_succ]
      refine wpAnyH_take (i:=1) (oi:=_) (v:=.pointer (some ⟨U,0,none⟩)) rfl (by kernel_rfl) (by kernel_rfl) (by kernel_rfl) (fun _ _ _ h=>h) (Or.inl ⟨by rfl,fun w' hSw=>by go_simp⟩) hHeld ?_
      simp only [Act.put,List.getElem_toArray,List.getElem_cons_zero,List.getElem_cons_succ,List.setIfInBounds_toArray,List.set_cons_zero,List.set_cons_succ]
      refine wpAnyH_take (i:=2) (oi:=_) (v:=.pointer (some ⟨U,m*25,none⟩)) rfl (by kernel_rfl) (by kernel_rfl) (by kernel_rfl) (fun _ _ _ h=>h) (Or.inl ⟨by rfl,fun w' hSw=>by go_simp⟩) hHeld ?_
      simp only [Act.put,List.getElem_toArray,List.getElem_cons_zero,List.getElem_cons_succ,List.setIfInBounds_toArray,List.set_cons_zero,List.set_cons_succ]
      refine wpAnyH_take (i:=3) (oi:=_) (v:=.pointer (some ⟨U,m*25,none⟩)) rfl (by kernel_rfl) (by kernel_rfl) (by kernel_rfl) (fun _ _ _ h=>h) (Or.inl ⟨by rfl,fun w' hSw=>by go_simp⟩) hHeld ?_
      simp only [Act.put,List.getElem_toArray,List.getElem_cons_zero,List.getElem_cons_succ,List.setIfInBounds_toArray,List.set_cons_zero,List.set_cons_succ]
      refine wpAnyH_take (i:=4) (oi:=_) (v:=.int .i64 E) rfl (by kernel_rfl) (by kernel_rfl) (by kernel_rfl) (fun _ _ _ h=>h) (Or.inl ⟨by rfl,fun w' hSw=>by have hc:=FP.out w' (S4 w' hSw); go_simp⟩) hHeld ?_
      simp only [Act.put,List.getElem_toArray,List.getElem_cons_zero,List.getElem_cons_succ,List.setIfInBounds_toArray,List.set_cons_zero,List.set_cons_succ]
      refine wpAnyH_take (i:=5) (oi:=_) (v:=.pointer (some ⟨T,0,none⟩)) rfl (by kernel_rfl) (by kernel_rfl) (by kernel_rfl) (fun _ _ _ h=>h) (Or.inl ⟨by rfl,fun w' hSw=>by go_simp⟩) hHeld ?_
      simp only [Act.put,List.getElem_toArray,List.getElem_cons_zero,List.getElem_cons_succ,List.setIfInBounds_toArray,List.set_cons_zero,List.set_cons_succ]
      refine wpAnyH_ready (rs:=[6]) (by kernel_rfl) (by simp) ?_
      refine AllReadyH.cons (o:=_) rfl (fun Kx hK=>?_) AllReadyH.nil
      go_simp
      refine (EPO.out _ (S4 _ hHeld)).mono ?_
      rintro e w1_ ⟨rfl,hq⟩
      replace hq:=hq.symm
      subst hq
      have HH1:=hHeld
      refine hK.out _ _ HH1 (fun hHeld1=>?_)
      clear hK Kx HH1
      refine wpAnyH_take (i:=7) (oi:=_) (v:=.bool true) rfl (by kernel_rfl) (by kernel_rfl) (by kernel_rfl) (fun _ _ _ h=>h) (Or.inl ⟨by rfl,fun w' hSw=>by go_simp⟩) hHeld1 ?_
      simp only [Act.put,List.getElem_toArray,List.getElem_cons_zero,List.getElem_cons_succ,List.setIfInBounds_toArray,List.set_cons_zero,List.set_cons_succ]
      refine wpAnyH_take (i:=8) (oi:=_) (v:=.bool true) rfl (by kernel_rfl) (by kernel_rfl) (by kernel_rfl) (fun _ _ _ h=>h) (Or.inl ⟨by rfl,fun w' hSw=>by go_simp⟩) hHeld1 ?_
      simp only [Act.put,List.getElem_toArray,List.getElem_cons_zero,List.getElem_cons_succ,List.setIfInBounds_toArray,List.set_cons_zero,List.set_cons_succ]
      refine wpAnyH_take (i:=9) (oi:=_) (v:=.int .i64 m) rfl (by kernel_rfl) (by kernel_rfl) (by kernel_rfl) (fun _ _ _ h=>h) (Or.inl ⟨by rfl,fun w' hSw=>by go_simp⟩) hHeld1 ?_
      simp only [Act.put,List.getElem_toArray,List.getElem_cons_zero,List.getElem_cons_succ,List.setIfInBounds_toArray,List.set_cons_zero,List.set_cons_succ]
      refine wpAnyH_take (i:=10) (oi:=_) (v:=.pointer (some ⟨U2,0,none⟩)) rfl (by kernel_rfl) (by kernel_rfl) (by kernel_rfl) (fun _ _ _ h=>h) (Or.inl ⟨by rfl,fun w' hSw=>by go_simp⟩) hHeld1 ?_
      simp only [Act.put,List.getElem_toArray,List.getElem_cons_zero,List.getElem_cons_succ,List.setIfInBounds_toArray,List.set_cons_zero,List.set_cons_succ]
      refine wpAnyH_take (i:=11) (oi:=_) (v:=.pointer (some ⟨U2,m*25,none⟩)) rfl (by kernel_rfl) (by kernel_rfl) (by kernel_rfl) (fun _ _ _ h=>h) (Or.inl ⟨by rfl,fun w' hSw=>by go_simp⟩) hHeld1 ?_
      simp only [Act.put,List.getElem_toArray,List.getElem_cons_zero,List.getElem_cons_succ,List.setIfInBounds_toArray,List.set_cons_zero,List.set_cons_succ]
      refine wpAnyH_take (i:=12) (oi:=_) (v:=.agg p.arr) rfl (by kernel_rfl) (by kernel_rfl) (by kernel_rfl) (fun _ _ _ h=>h) (yieldsIf_load_midA (by rfl) 41 _ rfl U2 (m*25) rfl p.arr _ (fun w' h=>RQ.out w' (S4 w' h)) rp_row.1 rfl (by rw [rp_row.2.1,ZP.out])) hHeld1 ?_
      simp only [Act.put,List.getElem_toArray,List.getElem_cons_zero,List.getElem_cons_succ,List.setIfInBounds_toArray,List.set_cons_zero,List.set_cons_succ]
      refine wpAnyH_take (i:=13) (oi:=_) (v:=.int .i64 m) rfl (by kernel_rfl) (by kernel_rfl) (by kernel_rfl) (fun _ _ _ h=>h) (Or.inl ⟨by rfl,fun w' hSw=>by go_simp⟩) hHeld1 ?_
      simp only [Act.put,List.getElem_toArray,List.getElem_cons_zero,List.getElem_cons_succ,List.setIfInBounds_toArray,List.set_cons_zero,List.set_cons_succ]
      refine wpAnyH_take (i:=14) (oi:=_) (v:=.pointer (some ⟨U,0,none⟩)) rfl (by kernel_rfl) (by kernel_rfl) (by kernel_rfl) (fun _ _ _ h=>h) (Or.inl ⟨by rfl,fun w' hSw=>by go_simp⟩) hHeld1 ?_
      simp only [Act.put,List.getElem_toArray,List.getElem_cons_zero,List.getElem_cons_succ,List.setIfInBounds_toArray,List.set_cons_zero,List.set_cons_succ]
      refine wpAnyH_take (i:=15) (oi:=_) (v:=.pointer (some ⟨U,m*25,none⟩)) rfl (by kernel_rfl) (by kernel_rfl) (by kernel_rfl) (fun _ _ _ h=>h) (Or.inl ⟨by rfl,fun w' hSw=>by go_simp⟩) hHeld1 ?_
      simp only [Act.put,List.getElem_toArray,List.getElem_cons_zero,List.getElem_cons_succ,List.setIfInBounds_toArray,List.set_cons_zero,List.set_cons_succ]
      refine wpAnyH_take (i:=16) (oi:=_) (v:=.agg p.arr) rfl (by kernel_rfl) (by kernel_rfl) (by kernel_rfl) (fun _ _ _ h=>h) (yieldsIf_load_midA (by rfl) 41 _ rfl U (m*25) rfl p.arr _ (fun w' h=>RP.out w' (S4 w' h)) rp_row.1 rfl (by rw [rp_row.2.1,ZP.out])) hHeld1 ?_
      simp only [Act.put,List.getElem_toArray,List.getElem_cons_zero,List.getElem_cons_succ,List.setIfInBounds_toArray,List.set_cons_zero,List.set_cons_succ]
      refine wpAnyH_take (i:=17) (oi:=_) (v:=.bool false) rfl (by kernel_rfl) (by kernel_rfl) (by kernel_rfl) (fun _ _ _ h=>h) (yieldsIf_bin (by rfl) .neq 41 _ _ _ rfl p.arr p.arr rfl rfl eqg_rp _ NE.out) hHeld1 ?_
      simp only [Act.put,List.getElem_toArray,List.getElem_cons_zero,List.getElem_cons_succ,List.setIfInBounds_toArray,List.set_cons_zero,List.set_cons_succ]
      refine wpAnyH_take (i:=18) (oi:=_) (v:=.bool false) rfl (by kernel_rfl) (by kernel_rfl) (by kernel_rfl) (fun _ _ _ h=>h) (Or.inl ⟨by rfl,fun w' hSw=>by go_simp⟩) hHeld1 ?_
      simp only [Act.put,List.getElem_toArray,List.getElem_cons_zero,List.getElem_cons_succ,List.setIfInBounds_toArray,List.set_cons_zero,List.set_cons_succ]
      refine wpAnyH_done (by kernel_rfl) ?_ _
      go_wp2_with fail
      go_meet
      exact ⟨rfl,S4 _ hHeld1⟩
     ·have fe:(p.floor == E)=false:=by simpa using hfe
      clear hfe
      refine wpAnyH_take (i:=0) (oi:=_) (v:=.int .i64 m) rfl (by kernel_rfl) (by kernel_rfl) (by kernel_rfl) (fun _ _ _ h=>h) (Or.inl ⟨by rfl,fun w' hSw=>by go_simp⟩) hHeld ?_
      simp only [Act.put,List.getElem_toArray,List.getElem_cons_zero,List.setIfInBounds_toArray,List.set_cons_zero,List.set_cons_succ]
      refine wpAnyH_take (i:=1) (oi:=_) (v:=.pointer (some ⟨U,0,none⟩)) rfl (by kernel_rfl) (by kernel_rfl) (by kernel_rfl) (fun _ _ _ h=>h) (Or.inl ⟨by rfl,fun w' hSw=>by go_simp⟩) hHeld ?_
      simp only [Act.put,List.getElem_toArray,List.getElem_cons_zero,List.getElem_cons_succ,List.setIfInBounds_toArray,List.set_cons_zero,List.set_cons_succ]
      refine wpAnyH_take (i:=2) (oi:=_) (v:=.pointer (some ⟨U,m*25,none⟩)) rfl (by kernel_rfl) (by kernel_rfl) (by kernel_rfl) (fun _ _ _ h=>h) (Or.inl ⟨by rfl,fun w' hSw=>by go_simp⟩) hHeld ?_
      simp only [Act.put,List.getElem_toArray,List.getElem_cons_zero,List.getElem_cons_succ,List.setIfInBounds_toArray,List.set_cons_zero,List.set_cons_succ]
      refine wpAnyH_take (i:=3) (oi:=_) (v:=.pointer (some ⟨U,m*25,none⟩)) rfl (by kernel_rfl) (by kernel_rfl) (by kernel_rfl) (fun _ _ _ h=>h) (Or.inl ⟨by rfl,fun w' hSw=>by go_simp⟩) hHeld ?_
      simp only [Act.put,List.getElem_toArray,List.getElem_cons_zero,List.getElem_cons_succ,List.setIfInBounds_toArray,List.set_cons_zero,List.set_cons_succ]
      refine wpAnyH_take (i:=4) (oi:=_) (v:=.int .i64 p.floor) rfl (by kernel_rfl) (by kernel_rfl) (by kernel_rfl) (fun _ _ _ h=>h) (Or.inl ⟨by rfl,fun w' hSw=>by have hc:=FP.out w' (S4 w' hSw); go_simp⟩) hHeld ?_
      simp only [Act.put,List.getElem_toArray,List.getElem_cons_zero,List.getElem_cons_succ,List.setIfInBounds_toArray,List.set_cons_zero,List.set_cons_succ]
      refine wpAnyH_take (i:=5) (oi:=_) (v:=.pointer (some ⟨T,0,none⟩)) rfl (by kernel_rfl) (by kernel_rfl) (by kernel_rfl) (fun _ _ _ h=>h) (Or.inl ⟨by rfl,fun w' hSw=>by go_simp⟩) hHeld ?_
      simp only [Act.put,List.getElem_toArray,List.getElem_cons_zero,List.getElem_cons_succ,List.setIfInBounds_toArray,List.set_cons_zero,List.set_cons_succ]
      refine wpAnyH_ready (rs:=[6]) (by kernel_rfl) (by simp) ?_
      refine AllReadyH.cons (o:=_) rfl (fun Kx hK=>?_) AllReadyH.nil
      go_simp
      refine (EPO.out _ (S4 _ hHeld)).mono ?_
      rintro e w1_ ⟨rfl,hq⟩
      replace hq:=hq.symm
      subst hq
      have HH1:=hHeld
      refine hK.out _ _ HH1 (fun hHeld1=>?_)
      clear hK Kx HH1
      refine wpAnyH_take (i:=7) (oi:=_) (v:=.bool false) rfl (by kernel_rfl) (by kernel_rfl) (by kernel_rfl) (fun _ _ _ h=>h) (Or.inl ⟨by rfl,fun w' hSw=>by go_simp⟩) hHeld1 ?_
      simp only [Act.put,List.getElem_toArray,List.getElem_cons_zero,List.getElem_cons_succ,List.setIfInBounds_toArray,List.set_cons_zero,List.set_cons_succ]
      refine wpAnyH_take (i:=8) (oi:=_) (v:=.bool false) rfl (by kernel_rfl) (by kernel_rfl) (by kernel_rfl) (fun _ _ _ h=>h) (Or.inl ⟨by rfl,fun w' hSw=>by go_simp⟩) hHeld1 ?_
      simp only [Act.put,List.getElem_toArray,List.getElem_cons_zero,List.getElem_cons_succ,List.setIfInBounds_toArray,List.set_cons_zero,List.set_cons_succ]
      refine wpAnyH_take (i:=9) (oi:=_) (v:=undef) rfl (by kernel_rfl) (by kernel_rfl) (by kernel_rfl) (fun _ _ _ h=>h) (Or.inr ⟨by rfl,rfl⟩) hHeld1 ?_
      simp only [Act.put,List.getElem_toArray,List.getElem_cons_zero,List.getElem_cons_succ,List.setIfInBounds_toArray,List.set_cons_zero,List.set_cons_succ]
      refine wpAnyH_take (i:=10) (oi:=_) (v:=undef) rfl (by kernel_rfl) (by kernel_rfl) (by kernel_rfl) (fun _ _ _ h=>h) (Or.inr ⟨by rfl,rfl⟩) hHeld1 ?_
      simp only [Act.put,List.getElem_toArray,List.getElem_cons_zero,List.getElem_cons_succ,List.setIfInBounds_toArray,List.set_cons_zero,List.set_cons_succ]
      refine wpAnyH_take (i:=11) (oi:=_) (v:=undef) rfl (by kernel_rfl) (by kernel_rfl) (by kernel_rfl) (fun _ _ _ h=>h) (Or.inr ⟨by rfl,rfl⟩) hHeld1 ?_
      simp only [Act.put,List.getElem_toArray,List.getElem_cons_zero,List.getElem_cons_succ,List.setIfInBounds_toArray,List.set_cons_zero,List.set_cons_succ]
      refine wpAnyH_take (i:=12) (oi:=_) (v:=undef) rfl (by kernel_rfl) (by kernel_rfl) (by kernel_rfl) (fun _ _ _ h=>h) (Or.inr ⟨by rfl,rfl⟩) hHeld1 ?_
      simp only [Act.put,List.getElem_toArray,List.getElem_cons_zero,List.getElem_cons_succ,List.setIfInBounds_toArray,List.set_cons_zero,List.set_cons_succ]
      refine wpAnyH_take (i:=13) (oi:=_) (v:=undef) rfl (by kernel_rfl) (by kernel_rfl) (by kernel_rfl) (fun _ _ _ h=>h) (Or.inr ⟨by rfl,rfl⟩) hHeld1 ?_
      simp only [Act.put,List.getElem_toArray,List.getElem_cons_zero,List.getElem_cons_succ,List.setIfInBounds_toArray,List.set_cons_zero,List.set_cons_succ]
      refine wpAnyH_take (i:=14) (oi:=_) (v:=undef) rfl (by kernel_rfl) (by kernel_rfl) (by kernel_rfl) (fun _ _ _ h=>h) (Or.inr ⟨by rfl,rfl⟩) hHeld1 ?_
      simp only [Act.put,List.getElem_toArray,List.getElem_cons_zero,List.getElem_cons_succ,List.setIfInBounds_toArray,List.set_cons_zero,List.set_cons_succ]
      refine wpAnyH_take (i:=15) (oi:=_) (v:=undef) rfl (by kernel_rfl) (by kernel_rfl) (by kernel_rfl) (fun _ _ _ h=>h) (Or.inr ⟨by rfl,rfl⟩) hHeld1 ?_
      simp only [Act.put,List.getElem_toArray,List.getElem_cons_zero,List.getElem_cons_succ,List.setIfInBounds_toArray,List.set_cons_zero,List.set_cons_succ]
      refine wpAnyH_take (i:=16) (oi:=_) (v:=undef) rfl (by kernel_rfl) (by kernel_rfl) (by kernel_rfl) (fun _ _ _ h=>h) (Or.inr ⟨by rfl,rfl⟩) hHeld1 ?_
      simp only [Act.put,List.getElem_toArray,List.getElem_cons_zero,List.getElem_cons_succ,List.setIfInBounds_toArray,List.set_cons_zero,List.set_cons_succ]
      refine wpAnyH_take (i:=17) (oi:=_) (v:=undef) rfl (by kernel_rfl) (by kernel_rfl) (by kernel_rfl) (fun _ _ _ h=>h) (Or.inr ⟨by rfl,rfl⟩) hHeld1 ?_
      simp only [Act.put,List.getElem_toArray,List.getElem_cons_zero,List.getElem_cons_succ,List.setIfInBounds_toArray,List.set_cons_zero,List.set_cons_succ]
      refine wpAnyH_take (i:=18) (oi:=_) (v:=.bool false) rfl (by kernel_rfl) (by kernel_rfl) (by kernel_rfl) (fun _ _ _ h=>h) (Or.inl ⟨by rfl,fun w' hSw=>by go_simp⟩) hHeld1 ?_
      simp only [Act.put,List.getElem_toArray,List.getElem_cons_zero,List.getElem_cons_succ,List.setIfInBounds_toArray,List.set_cons_zero,List.set_cons_succ]
      refine wpAnyH_done (by kernel_rfl) ?_ _
      go_wp2_with fail
      go_meet
      exact ⟨rfl,S4 _ hHeld1⟩
    case rest =>
     obtain ⟨wv,rfl⟩:∃ wv:World,wv=wr:=⟨_,rfl⟩
     obtain ⟨rfl,b4⟩:=hcut
     have HB4:=Lib.hid (HBW.out.trans (b4.mono HBW.out.size))
     clear b4
     go_wp2
     go_roundw
     case rel=>exact ⟨m+1,by omega,by go_num,HB4.out⟩
     case measure=>simp [intOf]; omega
   ·have HF:=Lib.hid (H17.out.over HBW.out)
    have SF:=Lib.hid (show Same Z2 w13 wr from fun b hb=>(HBW.out.block b (H17.out.lt_y b hb)).trans (SM17.out b hb))
    go_wp2
    go_roundw
    case rel=>exact ⟨k+1,v',by omega,by go_num,HF.out,J15.out,K15.out,SF.out⟩
    case measure=>simp [intOf]; omega
  ·have hkl:k=pl.length:=by omega
   subst hkl
   go_wp2
   go_ret
   exact ⟨rfl,BR.out⟩
end Go.Proofs.YtbkmdmmgalmmaaaGreatDoor
