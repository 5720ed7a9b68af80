/-
  TopAgain: the walk.
-/
import Derived.Test.YtajegiifabfcjaaGreatDoorTTgNw
import Derived.Test.YtajegiifabfcjaaGreatDoorTTgLaw2
import Derived.Test.YtajegiifabfcjaaGreatDoorTTgOld
import Derived.Test.YtajegiifabfcjaaGreatDoorTTgW0
import Derived.Test.YtajegiifabfcjaaGreatDoorQ10
namespace Go.Proofs.YtajegiifabfcjaaGreatDoor
open Go.RowKit Go.Sort
theorem own_shape {B:Nat} {w:World} {v:Value} {l:List Ms} (h:OwnM B w v l):∃ a cap,v=.slice a l.length cap:=by
 obtain ⟨-,h2 | ⟨g,cap,cur,e1,-⟩⟩:=h
 ·exact ⟨none,0,by rw [h2.1,h2.2]⟩
 ·exact ⟨_,_,e1⟩
set_option maxRecDepth 100000 in
set_option maxHeartbeats 40000000 in
theorem topagain_walk (l:List Ac) (a:Option Addr) (cap:Nat) (i:Int) (w:World) (hl:l.length≤maxLen) (hr:ActsAt w a l) (tt:Tabs w) :
  Calls Tryz.prog 12 #[.slice a l.length cap,.int .i64 i] w fun e w'=>e=.returned (.bool true)∧Below w.heap.size w w':=by
 have TT:=Lib.hid tt
 have WK:=Lib.hid (works_any w tt)
 have PLAYED:=Lib.hid (fun w' (b:RowKit.Below w.heap.size w w')=>played_any l a cap w' hl (hr.below b) (TT.out.on b))
 clear hr tt
 go_enter Tryz.func12,Tryz.ntmps12
 go_wp2_with fail
 refine WK.out.mono ?_
 rintro e w2 ⟨rfl,b2⟩
 have B2:=Lib.hid b2
 have PL:=Lib.hid (PLAYED.out w2 b2)
 clear b2 WK PLAYED
 go_wp2_with fail
 refine PL.out.mono ?_
 rintro e w3 (⟨rfl,b3⟩ | ⟨D,T,t,S,rfl,h3,j3⟩)
 ·have B3:=Lib.hid (show RowKit.Below w.heap.size w w3 from B2.out.trans (b3.mono B2.out.size))
  clear b3 PL
  go_wp2
  go_ret
  exact ⟨rfl,B3.out⟩
 have H3:=Lib.hid h3
 have J3:=Lib.hid j3
 have BW3:=Lib.hid (show RowKit.Below w.heap.size w w3 from B2.out.trans (h3.below.mono B2.out.size))
 clear h3 j3 PL
 by_cases hi0:i<0
 ·go_wp2
  go_ret
  exact ⟨rfl,BW3.out⟩
 by_cases hi7:7<i
 ·go_wp2
  go_ret
  exact ⟨rfl,BW3.out⟩
 obtain ⟨k,rfl⟩:∃ k:Nat,i=(k:Int):=⟨i.toNat,by omega⟩
 have HK8:=Lib.hid (show k<8 from by omega)
 have NWC:=Lib.hid (newest_any w2 w3 10 D T t _ k H3.out HK8.out)
 obtain ⟨X,hX⟩:∃ X,t.newest k=X:=⟨_,rfl⟩
 obtain ⟨MO,hMO⟩:∃ X,t.most=X:=⟨_,rfl⟩
 have LAW:=Lib.hid (again_law J3.out.ti (by omega) k)
 rw [hX,hMO] at NWC LAW
 clear hX hMO
 go_wp2_with fail
 refine NWC.out.mono ?_
 rintro e w4 ⟨rfl,b4⟩
 dsimp only [Cel.cells]
 obtain ⟨w5,hw5⟩:∃ w5,w5=w4.alloc (.cells #[.int .i64 X.e,.int .i64 X.n,.string X.d] 30):=⟨_,rfl⟩
 have B5:=Lib.hid (show RowKit.Below w3.heap.size w3 w5 from b4.trans ((hw5▸bal w4 _:RowKit.Below w4.heap.size w4 w5).mono b4.size))
 have C5:=Lib.hid (show w5.heap[w4.heap.size]?=some (.cells X.cells 30 (0,0)) from hw5▸heap_alloc_new w4 _)
 have LC:=Lib.hid (show w3.heap.size≤w4.heap.size from b4.size)
 go_upto_region 8 with fail
 rw [← hw5]
 obtain ⟨C,hC⟩:∃ V,w4.heap.size=V:=⟨_,rfl⟩
 rw [hC] at C5 LC ⊢
 clear hw5 hC b4 NWC hi0 hi7 BW3
 obtain ⟨Z,hZ⟩:∃ Z:Nat→Prop,Z=fun c=>(fun _=>False) c∨(w3.heap.size≤c∧c<w5.heap.size):=⟨_,rfl⟩
 have H5:=Lib.hid (show TgR w2 10 D T t Z w5 from hZ▸H3.out.more B5.out)
 have ZC:=Lib.hid (show Z C from hZ▸Or.inr ⟨LC.out,(Array.getElem?_eq_some_iff.1 C5.out).1⟩)
 clear hZ
 have GRP:=Lib.hid (tgroup_any w2 w5 10 D T t Z H5.out)
 obtain ⟨ga,hga⟩:∃ ga,t.g.arr=ga:=⟨_,rfl⟩
 have NEW:=Lib.hid (show ∀ w',RowKit.Below w5.heap.size w5 w'→∃ K a cap,Calls Tryz.prog 40 #[.pointer (some ⟨D,0,none⟩),.agg ga] w' fun e w''=>(((Tg.new 10 t.k t.g).2=0→∃ T',e=.returned (.tuple #[.pointer (some ⟨T',0,none⟩),.nilIface])∧TgR w2 10 D T' (Tg.new 10 t.k t.g).1 (fun _=>False) w''∧OldT w'' T K D a cap t.k∧w''.heap[C]?=w'.heap[C]?) ∧
   ((Tg.new 10 t.k t.g).2≠0→e=.returned (.tuple #[.pointer none,errV (Tg.new 10 t.k t.g).2])∧RowKit.Below w2.heap.size w2 w'')) from fun w' b=>by
  obtain ⟨K,a,cap,Y',old,dki,lo',zy,bl,keep⟩:=(H5.out.over b).old
  refine ⟨K,a,cap,?_⟩
  rw [← hga]
  refine (tnew_any w2 w' 10 D t.k.d Y' t.k.num t.k.ep t.k.s t.g dki J3.out.ti.kd J3.out.sz J3.out.ti.qi.ok (by have:=J3.out.ti.kb; omega) (TT.out.on B2.out) lo').mono ?_
  rintro e w'' ⟨⟨p1,p2⟩,p3⟩
  refine ⟨fun hz=>?_,fun hz=>⟨p2 hz,?_⟩⟩
  ·obtain ⟨T',e1,h,sm,-⟩:=p1 hz
   exact ⟨T',e1,h.less (fun _ q=>q.elim),keep w'' sm h.below,sm C (zy C ZC.out)⟩
  ·have hnr:(Tg.start t.k t.g).isReady=false∨t.k.ep=1000000:=by
    obtain ⟨n1,-,-⟩:=new_live J3.out.ti (by omega)
    by_cases hm:2≤(t.g.mem t.k.ep).length
    ·by_cases he:t.k.ep=1000000
     ·exact .inr he
     ·exact absurd (n1 hm he).1 hz
    ·left
     have e1:(Tg.start t.k t.g).isReady=t.isReady:=rfl
     rw [e1,J3.out.ti.isReady]
     exact decide_eq_false hm
   exact bl.trans ((p3 hnr).mono bl.size))
 have KS:=Lib.hid (show t.k.s.regs.length≤1000 from by have:=J3.out.ti.good.regs_len; omega)
 obtain ⟨nr,hnr⟩:∃ r,Tg.new 10 t.k t.g=r:=⟨_,rfl⟩
 rw [hnr] at NEW LAW
 rw [hga] at GRP
 clear hnr hga
 go_wp2_with fail
 refine GRP.out.mono ?_
 rintro e w6 ⟨rfl,b6⟩
 have C6:=Lib.hid ((b6.block C (Array.getElem?_eq_some_iff.1 C5.out).1).trans C5.out)
 obtain ⟨K,aK,capK,hnew⟩:=NEW.out w6 b6
 have NW:=Lib.hid hnew
 clear b6 hnew NEW GRP
 go_wp2_with fail
 refine NW.out.mono ?_
 rintro e w7 ⟨p1,p2⟩
 by_cases hz:nr.2=0
 case neg =>
  obtain ⟨rfl,bl7⟩:=p2 hz
  obtain ⟨hmo,h7⟩:=LAW.out.1 hz
  have BZ:=Lib.hid (show RowKit.Below w.heap.size w w7 from B2.out.trans (bl7.mono B2.out.size))
  have NUM:=Lib.hid (tpnum_any 7 (by omega) w7)
  rw [errV_some hz,h7]
  rw [hmo]
  clear p1 p2 hz bl7 hmo h7 NW LAW
  go_wp2_with fail
  refine NUM.out.mono ?_
  rintro e w8 ⟨rfl,b8⟩
  have BY:=Lib.hid (show RowKit.Below w.heap.size w w8 from BZ.out.trans (b8.mono BZ.out.size))
  clear b8
  go_wp2
  go_ret
  exact ⟨rfl,BY.out⟩
 obtain ⟨T',rfl,h7,old7,c7⟩:=p1 hz
 obtain ⟨hs,hep,hwt,hfl,hnw,hti⟩:=LAW.out.2 hz
 have H7:=Lib.hid h7
 have OL7:=Lib.hid old7
 have C7:=Lib.hid (c7.trans C6.out)
 obtain ⟨x,hx⟩:∃ x,nr.1=x:=⟨_,rfl⟩
 rw [hx] at H7 hs hep hwt hfl hnw
 have NWC:=Lib.hid (newest_any w2 w7 10 D T' x _ k H7.out HK8.out)
 rw [hnw] at NWC
 clear p1 p2 hz h7 old7 c7 LAW NW hx hti hnw
 have HS:=Lib.hid hs
 have HEP:=Lib.hid hep
 have HWT:=Lib.hid hwt
 have HFL:=Lib.hid hfl
 clear hs hep hwt hfl
 go_wp2_with fail
 refine NWC.out.mono ?_
 rintro e w8 ⟨rfl,b8⟩
 dsimp only [Cel.cells]
 obtain ⟨w9,hw9⟩:∃ w9,w9=w8.alloc (.cells #[.int .i64 X.e,.int .i64 X.n,.string X.d] 30):=⟨_,rfl⟩
 have B9:=Lib.hid (show RowKit.Below w7.heap.size w7 w9 from b8.trans ((hw9▸bal w8 _:RowKit.Below w8.heap.size w8 w9).mono b8.size))
 have E9:=Lib.hid (show w9.heap[w8.heap.size]?=some (.cells X.cells 30 (0,0)) from hw9▸heap_alloc_new w8 _)
 have C9:=Lib.hid ((B9.out.block C (Array.getElem?_eq_some_iff.1 C7.out).1).trans C7.out)
 go_upto_region 12 with fail
 rw [← hw9]
 obtain ⟨EB,hEB⟩:∃ V,w8.heap.size=V:=⟨_,rfl⟩
 rw [hEB] at E9 ⊢
 clear hw9 hEB b8 NWC
 have H9:=Lib.hid (H7.out.over B9.out)
 have OL9:=Lib.hid (OL7.out.over B9.out)
 have BW9:=Lib.hid (show RowKit.Below w.heap.size w w9 from B2.out.trans (H9.out.below.mono B2.out.size))
 have STA:=Lib.hid (tstate_any w2 w9 10 D T' x _ H9.out (by rw [HS.out]; exact KS.out))
 rw [HS.out] at STA
 go_wp2_with fail
 refine STA.out.mono ?_
 rintro e w10 ⟨a10,c10,rfl,hs10,b10,-⟩
 have HS10:=Lib.hid hs10
 have B10:=Lib.hid b10
 have STO:=Lib.hid (tstate_old w10 T K D aK capK t.k (OL9.out.over b10) KS.out)
 clear hs10 b10 STA
 go_wp2_with fail
 refine STO.out.mono ?_
 rintro e w11 ⟨a11,c11,rfl,hs11,b11,-⟩
 have B11:=Lib.hid (show RowKit.Below w9.heap.size w9 w11 from B10.out.trans (b11.mono B10.out.size))
 have SAME:=Lib.hid (samestate_true t.k.s a10 a11 c10 c11 w11 (HS10.out.below b11) hs11)
 clear hs11 b11 STO HS10
 go_wp2_with fail
 refine SAME.out.mono ?_
 rintro e w12 ⟨rfl,b12⟩
 have B12:=Lib.hid (show RowKit.Below w9.heap.size w9 w12 from B11.out.trans (b12.mono B11.out.size))
 have EPX:=Lib.hid (tepoch_any w2 w12 10 D T' x _ (H9.out.over B12.out))
 have EPO:=Lib.hid (tepoch_old w12 T K D aK capK t.k (OL9.out.over B12.out))
 have hep:=HEP.out
 clear b12 SAME
 go_wp2_with fail
 refine EPX.out.mono ?_
 rintro e w12 ⟨rfl,rfl⟩
 go_wp2_with fail
 refine EPO.out.mono ?_
 rintro e w12 ⟨rfl,rfl⟩
 have WT:=Lib.hid (twaiting_none w2 w12 10 D T' x _ (H9.out.over B12.out) HWT.out)
 clear EPX EPO
 go_wp2_with fail
 refine WT.out.mono ?_
 rintro e w13 ⟨⟨wa,wcc,rfl⟩,b13⟩
 have B13:=Lib.hid (show RowKit.Below w9.heap.size w9 w13 from B12.out.trans (b13.mono B12.out.size))
 have FLY:=Lib.hid (tflying_any w2 w13 10 D T' x _ (H9.out.over B13.out) (by rw [HFL.out]; simp))
 clear b13 WT hep
 go_wp2_with fail
 refine FLY.out.mono ?_
 rintro e w14 ⟨v14,rfl,o14,b14⟩
 obtain ⟨fa,fc,rfl⟩:=own_shape o14
 rw [HFL.out]
 have B14:=Lib.hid (show RowKit.Below w9.heap.size w9 w14 from B13.out.trans (b14.mono B13.out.size))
 have E14:=Lib.hid ((B14.out.block EB (Array.getElem?_eq_some_iff.1 E9.out).1).trans E9.out)
 have C14:=Lib.hid ((B14.out.block C (Array.getElem?_eq_some_iff.1 C9.out).1).trans C9.out)
 have BE:=Lib.hid (show RowKit.Below w.heap.size w w14 from BW9.out.trans (B14.out.mono BW9.out.size))
 clear o14 b14 FLY
 cases MO
 ·go_wp2
  go_ret
  exact ⟨rfl,BE.out⟩
 ·have EQ:=fun w=>(eql_cell X X w).trans (show _=Result.ok (.bool true) w from by simp)
  have hgu:=eqg_cell
  go_wp2_with (first | ((with_reducible refine ld_row_g1 30 _ rfl ?_); first | refine ⟨by rfl,EB,_,X.cells,_,rfl,E14.out,cell_row.1,rfl,cell_row.2,?_⟩ | refine ⟨by rfl,C,_,X.cells,_,rfl,C14.out,cell_row.1,rfl,cell_row.2,?_⟩) | ((with_reducible refine bin_g1 .eql 30 _ _ _ rfl ?_); refine ⟨by rfl,X.cells,X.cells,.bool true,rfl,rfl,hgu,EQ,?_⟩))
  go_ret
  exact ⟨rfl,BE.out⟩
end Go.Proofs.YtajegiifabfcjaaGreatDoor
