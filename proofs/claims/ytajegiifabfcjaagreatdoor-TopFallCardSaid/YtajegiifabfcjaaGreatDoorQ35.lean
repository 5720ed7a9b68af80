/-
  Contract of a target's method read. (Printed in part by gen_tg4.py.)
-/
import Derived.Test.YtajegiifabfcjaaGreatDoorQ28
namespace Go.Proofs.YtajegiifabfcjaaGreatDoor
open Go.RowKit Go.Sort
section
variable (w0 w:World) (n D T:Nat) (t:Tg) (Y:Nat→Prop)
set_option maxRecDepth 100000 in
set_option maxHeartbeats 16000000 in
theorem tread_any (k:Nat) (hk:k<8) (h:TgR w0 n D T t Y w) (he:0≤t.k.ep∧t.k.ep≤1000000) (hok:t.g.ok) :
  Calls Tryz.prog 57 #[.pointer (some ⟨T,0,none⟩),.int .i64 k] w fun e w'=>e=.returned (.tuple #[.string (t.read k).2.1,errV (t.read k).2.2])∧TgPost w0 w n D T (t.read k).1 Y w':=by
 have RDY:=Lib.hid (ready_any w0 w n D T t Y h he (Gp.fence_ok hok _))
 have HH:=Lib.hid h
 have RD:=Lib.hid (show t.read k=if t.isReady=false then (t.ready,⟨#[]⟩,7) else ({ t.ready with g:=t.ready.g.read t.ready.k.ep k },(t.ready.g.readC t.ready.k.ep k).d,0) from rfl)
 have ISR:=Lib.hid (show t.isReady=decide (2≤(t.ready.g.mem t.ready.k.ep).length) from rfl)
 obtain ⟨r,hr⟩:∃ r,t.read k=r:=⟨_,rfl⟩
 rw [hr] at RD ⊢
 clear hr h he hok
 go_enter Tryz.func57,Tryz.ntmps57
 go_wp2_with fail
 refine RDY.out.mono ?_
 rintro e w2 ⟨rfl,h2,k2⟩
 have H2:=Lib.hid h2
 have K2:=Lib.hid k2
 have SY2:=Lib.hid (HH.out.same_y k2)
 clear h2 k2 RDY
 rw [errV_bool]
 cases hrd:t.isReady
 ·have RD1:=Lib.hid (RD.out.trans (if_pos hrd))
  clear RD ISR
  simp only [Bool.false_eq_true,if_false]
  go_wp2
  have P:=Lib.hid (show TgPost w0 w n D T t.ready Y w2 from ⟨H2.out,SY2.out,K2.out⟩)
  exact bodyPost_ret (v:=.tuple #[.string ⟨#[]⟩,errV 7]) (by simp [results,Tryz.results57,go_sem,errV]) rfl (by rw [RD1.out]; exact ⟨rfl,P.out⟩)
 have RD1:=Lib.hid (RD.out.trans (if_neg (by rw [hrd]; decide)))
 have IS2:=Lib.hid (ISR.out.symm.trans hrd)
 clear RD ISR hrd
 simp only [if_true]
 obtain ⟨t2,ht2⟩:∃ t2,t.ready=t2:=⟨_,rfl⟩
 rw [ht2] at H2 RD1 IS2
 clear ht2
 obtain ⟨X,m,ki,tb,lo,hy⟩:=H2.out
 have LTT:=(Array.getElem?_eq_some_iff.1 tb.blk).1
 have ZG:=Lib.hid (Gp.size tb.ok)
 have TB:=Lib.hid tb
 have KI0:=Lib.hid ki
 have LO:=Lib.hid lo
 have HY:=Lib.hid hy
 have RG:=Lib.hid (fun w' (h:RowKit.Below w2.heap.size w2 w')=>(show w'.rangeAt T 1 t2.g.arr.toList from fun j v hv=>(h.cell (p:=⟨T,1+j,none⟩) LTT).trans ((tg_range tb.blk tb.ok).1 j v hv)))
 have SC:=Lib.hid (fun w' (h:RowKit.Below w2.heap.size w2 w')=>(h.cell (p:=⟨T,0,none⟩) LTT).trans (tg_cells tb.blk tb.ok).1.1)
 have EPO:=Lib.hid (fun w' (h:RowKit.Below w2.heap.size w2 w')=>epochI n w0 w' X D m.K t2.k (ki.over h))
 have FEN:=Lib.hid (fun w'=>gread_any t2.g t2.k.ep k w' tb.ok hk)
 have OKF:=Lib.hid (Gp.read_ok tb.ok t2.k.ep k)
 rw [IS2.out] at FEN
 obtain ⟨FG,hFG⟩:∃ FG,t2.g.read t2.k.ep k=FG:=⟨_,rfl⟩
 obtain ⟨CC,hCC⟩:∃ CC,t2.g.readC t2.k.ep k=CC:=⟨_,rfl⟩
 rw [hFG,hCC] at FEN RD1
 rw [hFG] at OKF
 have ZF:=Lib.hid (Gp.size OKF.out)
 clear hFG hCC ki tb lo hy IS2
 go_upto_region 4 with fail
 go_cut [7,8,9] (fun v7 v8 v9 wx=>∃ V V2,v7=.pointer (some ⟨V,0,none⟩)∧v8=.pointer (some ⟨V2,0,none⟩)∧v9=.bool true∧w2.heap.size≤V∧wx.heap[V]?=some (.cells FG.arr 60 (0,0))∧wx.heap[V2]?=some (.cells CC.cells 30 (0,0))∧RowKit.Below w2.heap.size w2 wx)
 case first =>
  obtain ⟨S,hS⟩:∃ S:World→Prop,S=fun w'=>RowKit.Below w2.heap.size w2 w':=⟨_,rfl⟩
  have S3:∀ w',RowKit.Below w2.heap.size w2 w'→S w':=fun w' h=>by rw [hS]; exact h
  have S4:∀ w',S w'→RowKit.Below w2.heap.size w2 w':=fun w' h=>by rw [hS] at h; exact h
  clear hS
  refine wp_region_held_drew (S:=S) (by kernel_rfl) (S3 _ (Below.refl _ _).drew) (fun hHeld=>?_)
  obtain ⟨wd,hwd⟩:∃ wd,wd=w2.drew:=⟨_,rfl⟩
  rw [← hwd] at hHeld ⊢
  clear hwd
  refine wt 0 (.pointer (some ⟨T,0,none⟩)) hHeld ?_
  go_simp
  refine wt 1 (.pointer (some ⟨T,0,none⟩)) hHeld ?_
  go_simp
  refine wt 2 (.pointer (some ⟨T,1,none⟩)) hHeld ?_
  go_simp
  refine wt 3 (.agg t2.g.arr) hHeld ?_ (hy:=yieldsIf_load_midA (by rfl) 60 _ rfl T 1 rfl t2.g.arr _ (fun w' h=>RG.out w' (S4 w' h)) gp_row.1 rfl (by rw [gp_row.2,ZG.out]))
  go_simp
  refine wt 4 (.pointer (some ⟨T,0,none⟩)) hHeld ?_
  go_simp
  refine wt 5 (.pointer (some ⟨T,0,none⟩)) hHeld ?_
  go_simp
  refine wt 6 (.pointer (some ⟨T,0,none⟩)) hHeld ?_
  go_simp
  refine wt 7 (.pointer (some ⟨m.K,0,none⟩)) hHeld ?_ (hy:=Or.inl ⟨by rfl,fun w' hSw=>by have hc:=SC.out w' (S4 w' hSw); go_simp⟩)
  go_simp
  refine wt 9 (.int .i64 (k:Int)) hHeld ?_
  go_simp
  refine wpAnyH_ready (rs:=[8,15,16]) (by kernel_rfl) (by simp) ?_
  refine AllReadyH.cons (o:=_) rfl (fun Kx hK=>?_) (AllReadyH.cons (o:=_) rfl (fun Kx hK=>?_) (AllReadyH.cons (o:=_) rfl (fun Kx hK=>?_) AllReadyH.nil))
  ·go_simp
   refine (EPO.out _ (S4 _ hHeld)).mono ?_
   rintro e w1_ ⟨rfl,hq⟩
   replace hq:=hq.symm
   subst hq
   have HH1:=hHeld
   refine hK.out _ _ HH1 (fun hHeld1=>?_)
   clear hK Kx HH1
   refine wpAnyH_ready (rs:=[10,15,16]) (by kernel_rfl) (by simp) ?_
   refine AllReadyH.cons (o:=_) rfl (fun Kx hK=>?_) (AllReadyH.cons (o:=_) rfl (fun Kx hK=>?_) (AllReadyH.cons (o:=_) rfl (fun Kx hK=>?_) AllReadyH.nil))
   ·go_simp
    refine (FEN.out _).mono ?_
    rintro e w2_ ⟨rfl,b2⟩
    have HH2:=S3 _ ((S4 _ hHeld1).trans (b2.mono (S4 _ hHeld1).size))
    clear b2
    refine hK.out _ _ HH2 (fun hHeld2=>?_)
    clear hK Kx HH2
    refine wt 11 (.tuple #[.agg FG.arr,.agg CC.cells,.bool true]) hHeld2 ?_
    go_simp
    refine wt 12 (.agg FG.arr) hHeld2 ?_
    go_simp
    refine wt 13 (.agg CC.cells) hHeld2 ?_
    go_simp
    refine wt 14 (.bool true) hHeld2 ?_
    go_simp
    refine wpAnyH_ready (rs:=[15,16]) (by kernel_rfl) (by simp) ?_
    refine AllReadyH.cons (o:=_) rfl (fun Kx hK=>?_) (AllReadyH.cons (o:=_) rfl (fun Kx hK=>?_) AllReadyH.nil)
    ·go_simp
     obtain ⟨w3_,hw3⟩:∃ x,x=w2_.alloc (.cells Tryz.zeroCells60 60):=⟨_,rfl⟩
     have HV3:=Lib.hid (show w3_.heap[w2_.heap.size]?=some (.cells Gp.zero.arr 60 (0,0)) from hw3▸gp_zero_arr▸heap_alloc_new _ _)
     have HH3:=S3 _ (show RowKit.Below w2.heap.size w2 w3_ from hw3▸(S4 _ hHeld2).alloc (S4 _ hHeld2).size _)
     have HL3:w2.heap.size≤w2_.heap.size:=(S4 _ hHeld2).size
     rw [← hw3]
     obtain ⟨V3,hV3⟩:∃ V,w2_.heap.size=V:=⟨_,rfl⟩
     rw [hV3] at HV3 HL3 ⊢
     clear hw3 hV3
     refine hK.out _ _ HH3 (fun hHeld3=>?_)
     clear hK Kx HH3
     refine wpAnyH_ready (rs:=[16]) (by kernel_rfl) (by simp) ?_
     refine AllReadyH.cons (o:=_) rfl (fun Kx hK=>?_) AllReadyH.nil
     go_simp
     obtain ⟨w4_,hw4⟩:∃ x,x=w3_.alloc (.cells #[.int .i64 0,.int .i64 0,.string ⟨#[]⟩] 30):=⟨_,rfl⟩
     have CV4:=Lib.hid (show w4_.heap[w3_.heap.size]?=some (.cells #[.int .i64 0,.int .i64 0,.string ⟨#[]⟩] 30 (0,0)) from hw4▸heap_alloc_new _ _)
     have HV4:=Lib.hid (show w4_.heap[V3]?=some (.cells Gp.zero.arr 60 (0,0)) from hw4▸(Below.heap_alloc _ _ _ (Array.getElem?_eq_some_iff.1 HV3.out).1).trans HV3.out)
     have HH4:=S3 _ (show RowKit.Below w2.heap.size w2 w4_ from hw4▸(S4 _ hHeld3).alloc (S4 _ hHeld3).size _)
     have CL4:w2.heap.size≤w3_.heap.size:=(S4 _ hHeld3).size
     rw [← hw4]
     obtain ⟨C4,hC4⟩:∃ V,w3_.heap.size=V:=⟨_,rfl⟩
     rw [hC4] at CV4 CL4 ⊢
     clear hw4 hC4
     refine hK.out _ _ HH4 (fun hHeld4=>?_)
     clear hK Kx HH4
     refine wpAnyH_ready (rs:=[17]) (by kernel_rfl) (by simp) ?_
     refine AllReadyH.cons (o:=_) rfl (fun Kx hK=>?_) AllReadyH.nil
     refine step_store_row rfl 60 _ _ rfl V3 FG.arr rfl rfl 60 Gp.zero.arr HV4.out (by rw [gp_row.2,ZF.out]) (by rw [ZF.out]; rfl) (Gp.one _) ?_
     have HS5:=Lib.hid (show (World.setRow w4_ V3 FG.arr).heap[V3]?=some (.cells FG.arr 60 (0,0)) from setRow_heap _ _ _ _ _ _ HV4.out)
     have CV5:=Lib.hid (show (World.setRow w4_ V3 FG.arr).heap[C4]?=some (.cells #[.int .i64 0,.int .i64 0,.string ⟨#[]⟩] 30 (0,0)) from (setRow_other _ _ _ _ (fun q=>by have h1:=HV4.out; rw [← q,CV4.out] at h1; exact absurd (congrArg (fun o:Option Obj=>match o with | some (.cells _ ty _)=>ty | _=>0) h1:(30:Nat)=60) (by decide))).trans CV4.out)
     have HH5:=S3 _ (show RowKit.Below w2.heap.size w2 (World.setRow w4_ V3 FG.arr) from below_setRow' (S4 _ hHeld4) HL3 _)
     obtain ⟨w5_,hw5⟩:∃ x,x=World.setRow w4_ V3 FG.arr:=⟨_,rfl⟩
     rw [← hw5] at HS5 HH5 CV5 ⊢
     clear hw5
     refine hK.out _ _ HH5 (fun hHeld5=>?_)
     clear hK Kx HH5
     go_simp
     refine wpAnyH_ready (rs:=[18]) (by kernel_rfl) (by simp) ?_
     refine AllReadyH.cons (o:=_) rfl (fun Kx hK=>?_) AllReadyH.nil
     refine step_store_row rfl 30 _ _ rfl C4 CC.cells rfl rfl 30 #[.int .i64 0,.int .i64 0,.string ⟨#[]⟩] CV5.out cell_row.2 rfl (cel_one _) ?_
     have CS6:=Lib.hid (show (World.setRow w5_ C4 CC.cells).heap[C4]?=some (.cells CC.cells 30 (0,0)) from setRow_heap _ _ _ _ _ _ CV5.out)
     have HS6:=Lib.hid (show (World.setRow w5_ C4 CC.cells).heap[V3]?=some (.cells FG.arr 60 (0,0)) from (setRow_other _ _ _ _ (fun q=>by have h1:=HS5.out; rw [q,CV5.out] at h1; exact absurd (congrArg (fun o:Option Obj=>match o with | some (.cells _ ty _)=>ty | _=>0) h1:(30:Nat)=60) (by decide))).trans HS5.out)
     have HH6:=S3 _ (show RowKit.Below w2.heap.size w2 (World.setRow w5_ C4 CC.cells) from below_setRow' (S4 _ hHeld5) CL4 _)
     refine hK.out _ _ HH6 (fun hHeld6=>?_)
     clear hK Kx HH6
     go_simp
     refine wpAnyH_ready (rs:=[19]) (by kernel_rfl) (by simp) ?_
     refine AllReadyH.cons (o:=_) rfl (fun Kx hK=>?_) AllReadyH.nil
     go_simp
     have HH7:=hHeld6
     refine hK.out _ _ HH7 (fun hHeld7=>?_)
     clear hK Kx HH7
     refine wpAnyH_done (by kernel_rfl) ?_ _
     go_wp2_with fail
     go_meet
     exact ⟨V3,C4,rfl,rfl,rfl,HL3,HS6.out,CS6.out,S4 _ hHeld7⟩
    ·go_simp
     obtain ⟨w8_,hw8⟩:∃ x,x=w2_.alloc (.cells #[.int .i64 0,.int .i64 0,.string ⟨#[]⟩] 30):=⟨_,rfl⟩
     have CV8:=Lib.hid (show w8_.heap[w2_.heap.size]?=some (.cells #[.int .i64 0,.int .i64 0,.string ⟨#[]⟩] 30 (0,0)) from hw8▸heap_alloc_new _ _)
     have HH8:=S3 _ (show RowKit.Below w2.heap.size w2 w8_ from hw8▸(S4 _ hHeld2).alloc (S4 _ hHeld2).size _)
     have CL8:w2.heap.size≤w2_.heap.size:=(S4 _ hHeld2).size
     rw [← hw8]
     obtain ⟨C8,hC8⟩:∃ V,w2_.heap.size=V:=⟨_,rfl⟩
     rw [hC8] at CV8 CL8 ⊢
     clear hw8 hC8
     refine hK.out _ _ HH8 (fun hHeld8=>?_)
     clear hK Kx HH8
     refine wpAnyH_ready (rs:=[15]) (by kernel_rfl) (by simp) ?_
     refine AllReadyH.cons (o:=_) rfl (fun Kx hK=>?_) AllReadyH.nil
     go_simp
     obtain ⟨w9_,hw9⟩:∃ x,x=w8_.alloc (.cells Tryz.zeroCells60 60):=⟨_,rfl⟩
     have HV9:=Lib.hid (show w9_.heap[w8_.heap.size]?=some (.cells Gp.zero.arr 60 (0,0)) from hw9▸gp_zero_arr▸heap_alloc_new _ _)
     have CV9:=Lib.hid (show w9_.heap[C8]?=some (.cells #[.int .i64 0,.int .i64 0,.string ⟨#[]⟩] 30 (0,0)) from hw9▸(Below.heap_alloc _ _ _ (Array.getElem?_eq_some_iff.1 CV8.out).1).trans CV8.out)
     have HH9:=S3 _ (show RowKit.Below w2.heap.size w2 w9_ from hw9▸(S4 _ hHeld8).alloc (S4 _ hHeld8).size _)
     have HL9:w2.heap.size≤w8_.heap.size:=(S4 _ hHeld8).size
     rw [← hw9]
     obtain ⟨V9,hV9⟩:∃ V,w8_.heap.size=V:=⟨_,rfl⟩
     rw [hV9] at HV9 HL9 ⊢
     clear hw9 hV9
     refine hK.out _ _ HH9 (fun hHeld9=>?_)
     clear hK Kx HH9
     refine wpAnyH_ready (rs:=[17]) (by kernel_rfl) (by simp) ?_
     refine AllReadyH.cons (o:=_) rfl (fun Kx hK=>?_) AllReadyH.nil
     refine step_store_row rfl 60 _ _ rfl V9 FG.arr rfl rfl 60 Gp.zero.arr HV9.out (by rw [gp_row.2,ZF.out]) (by rw [ZF.out]; rfl) (Gp.one _) ?_
     have HS10:=Lib.hid (show (World.setRow w9_ V9 FG.arr).heap[V9]?=some (.cells FG.arr 60 (0,0)) from setRow_heap _ _ _ _ _ _ HV9.out)
     have CV10:=Lib.hid (show (World.setRow w9_ V9 FG.arr).heap[C8]?=some (.cells #[.int .i64 0,.int .i64 0,.string ⟨#[]⟩] 30 (0,0)) from (setRow_other _ _ _ _ (fun q=>by have h1:=HV9.out; rw [← q,CV9.out] at h1; exact absurd (congrArg (fun o:Option Obj=>match o with | some (.cells _ ty _)=>ty | _=>0) h1:(30:Nat)=60) (by decide))).trans CV9.out)
     have HH10:=S3 _ (show RowKit.Below w2.heap.size w2 (World.setRow w9_ V9 FG.arr) from below_setRow' (S4 _ hHeld9) HL9 _)
     obtain ⟨w10_,hw10⟩:∃ x,x=World.setRow w9_ V9 FG.arr:=⟨_,rfl⟩
     rw [← hw10] at HS10 HH10 CV10 ⊢
     clear hw10
     refine hK.out _ _ HH10 (fun hHeld10=>?_)
     clear hK Kx HH10
     go_simp
     refine wpAnyH_ready (rs:=[18]) (by kernel_rfl) (by simp) ?_
     refine AllReadyH.cons (o:=_) rfl (fun Kx hK=>?_) AllReadyH.nil
     refine step_store_row rfl 30 _ _ rfl C8 CC.cells rfl rfl 30 #[.int .i64 0,.int .i64 0,.string ⟨#[]⟩] CV10.out cell_row.2 rfl (cel_one _) ?_
     have CS11:=Lib.hid (show (World.setRow w10_ C8 CC.cells).heap[C8]?=some (.cells CC.cells 30 (0,0)) from setRow_heap _ _ _ _ _ _ CV10.out)
     have HS11:=Lib.hid (show (World.setRow w10_ C8 CC.cells).heap[V9]?=some (.cells FG.arr 60 (0,0)) from (setRow_other _ _ _ _ (fun q=>by have h1:=HS10.out; rw [q,CV10.out] at h1; exact absurd (congrArg (fun o:Option Obj=>match o with | some (.cells _ ty _)=>ty | _=>0) h1:(30:Nat)=60) (by decide))).trans HS10.out)
     have HH11:=S3 _ (show RowKit.Below w2.heap.size w2 (World.setRow w10_ C8 CC.cells) from below_setRow' (S4 _ hHeld10) CL8 _)
     refine hK.out _ _ HH11 (fun hHeld11=>?_)
     clear hK Kx HH11
     go_simp
     refine wpAnyH_ready (rs:=[19]) (by kernel_rfl) (by simp) ?_
     refine AllReadyH.cons (o:=_) rfl (fun Kx hK=>?_) AllReadyH.nil
     go_simp
     have HH12:=hHeld11
     refine hK.out _ _ HH12 (fun hHeld12=>?_)
     clear hK Kx HH12
     refine wpAnyH_done (by kernel_rfl) ?_ _
     go_wp2_with fail
     go_meet
     exact ⟨V9,C8,rfl,rfl,rfl,HL9,HS11.out,CS11.out,S4 _ hHeld12⟩
   ·go_simp
    obtain ⟨w13_,hw13⟩:∃ x,x=wd.alloc (.cells Tryz.zeroCells60 60):=⟨_,rfl⟩
    have HV13:=Lib.hid (show w13_.heap[wd.heap.size]?=some (.cells Gp.zero.arr 60 (0,0)) from hw13▸gp_zero_arr▸heap_alloc_new _ _)
    have HH13:=S3 _ (show RowKit.Below w2.heap.size w2 w13_ from hw13▸(S4 _ hHeld1).alloc (S4 _ hHeld1).size _)
    have HL13:w2.heap.size≤wd.heap.size:=(S4 _ hHeld1).size
    rw [← hw13]
    obtain ⟨V13,hV13⟩:∃ V,wd.heap.size=V:=⟨_,rfl⟩
    rw [hV13] at HV13 HL13 ⊢
    clear hw13 hV13
    refine hK.out _ _ HH13 (fun hHeld13=>?_)
    clear hK Kx HH13
    refine wpAnyH_ready (rs:=[10,16]) (by kernel_rfl) (by simp) ?_
    refine AllReadyH.cons (o:=_) rfl (fun Kx hK=>?_) (AllReadyH.cons (o:=_) rfl (fun Kx hK=>?_) AllReadyH.nil)
    ·go_simp
     refine (FEN.out _).mono ?_
     rintro e w14_ ⟨rfl,b14⟩
     have HH14:=S3 _ ((S4 _ hHeld13).trans (b14.mono (S4 _ hHeld13).size))
     have HV14:=Lib.hid ((b14.block _ (Array.getElem?_eq_some_iff.1 HV13.out).1).trans HV13.out)
     clear b14
     refine hK.out _ _ HH14 (fun hHeld14=>?_)
     clear hK Kx HH14
     refine wt 11 (.tuple #[.agg FG.arr,.agg CC.cells,.bool true]) hHeld14 ?_
     go_simp
     refine wt 12 (.agg FG.arr) hHeld14 ?_
     go_simp
     refine wt 13 (.agg CC.cells) hHeld14 ?_
     go_simp
     refine wt 14 (.bool true) hHeld14 ?_
     go_simp
     refine wpAnyH_ready (rs:=[16]) (by kernel_rfl) (by simp) ?_
     refine AllReadyH.cons (o:=_) rfl (fun Kx hK=>?_) AllReadyH.nil
     go_simp
     obtain ⟨w15_,hw15⟩:∃ x,x=w14_.alloc (.cells #[.int .i64 0,.int .i64 0,.string ⟨#[]⟩] 30):=⟨_,rfl⟩
     have CV15:=Lib.hid (show w15_.heap[w14_.heap.size]?=some (.cells #[.int .i64 0,.int .i64 0,.string ⟨#[]⟩] 30 (0,0)) from hw15▸heap_alloc_new _ _)
     have HV15:=Lib.hid (show w15_.heap[V13]?=some (.cells Gp.zero.arr 60 (0,0)) from hw15▸(Below.heap_alloc _ _ _ (Array.getElem?_eq_some_iff.1 HV14.out).1).trans HV14.out)
     have HH15:=S3 _ (show RowKit.Below w2.heap.size w2 w15_ from hw15▸(S4 _ hHeld14).alloc (S4 _ hHeld14).size _)
     have CL15:w2.heap.size≤w14_.heap.size:=(S4 _ hHeld14).size
     rw [← hw15]
     obtain ⟨C15,hC15⟩:∃ V,w14_.heap.size=V:=⟨_,rfl⟩
     rw [hC15] at CV15 CL15 ⊢
     clear hw15 hC15
     refine hK.out _ _ HH15 (fun hHeld15=>?_)
     clear hK Kx HH15
     refine wpAnyH_ready (rs:=[17]) (by kernel_rfl) (by simp) ?_
     refine AllReadyH.cons (o:=_) rfl (fun Kx hK=>?_) AllReadyH.nil
     refine step_store_row rfl 60 _ _ rfl V13 FG.arr rfl rfl 60 Gp.zero.arr HV15.out (by rw [gp_row.2,ZF.out]) (by rw [ZF.out]; rfl) (Gp.one _) ?_
     have HS16:=Lib.hid (show (World.setRow w15_ V13 FG.arr).heap[V13]?=some (.cells FG.arr 60 (0,0)) from setRow_heap _ _ _ _ _ _ HV15.out)
     have CV16:=Lib.hid (show (World.setRow w15_ V13 FG.arr).heap[C15]?=some (.cells #[.int .i64 0,.int .i64 0,.string ⟨#[]⟩] 30 (0,0)) from (setRow_other _ _ _ _ (fun q=>by have h1:=HV15.out; rw [← q,CV15.out] at h1; exact absurd (congrArg (fun o:Option Obj=>match o with | some (.cells _ ty _)=>ty | _=>0) h1:(30:Nat)=60) (by decide))).trans CV15.out)
     have HH16:=S3 _ (show RowKit.Below w2.heap.size w2 (World.setRow w15_ V13 FG.arr) from below_setRow' (S4 _ hHeld15) HL13 _)
     obtain ⟨w16_,hw16⟩:∃ x,x=World.setRow w15_ V13 FG.arr:=⟨_,rfl⟩
     rw [← hw16] at HS16 HH16 CV16 ⊢
     clear hw16
     refine hK.out _ _ HH16 (fun hHeld16=>?_)
     clear hK Kx HH16
     go_simp
     refine wpAnyH_ready (rs:=[18]) (by kernel_rfl) (by simp) ?_
     refine AllReadyH.cons (o:=_) rfl (fun Kx hK=>?_) AllReadyH.nil
     refine step_store_row rfl 30 _ _ rfl C15 CC.cells rfl rfl 30 #[.int .i64 0,.int .i64 0,.string ⟨#[]⟩] CV16.out cell_row.2 rfl (cel_one _) ?_
     have CS17:=Lib.hid (show (World.setRow w16_ C15 CC.cells).heap[C15]?=some (.cells CC.cells 30 (0,0)) from setRow_heap _ _ _ _ _ _ CV16.out)
     have HS17:=Lib.hid (show (World.setRow w16_ C15 CC.cells).heap[V13]?=some (.cells FG.arr 60 (0,0)) from (setRow_other _ _ _ _ (fun q=>by have h1:=HS16.out; rw [q,CV16.out] at h1; exact absurd (congrArg (fun o:Option Obj=>match o with | some (.cells _ ty _)=>ty | _=>0) h1:(30:Nat)=60) (by decide))).trans HS16.out)
     have HH17:=S3 _ (show RowKit.Below w2.heap.size w2 (World.setRow w16_ C15 CC.cells) from below_setRow' (S4 _ hHeld16) CL15 _)
     refine hK.out _ _ HH17 (fun hHeld17=>?_)
     clear hK Kx HH17
     go_simp
     refine wpAnyH_ready (rs:=[19]) (by kernel_rfl) (by simp) ?_
     refine AllReadyH.cons (o:=_) rfl (fun Kx hK=>?_) AllReadyH.nil
     go_simp
     have HH18:=hHeld17
     refine hK.out _ _ HH18 (fun hHeld18=>?_)
     clear hK Kx HH18
     refine wpAnyH_done (by kernel_rfl) ?_ _
     go_wp2_with fail
     go_meet
     exact ⟨V13,C15,rfl,rfl,rfl,HL13,HS17.out,CS17.out,S4 _ hHeld18⟩
    ·go_simp
     obtain ⟨w19_,hw19⟩:∃ x,x=w13_.alloc (.cells #[.int .i64 0,.int .i64 0,.string ⟨#[]⟩] 30):=⟨_,rfl⟩
     have CV19:=Lib.hid (show w19_.heap[w13_.heap.size]?=some (.cells #[.int .i64 0,.int .i64 0,.string ⟨#[]⟩] 30 (0,0)) from hw19▸heap_alloc_new _ _)
     have HV19:=Lib.hid (show w19_.heap[V13]?=some (.cells Gp.zero.arr 60 (0,0)) from hw19▸(Below.heap_alloc _ _ _ (Array.getElem?_eq_some_iff.1 HV13.out).1).trans HV13.out)
     have HH19:=S3 _ (show RowKit.Below w2.heap.size w2 w19_ from hw19▸(S4 _ hHeld13).alloc (S4 _ hHeld13).size _)
     have CL19:w2.heap.size≤w13_.heap.size:=(S4 _ hHeld13).size
     rw [← hw19]
     obtain ⟨C19,hC19⟩:∃ V,w13_.heap.size=V:=⟨_,rfl⟩
     rw [hC19] at CV19 CL19 ⊢
     clear hw19 hC19
     refine hK.out _ _ HH19 (fun hHeld19=>?_)
     clear hK Kx HH19
     refine wpAnyH_ready (rs:=[10]) (by kernel_rfl) (by simp) ?_
     refine AllReadyH.cons (o:=_) rfl (fun Kx hK=>?_) AllReadyH.nil
     go_simp
     refine (FEN.out _).mono ?_
     rintro e w20_ ⟨rfl,b20⟩
     have HH20:=S3 _ ((S4 _ hHeld19).trans (b20.mono (S4 _ hHeld19).size))
     have CV20:=Lib.hid ((b20.block _ (Array.getElem?_eq_some_iff.1 CV19.out).1).trans CV19.out)
     have HV20:=Lib.hid ((b20.block _ (Array.getElem?_eq_some_iff.1 HV19.out).1).trans HV19.out)
     clear b20
     refine hK.out _ _ HH20 (fun hHeld20=>?_)
     clear hK Kx HH20
     refine wt 11 (.tuple #[.agg FG.arr,.agg CC.cells,.bool true]) hHeld20 ?_
     go_simp
     refine wt 12 (.agg FG.arr) hHeld20 ?_
     go_simp
     refine wt 13 (.agg CC.cells) hHeld20 ?_
     go_simp
     refine wt 14 (.bool true) hHeld20 ?_
     go_simp
     refine wpAnyH_ready (rs:=[17]) (by kernel_rfl) (by simp) ?_
     refine AllReadyH.cons (o:=_) rfl (fun Kx hK=>?_) AllReadyH.nil
     refine step_store_row rfl 60 _ _ rfl V13 FG.arr rfl rfl 60 Gp.zero.arr HV20.out (by rw [gp_row.2,ZF.out]) (by rw [ZF.out]; rfl) (Gp.one _) ?_
     have HS21:=Lib.hid (show (World.setRow w20_ V13 FG.arr).heap[V13]?=some (.cells FG.arr 60 (0,0)) from setRow_heap _ _ _ _ _ _ HV20.out)
     have CV21:=Lib.hid (show (World.setRow w20_ V13 FG.arr).heap[C19]?=some (.cells #[.int .i64 0,.int .i64 0,.string ⟨#[]⟩] 30 (0,0)) from (setRow_other _ _ _ _ (fun q=>by have h1:=HV20.out; rw [← q,CV20.out] at h1; exact absurd (congrArg (fun o:Option Obj=>match o with | some (.cells _ ty _)=>ty | _=>0) h1:(30:Nat)=60) (by decide))).trans CV20.out)
     have HH21:=S3 _ (show RowKit.Below w2.heap.size w2 (World.setRow w20_ V13 FG.arr) from below_setRow' (S4 _ hHeld20) HL13 _)
     obtain ⟨w21_,hw21⟩:∃ x,x=World.setRow w20_ V13 FG.arr:=⟨_,rfl⟩
     rw [← hw21] at HS21 HH21 CV21 ⊢
     clear hw21
     refine hK.out _ _ HH21 (fun hHeld21=>?_)
     clear hK Kx HH21
     go_simp
     refine wpAnyH_ready (rs:=[18]) (by kernel_rfl) (by simp) ?_
     refine AllReadyH.cons (o:=_) rfl (fun Kx hK=>?_) AllReadyH.nil
     refine step_store_row rfl 30 _ _ rfl C19 CC.cells rfl rfl 30 #[.int .i64 0,.int .i64 0,.string ⟨#[]⟩] CV21.out cell_row.2 rfl (cel_one _) ?_
     have CS22:=Lib.hid (show (World.setRow w21_ C19 CC.cells).heap[C19]?=some (.cells CC.cells 30 (0,0)) from setRow_heap _ _ _ _ _ _ CV21.out)
     have HS22:=Lib.hid (show (World.setRow w21_ C19 CC.cells).heap[V13]?=some (.cells FG.arr 60 (0,0)) from (setRow_other _ _ _ _ (fun q=>by have h1:=HS21.out; rw [q,CV21.out] at h1; exact absurd (congrArg (fun o:Option Obj=>match o with | some (.cells _ ty _)=>ty | _=>0) h1:(30:Nat)=60) (by decide))).trans HS21.out)
     have HH22:=S3 _ (show RowKit.Below w2.heap.size w2 (World.setRow w21_ C19 CC.cells) from below_setRow' (S4 _ hHeld21) CL19 _)
     refine hK.out _ _ HH22 (fun hHeld22=>?_)
     clear hK Kx HH22
     go_simp
     refine wpAnyH_ready (rs:=[19]) (by kernel_rfl) (by simp) ?_
     refine AllReadyH.cons (o:=_) rfl (fun Kx hK=>?_) AllReadyH.nil
     go_simp
     have HH23:=hHeld22
     refine hK.out _ _ HH23 (fun hHeld23=>?_)
     clear hK Kx HH23
     refine wpAnyH_done (by kernel_rfl) ?_ _
     go_wp2_with fail
     go_meet
     exact ⟨V13,C19,rfl,rfl,rfl,HL13,HS22.out,CS22.out,S4 _ hHeld23⟩
   ·go_simp
    obtain ⟨w24_,hw24⟩:∃ x,x=wd.alloc (.cells #[.int .i64 0,.int .i64 0,.string ⟨#[]⟩] 30):=⟨_,rfl⟩
    have CV24:=Lib.hid (show w24_.heap[wd.heap.size]?=some (.cells #[.int .i64 0,.int .i64 0,.string ⟨#[]⟩] 30 (0,0)) from hw24▸heap_alloc_new _ _)
    have HH24:=S3 _ (show RowKit.Below w2.heap.size w2 w24_ from hw24▸(S4 _ hHeld1).alloc (S4 _ hHeld1).size _)
    have CL24:w2.heap.size≤wd.heap.size:=(S4 _ hHeld1).size
    rw [← hw24]
    obtain ⟨C24,hC24⟩:∃ V,wd.heap.size=V:=⟨_,rfl⟩
    rw [hC24] at CV24 CL24 ⊢
    clear hw24 hC24
    refine hK.out _ _ HH24 (fun hHeld24=>?_)
    clear hK Kx HH24
    refine wpAnyH_ready (rs:=[10,15]) (by kernel_rfl) (by simp) ?_
    refine AllReadyH.cons (o:=_) rfl (fun Kx hK=>?_) (AllReadyH.cons (o:=_) rfl (fun Kx hK=>?_) AllReadyH.nil)
    ·go_simp
     refine (FEN.out _).mono ?_
     rintro e w25_ ⟨rfl,b25⟩
     have HH25:=S3 _ ((S4 _ hHeld24).trans (b25.mono (S4 _ hHeld24).size))
     have CV25:=Lib.hid ((b25.block _ (Array.getElem?_eq_some_iff.1 CV24.out).1).trans CV24.out)
     clear b25
     refine hK.out _ _ HH25 (fun hHeld25=>?_)
     clear hK Kx HH25
     refine wt 11 (.tuple #[.agg FG.arr,.agg CC.cells,.bool true]) hHeld25 ?_
     go_simp
     refine wt 12 (.agg FG.arr) hHeld25 ?_
     go_simp
     refine wt 13 (.agg CC.cells) hHeld25 ?_
     go_simp
     refine wt 14 (.bool true) hHeld25 ?_
     go_simp
     refine wpAnyH_ready (rs:=[15]) (by kernel_rfl) (by simp) ?_
     refine AllReadyH.cons (o:=_) rfl (fun Kx hK=>?_) AllReadyH.nil
     go_simp
     obtain ⟨w26_,hw26⟩:∃ x,x=w25_.alloc (.cells Tryz.zeroCells60 60):=⟨_,rfl⟩
     have HV26:=Lib.hid (show w26_.heap[w25_.heap.size]?=some (.cells Gp.zero.arr 60 (0,0)) from hw26▸gp_zero_arr▸heap_alloc_new _ _)
     have CV26:=Lib.hid (show w26_.heap[C24]?=some (.cells #[.int .i64 0,.int .i64 0,.string ⟨#[]⟩] 30 (0,0)) from hw26▸(Below.heap_alloc _ _ _ (Array.getElem?_eq_some_iff.1 CV25.out).1).trans CV25.out)
     have HH26:=S3 _ (show RowKit.Below w2.heap.size w2 w26_ from hw26▸(S4 _ hHeld25).alloc (S4 _ hHeld25).size _)
     have HL26:w2.heap.size≤w25_.heap.size:=(S4 _ hHeld25).size
     rw [← hw26]
     obtain ⟨V26,hV26⟩:∃ V,w25_.heap.size=V:=⟨_,rfl⟩
     rw [hV26] at HV26 HL26 ⊢
     clear hw26 hV26
     refine hK.out _ _ HH26 (fun hHeld26=>?_)
     clear hK Kx HH26
     refine wpAnyH_ready (rs:=[17]) (by kernel_rfl) (by simp) ?_
     refine AllReadyH.cons (o:=_) rfl (fun Kx hK=>?_) AllReadyH.nil
     refine step_store_row rfl 60 _ _ rfl V26 FG.arr rfl rfl 60 Gp.zero.arr HV26.out (by rw [gp_row.2,ZF.out]) (by rw [ZF.out]; rfl) (Gp.one _) ?_
     have HS27:=Lib.hid (show (World.setRow w26_ V26 FG.arr).heap[V26]?=some (.cells FG.arr 60 (0,0)) from setRow_heap _ _ _ _ _ _ HV26.out)
     have CV27:=Lib.hid (show (World.setRow w26_ V26 FG.arr).heap[C24]?=some (.cells #[.int .i64 0,.int .i64 0,.string ⟨#[]⟩] 30 (0,0)) from (setRow_other _ _ _ _ (fun q=>by have h1:=HV26.out; rw [← q,CV26.out] at h1; exact absurd (congrArg (fun o:Option Obj=>match o with | some (.cells _ ty _)=>ty | _=>0) h1:(30:Nat)=60) (by decide))).trans CV26.out)
     have HH27:=S3 _ (show RowKit.Below w2.heap.size w2 (World.setRow w26_ V26 FG.arr) from below_setRow' (S4 _ hHeld26) HL26 _)
     obtain ⟨w27_,hw27⟩:∃ x,x=World.setRow w26_ V26 FG.arr:=⟨_,rfl⟩
     rw [← hw27] at HS27 HH27 CV27 ⊢
     clear hw27
     refine hK.out _ _ HH27 (fun hHeld27=>?_)
     clear hK Kx HH27
     go_simp
     refine wpAnyH_ready (rs:=[18]) (by kernel_rfl) (by simp) ?_
     refine AllReadyH.cons (o:=_) rfl (fun Kx hK=>?_) AllReadyH.nil
     refine step_store_row rfl 30 _ _ rfl C24 CC.cells rfl rfl 30 #[.int .i64 0,.int .i64 0,.string ⟨#[]⟩] CV27.out cell_row.2 rfl (cel_one _) ?_
     have CS28:=Lib.hid (show (World.setRow w27_ C24 CC.cells).heap[C24]?=some (.cells CC.cells 30 (0,0)) from setRow_heap _ _ _ _ _ _ CV27.out)
     have HS28:=Lib.hid (show (World.setRow w27_ C24 CC.cells).heap[V26]?=some (.cells FG.arr 60 (0,0)) from (setRow_other _ _ _ _ (fun q=>by have h1:=HS27.out; rw [q,CV27.out] at h1; exact absurd (congrArg (fun o:Option Obj=>match o with | some (.cells _ ty _)=>ty | _=>0) h1:(30:Nat)=60) (by decide))).trans HS27.out)
     have HH28:=S3 _ (show RowKit.Below w2.heap.size w2 (World.setRow w27_ C24 CC.cells) from below_setRow' (S4 _ hHeld27) CL24 _)
     refine hK.out _ _ HH28 (fun hHeld28=>?_)
     clear hK Kx HH28
     go_simp
     refine wpAnyH_ready (rs:=[19]) (by kernel_rfl) (by simp) ?_
     refine AllReadyH.cons (o:=_) rfl (fun Kx hK=>?_) AllReadyH.nil
     go_simp
     have HH29:=hHeld28
     refine hK.out _ _ HH29 (fun hHeld29=>?_)
     clear hK Kx HH29
     refine wpAnyH_done (by kernel_rfl) ?_ _
     go_wp2_with fail
     go_meet
     exact ⟨V26,C24,rfl,rfl,rfl,HL26,HS28.out,CS28.out,S4 _ hHeld29⟩
    ·go_simp
     obtain ⟨w30_,hw30⟩:∃ x,x=w24_.alloc (.cells Tryz.zeroCells60 60):=⟨_,rfl⟩
     have HV30:=Lib.hid (show w30_.heap[w24_.heap.size]?=some (.cells Gp.zero.arr 60 (0,0)) from hw30▸gp_zero_arr▸heap_alloc_new _ _)
     have CV30:=Lib.hid (show w30_.heap[C24]?=some (.cells #[.int .i64 0,.int .i64 0,.string ⟨#[]⟩] 30 (0,0)) from hw30▸(Below.heap_alloc _ _ _ (Array.getElem?_eq_some_iff.1 CV24.out).1).trans CV24.out)
     have HH30:=S3 _ (show RowKit.Below w2.heap.size w2 w30_ from hw30▸(S4 _ hHeld24).alloc (S4 _ hHeld24).size _)
     have HL30:w2.heap.size≤w24_.heap.size:=(S4 _ hHeld24).size
     rw [← hw30]
     obtain ⟨V30,hV30⟩:∃ V,w24_.heap.size=V:=⟨_,rfl⟩
     rw [hV30] at HV30 HL30 ⊢
     clear hw30 hV30
     refine hK.out _ _ HH30 (fun hHeld30=>?_)
     clear hK Kx HH30
     refine wpAnyH_ready (rs:=[10]) (by kernel_rfl) (by simp) ?_
     refine AllReadyH.cons (o:=_) rfl (fun Kx hK=>?_) AllReadyH.nil
     go_simp
     refine (FEN.out _).mono ?_
     rintro e w31_ ⟨rfl,b31⟩
     have HH31:=S3 _ ((S4 _ hHeld30).trans (b31.mono (S4 _ hHeld30).size))
     have CV31:=Lib.hid ((b31.block _ (Array.getElem?_eq_some_iff.1 CV30.out).1).trans CV30.out)
     have HV31:=Lib.hid ((b31.block _ (Array.getElem?_eq_some_iff.1 HV30.out).1).trans HV30.out)
     clear b31
     refine hK.out _ _ HH31 (fun hHeld31=>?_)
     clear hK Kx HH31
     refine wt 11 (.tuple #[.agg FG.arr,.agg CC.cells,.bool true]) hHeld31 ?_
     go_simp
     refine wt 12 (.agg FG.arr) hHeld31 ?_
     go_simp
     refine wt 13 (.agg CC.cells) hHeld31 ?_
     go_simp
     refine wt 14 (.bool true) hHeld31 ?_
     go_simp
     refine wpAnyH_ready (rs:=[17]) (by kernel_rfl) (by simp) ?_
     refine AllReadyH.cons (o:=_) rfl (fun Kx hK=>?_) AllReadyH.nil
     refine step_store_row rfl 60 _ _ rfl V30 FG.arr rfl rfl 60 Gp.zero.arr HV31.out (by rw [gp_row.2,ZF.out]) (by rw [ZF.out]; rfl) (Gp.one _) ?_
     have HS32:=Lib.hid (show (World.setRow w31_ V30 FG.arr).heap[V30]?=some (.cells FG.arr 60 (0,0)) from setRow_heap _ _ _ _ _ _ HV31.out)
     have CV32:=Lib.hid (show (World.setRow w31_ V30 FG.arr).heap[C24]?=some (.cells #[.int .i64 0,.int .i64 0,.string ⟨#[]⟩] 30 (0,0)) from (setRow_other _ _ _ _ (fun q=>by have h1:=HV31.out; rw [← q,CV31.out] at h1; exact absurd (congrArg (fun o:Option Obj=>match o with | some (.cells _ ty _)=>ty | _=>0) h1:(30:Nat)=60) (by decide))).trans CV31.out)
     have HH32:=S3 _ (show RowKit.Below w2.heap.size w2 (World.setRow w31_ V30 FG.arr) from below_setRow' (S4 _ hHeld31) HL30 _)
     obtain ⟨w32_,hw32⟩:∃ x,x=World.setRow w31_ V30 FG.arr:=⟨_,rfl⟩
     rw [← hw32] at HS32 HH32 CV32 ⊢
     clear hw32
     refine hK.out _ _ HH32 (fun hHeld32=>?_)
     clear hK Kx HH32
     go_simp
     refine wpAnyH_ready (rs:=[18]) (by kernel_rfl) (by simp) ?_
     refine AllReadyH.cons (o:=_) rfl (fun Kx hK=>?_) AllReadyH.nil
     refine step_store_row rfl 30 _ _ rfl C24 CC.cells rfl rfl 30 #[.int .i64 0,.int .i64 0,.string ⟨#[]⟩] CV32.out cell_row.2 rfl (cel_one _) ?_
     have CS33:=Lib.hid (show (World.setRow w32_ C24 CC.cells).heap[C24]?=some (.cells CC.cells 30 (0,0)) from setRow_heap _ _ _ _ _ _ CV32.out)
     have HS33:=Lib.hid (show (World.setRow w32_ C24 CC.cells).heap[V30]?=some (.cells FG.arr 60 (0,0)) from (setRow_other _ _ _ _ (fun q=>by have h1:=HS32.out; rw [q,CV32.out] at h1; exact absurd (congrArg (fun o:Option Obj=>match o with | some (.cells _ ty _)=>ty | _=>0) h1:(30:Nat)=60) (by decide))).trans HS32.out)
     have HH33:=S3 _ (show RowKit.Below w2.heap.size w2 (World.setRow w32_ C24 CC.cells) from below_setRow' (S4 _ hHeld32) CL24 _)
     refine hK.out _ _ HH33 (fun hHeld33=>?_)
     clear hK Kx HH33
     go_simp
     refine wpAnyH_ready (rs:=[19]) (by kernel_rfl) (by simp) ?_
     refine AllReadyH.cons (o:=_) rfl (fun Kx hK=>?_) AllReadyH.nil
     go_simp
     have HH34:=hHeld33
     refine hK.out _ _ HH34 (fun hHeld34=>?_)
     clear hK Kx HH34
     refine wpAnyH_done (by kernel_rfl) ?_ _
     go_wp2_with fail
     go_meet
     exact ⟨V30,C24,rfl,rfl,rfl,HL30,HS33.out,CS33.out,S4 _ hHeld34⟩
  ·go_simp
   obtain ⟨w35_,hw35⟩:∃ x,x=wd.alloc (.cells Tryz.zeroCells60 60):=⟨_,rfl⟩
   have HV35:=Lib.hid (show w35_.heap[wd.heap.size]?=some (.cells Gp.zero.arr 60 (0,0)) from hw35▸gp_zero_arr▸heap_alloc_new _ _)
   have HH35:=S3 _ (show RowKit.Below w2.heap.size w2 w35_ from hw35▸(S4 _ hHeld).alloc (S4 _ hHeld).size _)
   have HL35:w2.heap.size≤wd.heap.size:=(S4 _ hHeld).size
   rw [← hw35]
   obtain ⟨V35,hV35⟩:∃ V,wd.heap.size=V:=⟨_,rfl⟩
   rw [hV35] at HV35 HL35 ⊢
   clear hw35 hV35
   refine hK.out _ _ HH35 (fun hHeld35=>?_)
   clear hK Kx HH35
   refine wpAnyH_ready (rs:=[8,16]) (by kernel_rfl) (by simp) ?_
   refine AllReadyH.cons (o:=_) rfl (fun Kx hK=>?_) (AllReadyH.cons (o:=_) rfl (fun Kx hK=>?_) AllReadyH.nil)
   ·go_simp
    refine (EPO.out _ (S4 _ hHeld35)).mono ?_
    rintro e w36_ ⟨rfl,hq⟩
    replace hq:=hq.symm
    subst hq
    have HH36:=hHeld35
    refine hK.out _ _ HH36 (fun hHeld36=>?_)
    clear hK Kx HH36
    refine wpAnyH_ready (rs:=[10,16]) (by kernel_rfl) (by simp) ?_
    refine AllReadyH.cons (o:=_) rfl (fun Kx hK=>?_) (AllReadyH.cons (o:=_) rfl (fun Kx hK=>?_) AllReadyH.nil)
    ·go_simp
     refine (FEN.out _).mono ?_
     rintro e w37_ ⟨rfl,b37⟩
     have HH37:=S3 _ ((S4 _ hHeld36).trans (b37.mono (S4 _ hHeld36).size))
     have HV37:=Lib.hid ((b37.block _ (Array.getElem?_eq_some_iff.1 HV35.out).1).trans HV35.out)
     clear b37
     refine hK.out _ _ HH37 (fun hHeld37=>?_)
     clear hK Kx HH37
     refine wt 11 (.tuple #[.agg FG.arr,.agg CC.cells,.bool true]) hHeld37 ?_
     go_simp
     refine wt 12 (.agg FG.arr) hHeld37 ?_
     go_simp
     refine wt 13 (.agg CC.cells) hHeld37 ?_
     go_simp
     refine wt 14 (.bool true) hHeld37 ?_
     go_simp
     refine wpAnyH_ready (rs:=[16]) (by kernel_rfl) (by simp) ?_
     refine AllReadyH.cons (o:=_) rfl (fun Kx hK=>?_) AllReadyH.nil
     go_simp
     obtain ⟨w38_,hw38⟩:∃ x,x=w37_.alloc (.cells #[.int .i64 0,.int .i64 0,.string ⟨#[]⟩] 30):=⟨_,rfl⟩
     have CV38:=Lib.hid (show w38_.heap[w37_.heap.size]?=some (.cells #[.int .i64 0,.int .i64 0,.string ⟨#[]⟩] 30 (0,0)) from hw38▸heap_alloc_new _ _)
     have HV38:=Lib.hid (show w38_.heap[V35]?=some (.cells Gp.zero.arr 60 (0,0)) from hw38▸(Below.heap_alloc _ _ _ (Array.getElem?_eq_some_iff.1 HV37.out).1).trans HV37.out)
     have HH38:=S3 _ (show RowKit.Below w2.heap.size w2 w38_ from hw38▸(S4 _ hHeld37).alloc (S4 _ hHeld37).size _)
     have CL38:w2.heap.size≤w37_.heap.size:=(S4 _ hHeld37).size
     rw [← hw38]
     obtain ⟨C38,hC38⟩:∃ V,w37_.heap.size=V:=⟨_,rfl⟩
     rw [hC38] at CV38 CL38 ⊢
     clear hw38 hC38
     refine hK.out _ _ HH38 (fun hHeld38=>?_)
     clear hK Kx HH38
     refine wpAnyH_ready (rs:=[17]) (by kernel_rfl) (by simp) ?_
     refine AllReadyH.cons (o:=_) rfl (fun Kx hK=>?_) AllReadyH.nil
     refine step_store_row rfl 60 _ _ rfl V35 FG.arr rfl rfl 60 Gp.zero.arr HV38.out (by rw [gp_row.2,ZF.out]) (by rw [ZF.out]; rfl) (Gp.one _) ?_
     have HS39:=Lib.hid (show (World.setRow w38_ V35 FG.arr).heap[V35]?=some (.cells FG.arr 60 (0,0)) from setRow_heap _ _ _ _ _ _ HV38.out)
     have CV39:=Lib.hid (show (World.setRow w38_ V35 FG.arr).heap[C38]?=some (.cells #[.int .i64 0,.int .i64 0,.string ⟨#[]⟩] 30 (0,0)) from (setRow_other _ _ _ _ (fun q=>by have h1:=HV38.out; rw [← q,CV38.out] at h1; exact absurd (congrArg (fun o:Option Obj=>match o with | some (.cells _ ty _)=>ty | _=>0) h1:(30:Nat)=60) (by decide))).trans CV38.out)
     have HH39:=S3 _ (show RowKit.Below w2.heap.size w2 (World.setRow w38_ V35 FG.arr) from below_setRow' (S4 _ hHeld38) HL35 _)
     obtain ⟨w39_,hw39⟩:∃ x,x=World.setRow w38_ V35 FG.arr:=⟨_,rfl⟩
     rw [← hw39] at HS39 HH39 CV39 ⊢
     clear hw39
     refine hK.out _ _ HH39 (fun hHeld39=>?_)
     clear hK Kx HH39
     go_simp
     refine wpAnyH_ready (rs:=[18]) (by kernel_rfl) (by simp) ?_
     refine AllReadyH.cons (o:=_) rfl (fun Kx hK=>?_) AllReadyH.nil
     refine step_store_row rfl 30 _ _ rfl C38 CC.cells rfl rfl 30 #[.int .i64 0,.int .i64 0,.string ⟨#[]⟩] CV39.out cell_row.2 rfl (cel_one _) ?_
     have CS40:=Lib.hid (show (World.setRow w39_ C38 CC.cells).heap[C38]?=some (.cells CC.cells 30 (0,0)) from setRow_heap _ _ _ _ _ _ CV39.out)
     have HS40:=Lib.hid (show (World.setRow w39_ C38 CC.cells).heap[V35]?=some (.cells FG.arr 60 (0,0)) from (setRow_other _ _ _ _ (fun q=>by have h1:=HS39.out; rw [q,CV39.out] at h1; exact absurd (congrArg (fun o:Option Obj=>match o with | some (.cells _ ty _)=>ty | _=>0) h1:(30:Nat)=60) (by decide))).trans HS39.out)
     have HH40:=S3 _ (show RowKit.Below w2.heap.size w2 (World.setRow w39_ C38 CC.cells) from below_setRow' (S4 _ hHeld39) CL38 _)
     refine hK.out _ _ HH40 (fun hHeld40=>?_)
     clear hK Kx HH40
     go_simp
     refine wpAnyH_ready (rs:=[19]) (by kernel_rfl) (by simp) ?_
     refine AllReadyH.cons (o:=_) rfl (fun Kx hK=>?_) AllReadyH.nil
     go_simp
     have HH41:=hHeld40
     refine hK.out _ _ HH41 (fun hHeld41=>?_)
     clear hK Kx HH41
     refine wpAnyH_done (by kernel_rfl) ?_ _
     go_wp2_with fail
     go_meet
     exact ⟨V35,C38,rfl,rfl,rfl,HL35,HS40.out,CS40.out,S4 _ hHeld41⟩
    ·go_simp
     obtain ⟨w42_,hw42⟩:∃ x,x=w35_.alloc (.cells #[.int .i64 0,.int .i64 0,.string ⟨#[]⟩] 30):=⟨_,rfl⟩
     have CV42:=Lib.hid (show w42_.heap[w35_.heap.size]?=some (.cells #[.int .i64 0,.int .i64 0,.string ⟨#[]⟩] 30 (0,0)) from hw42▸heap_alloc_new _ _)
     have HV42:=Lib.hid (show w42_.heap[V35]?=some (.cells Gp.zero.arr 60 (0,0)) from hw42▸(Below.heap_alloc _ _ _ (Array.getElem?_eq_some_iff.1 HV35.out).1).trans HV35.out)
     have HH42:=S3 _ (show RowKit.Below w2.heap.size w2 w42_ from hw42▸(S4 _ hHeld36).alloc (S4 _ hHeld36).size _)
     have CL42:w2.heap.size≤w35_.heap.size:=(S4 _ hHeld36).size
     rw [← hw42]
     obtain ⟨C42,hC42⟩:∃ V,w35_.heap.size=V:=⟨_,rfl⟩
     rw [hC42] at CV42 CL42 ⊢
     clear hw42 hC42
     refine hK.out _ _ HH42 (fun hHeld42=>?_)
     clear hK Kx HH42
     refine wpAnyH_ready (rs:=[10]) (by kernel_rfl) (by simp) ?_
     refine AllReadyH.cons (o:=_) rfl (fun Kx hK=>?_) AllReadyH.nil
     go_simp
     refine (FEN.out _).mono ?_
     rintro e w43_ ⟨rfl,b43⟩
     have HH43:=S3 _ ((S4 _ hHeld42).trans (b43.mono (S4 _ hHeld42).size))
     have CV43:=Lib.hid ((b43.block _ (Array.getElem?_eq_some_iff.1 CV42.out).1).trans CV42.out)
     have HV43:=Lib.hid ((b43.block _ (Array.getElem?_eq_some_iff.1 HV42.out).1).trans HV42.out)
     clear b43
     refine hK.out _ _ HH43 (fun hHeld43=>?_)
     clear hK Kx HH43
     refine wt 11 (.tuple #[.agg FG.arr,.agg CC.cells,.bool true]) hHeld43 ?_
     go_simp
     refine wt 12 (.agg FG.arr) hHeld43 ?_
     go_simp
     refine wt 13 (.agg CC.cells) hHeld43 ?_
     go_simp
     refine wt 14 (.bool true) hHeld43 ?_
     go_simp
     refine wpAnyH_ready (rs:=[17]) (by kernel_rfl) (by simp) ?_
     refine AllReadyH.cons (o:=_) rfl (fun Kx hK=>?_) AllReadyH.nil
     refine step_store_row rfl 60 _ _ rfl V35 FG.arr rfl rfl 60 Gp.zero.arr HV43.out (by rw [gp_row.2,ZF.out]) (by rw [ZF.out]; rfl) (Gp.one _) ?_
     have HS44:=Lib.hid (show (World.setRow w43_ V35 FG.arr).heap[V35]?=some (.cells FG.arr 60 (0,0)) from setRow_heap _ _ _ _ _ _ HV43.out)
     have CV44:=Lib.hid (show (World.setRow w43_ V35 FG.arr).heap[C42]?=some (.cells #[.int .i64 0,.int .i64 0,.string ⟨#[]⟩] 30 (0,0)) from (setRow_other _ _ _ _ (fun q=>by have h1:=HV43.out; rw [← q,CV43.out] at h1; exact absurd (congrArg (fun o:Option Obj=>match o with | some (.cells _ ty _)=>ty | _=>0) h1:(30:Nat)=60) (by decide))).trans CV43.out)
     have HH44:=S3 _ (show RowKit.Below w2.heap.size w2 (World.setRow w43_ V35 FG.arr) from below_setRow' (S4 _ hHeld43) HL35 _)
     obtain ⟨w44_,hw44⟩:∃ x,x=World.setRow w43_ V35 FG.arr:=⟨_,rfl⟩
     rw [← hw44] at HS44 HH44 CV44 ⊢
     clear hw44
     refine hK.out _ _ HH44 (fun hHeld44=>?_)
     clear hK Kx HH44
     go_simp
     refine wpAnyH_ready (rs:=[18]) (by kernel_rfl) (by simp) ?_
     refine AllReadyH.cons (o:=_) rfl (fun Kx hK=>?_) AllReadyH.nil
     refine step_store_row rfl 30 _ _ rfl C42 CC.cells rfl rfl 30 #[.int .i64 0,.int .i64 0,.string ⟨#[]⟩] CV44.out cell_row.2 rfl (cel_one _) ?_
     have CS45:=Lib.hid (show (World.setRow w44_ C42 CC.cells).heap[C42]?=some (.cells CC.cells 30 (0,0)) from setRow_heap _ _ _ _ _ _ CV44.out)
     have HS45:=Lib.hid (show (World.setRow w44_ C42 CC.cells).heap[V35]?=some (.cells FG.arr 60 (0,0)) from (setRow_other _ _ _ _ (fun q=>by have h1:=HS44.out; rw [q,CV44.out] at h1; exact absurd (congrArg (fun o:Option Obj=>match o with | some (.cells _ ty _)=>ty | _=>0) h1:(30:Nat)=60) (by decide))).trans HS44.out)
     have HH45:=S3 _ (show RowKit.Below w2.heap.size w2 (World.setRow w44_ C42 CC.cells) from below_setRow' (S4 _ hHeld44) CL42 _)
     refine hK.out _ _ HH45 (fun hHeld45=>?_)
     clear hK Kx HH45
     go_simp
     refine wpAnyH_ready (rs:=[19]) (by kernel_rfl) (by simp) ?_
     refine AllReadyH.cons (o:=_) rfl (fun Kx hK=>?_) AllReadyH.nil
     go_simp
     have HH46:=hHeld45
     refine hK.out _ _ HH46 (fun hHeld46=>?_)
     clear hK Kx HH46
     refine wpAnyH_done (by kernel_rfl) ?_ _
     go_wp2_with fail
     go_meet
     exact ⟨V35,C42,rfl,rfl,rfl,HL35,HS45.out,CS45.out,S4 _ hHeld46⟩
   ·go_simp
    obtain ⟨w47_,hw47⟩:∃ x,x=w35_.alloc (.cells #[.int .i64 0,.int .i64 0,.string ⟨#[]⟩] 30):=⟨_,rfl⟩
    have CV47:=Lib.hid (show w47_.heap[w35_.heap.size]?=some (.cells #[.int .i64 0,.int .i64 0,.string ⟨#[]⟩] 30 (0,0)) from hw47▸heap_alloc_new _ _)
    have HV47:=Lib.hid (show w47_.heap[V35]?=some (.cells Gp.zero.arr 60 (0,0)) from hw47▸(Below.heap_alloc _ _ _ (Array.getElem?_eq_some_iff.1 HV35.out).1).trans HV35.out)
    have HH47:=S3 _ (show RowKit.Below w2.heap.size w2 w47_ from hw47▸(S4 _ hHeld35).alloc (S4 _ hHeld35).size _)
    have CL47:w2.heap.size≤w35_.heap.size:=(S4 _ hHeld35).size
    rw [← hw47]
    obtain ⟨C47,hC47⟩:∃ V,w35_.heap.size=V:=⟨_,rfl⟩
    rw [hC47] at CV47 CL47 ⊢
    clear hw47 hC47
    refine hK.out _ _ HH47 (fun hHeld47=>?_)
    clear hK Kx HH47
    refine wpAnyH_ready (rs:=[8]) (by kernel_rfl) (by simp) ?_
    refine AllReadyH.cons (o:=_) rfl (fun Kx hK=>?_) AllReadyH.nil
    go_simp
    refine (EPO.out _ (S4 _ hHeld47)).mono ?_
    rintro e w48_ ⟨rfl,hq⟩
    replace hq:=hq.symm
    subst hq
    have HH48:=hHeld47
    refine hK.out _ _ HH48 (fun hHeld48=>?_)
    clear hK Kx HH48
    refine wpAnyH_ready (rs:=[10]) (by kernel_rfl) (by simp) ?_
    refine AllReadyH.cons (o:=_) rfl (fun Kx hK=>?_) AllReadyH.nil
    go_simp
    refine (FEN.out _).mono ?_
    rintro e w49_ ⟨rfl,b49⟩
    have HH49:=S3 _ ((S4 _ hHeld48).trans (b49.mono (S4 _ hHeld48).size))
    have CV49:=Lib.hid ((b49.block _ (Array.getElem?_eq_some_iff.1 CV47.out).1).trans CV47.out)
    have HV49:=Lib.hid ((b49.block _ (Array.getElem?_eq_some_iff.1 HV47.out).1).trans HV47.out)
    clear b49
    refine hK.out _ _ HH49 (fun hHeld49=>?_)
    clear hK Kx HH49
    refine wt 11 (.tuple #[.agg FG.arr,.agg CC.cells,.bool true]) hHeld49 ?_
    go_simp
    refine wt 12 (.agg FG.arr) hHeld49 ?_
    go_simp
    refine wt 13 (.agg CC.cells) hHeld49 ?_
    go_simp
    refine wt 14 (.bool true) hHeld49 ?_
    go_simp
    refine wpAnyH_ready (rs:=[17]) (by kernel_rfl) (by simp) ?_
    refine AllReadyH.cons (o:=_) rfl (fun Kx hK=>?_) AllReadyH.nil
    refine step_store_row rfl 60 _ _ rfl V35 FG.arr rfl rfl 60 Gp.zero.arr HV49.out (by rw [gp_row.2,ZF.out]) (by rw [ZF.out]; rfl) (Gp.one _) ?_
    have HS50:=Lib.hid (show (World.setRow w49_ V35 FG.arr).heap[V35]?=some (.cells FG.arr 60 (0,0)) from setRow_heap _ _ _ _ _ _ HV49.out)
    have CV50:=Lib.hid (show (World.setRow w49_ V35 FG.arr).heap[C47]?=some (.cells #[.int .i64 0,.int .i64 0,.string ⟨#[]⟩] 30 (0,0)) from (setRow_other _ _ _ _ (fun q=>by have h1:=HV49.out; rw [← q,CV49.out] at h1; exact absurd (congrArg (fun o:Option Obj=>match o with | some (.cells _ ty _)=>ty | _=>0) h1:(30:Nat)=60) (by decide))).trans CV49.out)
    have HH50:=S3 _ (show RowKit.Below w2.heap.size w2 (World.setRow w49_ V35 FG.arr) from below_setRow' (S4 _ hHeld49) HL35 _)
    obtain ⟨w50_,hw50⟩:∃ x,x=World.setRow w49_ V35 FG.arr:=⟨_,rfl⟩
    rw [← hw50] at HS50 HH50 CV50 ⊢
    clear hw50
    refine hK.out _ _ HH50 (fun hHeld50=>?_)
    clear hK Kx HH50
    go_simp
    refine wpAnyH_ready (rs:=[18]) (by kernel_rfl) (by simp) ?_
    refine AllReadyH.cons (o:=_) rfl (fun Kx hK=>?_) AllReadyH.nil
    refine step_store_row rfl 30 _ _ rfl C47 CC.cells rfl rfl 30 #[.int .i64 0,.int .i64 0,.string ⟨#[]⟩] CV50.out cell_row.2 rfl (cel_one _) ?_
    have CS51:=Lib.hid (show (World.setRow w50_ C47 CC.cells).heap[C47]?=some (.cells CC.cells 30 (0,0)) from setRow_heap _ _ _ _ _ _ CV50.out)
    have HS51:=Lib.hid (show (World.setRow w50_ C47 CC.cells).heap[V35]?=some (.cells FG.arr 60 (0,0)) from (setRow_other _ _ _ _ (fun q=>by have h1:=HS50.out; rw [q,CV50.out] at h1; exact absurd (congrArg (fun o:Option Obj=>match o with | some (.cells _ ty _)=>ty | _=>0) h1:(30:Nat)=60) (by decide))).trans HS50.out)
    have HH51:=S3 _ (show RowKit.Below w2.heap.size w2 (World.setRow w50_ C47 CC.cells) from below_setRow' (S4 _ hHeld50) CL47 _)
    refine hK.out _ _ HH51 (fun hHeld51=>?_)
    clear hK Kx HH51
    go_simp
    refine wpAnyH_ready (rs:=[19]) (by kernel_rfl) (by simp) ?_
    refine AllReadyH.cons (o:=_) rfl (fun Kx hK=>?_) AllReadyH.nil
    go_simp
    have HH52:=hHeld51
    refine hK.out _ _ HH52 (fun hHeld52=>?_)
    clear hK Kx HH52
    refine wpAnyH_done (by kernel_rfl) ?_ _
    go_wp2_with fail
    go_meet
    exact ⟨V35,C47,rfl,rfl,rfl,HL35,HS51.out,CS51.out,S4 _ hHeld52⟩
  ·go_simp
   obtain ⟨w53_,hw53⟩:∃ x,x=wd.alloc (.cells #[.int .i64 0,.int .i64 0,.string ⟨#[]⟩] 30):=⟨_,rfl⟩
   have CV53:=Lib.hid (show w53_.heap[wd.heap.size]?=some (.cells #[.int .i64 0,.int .i64 0,.string ⟨#[]⟩] 30 (0,0)) from hw53▸heap_alloc_new _ _)
   have HH53:=S3 _ (show RowKit.Below w2.heap.size w2 w53_ from hw53▸(S4 _ hHeld).alloc (S4 _ hHeld).size _)
   have CL53:w2.heap.size≤wd.heap.size:=(S4 _ hHeld).size
   rw [← hw53]
   obtain ⟨C53,hC53⟩:∃ V,wd.heap.size=V:=⟨_,rfl⟩
   rw [hC53] at CV53 CL53 ⊢
   clear hw53 hC53
   refine hK.out _ _ HH53 (fun hHeld53=>?_)
   clear hK Kx HH53
   refine wpAnyH_ready (rs:=[8,15]) (by kernel_rfl) (by simp) ?_
   refine AllReadyH.cons (o:=_) rfl (fun Kx hK=>?_) (AllReadyH.cons (o:=_) rfl (fun Kx hK=>?_) AllReadyH.nil)
   ·go_simp
    refine (EPO.out _ (S4 _ hHeld53)).mono ?_
    rintro e w54_ ⟨rfl,hq⟩
    replace hq:=hq.symm
    subst hq
    have HH54:=hHeld53
    refine hK.out _ _ HH54 (fun hHeld54=>?_)
    clear hK Kx HH54
    refine wpAnyH_ready (rs:=[10,15]) (by kernel_rfl) (by simp) ?_
    refine AllReadyH.cons (o:=_) rfl (fun Kx hK=>?_) (AllReadyH.cons (o:=_) rfl (fun Kx hK=>?_) AllReadyH.nil)
    ·go_simp
     refine (FEN.out _).mono ?_
     rintro e w55_ ⟨rfl,b55⟩
     have HH55:=S3 _ ((S4 _ hHeld54).trans (b55.mono (S4 _ hHeld54).size))
     have CV55:=Lib.hid ((b55.block _ (Array.getElem?_eq_some_iff.1 CV53.out).1).trans CV53.out)
     clear b55
     refine hK.out _ _ HH55 (fun hHeld55=>?_)
     clear hK Kx HH55
     refine wt 11 (.tuple #[.agg FG.arr,.agg CC.cells,.bool true]) hHeld55 ?_
     go_simp
     refine wt 12 (.agg FG.arr) hHeld55 ?_
     go_simp
     refine wt 13 (.agg CC.cells) hHeld55 ?_
     go_simp
     refine wt 14 (.bool true) hHeld55 ?_
     go_simp
     refine wpAnyH_ready (rs:=[15]) (by kernel_rfl) (by simp) ?_
     refine AllReadyH.cons (o:=_) rfl (fun Kx hK=>?_) AllReadyH.nil
     go_simp
     obtain ⟨w56_,hw56⟩:∃ x,x=w55_.alloc (.cells Tryz.zeroCells60 60):=⟨_,rfl⟩
     have HV56:=Lib.hid (show w56_.heap[w55_.heap.size]?=some (.cells Gp.zero.arr 60 (0,0)) from hw56▸gp_zero_arr▸heap_alloc_new _ _)
     have CV56:=Lib.hid (show w56_.heap[C53]?=some (.cells #[.int .i64 0,.int .i64 0,.string ⟨#[]⟩] 30 (0,0)) from hw56▸(Below.heap_alloc _ _ _ (Array.getElem?_eq_some_iff.1 CV55.out).1).trans CV55.out)
     have HH56:=S3 _ (show RowKit.Below w2.heap.size w2 w56_ from hw56▸(S4 _ hHeld55).alloc (S4 _ hHeld55).size _)
     have HL56:w2.heap.size≤w55_.heap.size:=(S4 _ hHeld55).size
     rw [← hw56]
     obtain ⟨V56,hV56⟩:∃ V,w55_.heap.size=V:=⟨_,rfl⟩
     rw [hV56] at HV56 HL56 ⊢
     clear hw56 hV56
     refine hK.out _ _ HH56 (fun hHeld56=>?_)
     clear hK Kx HH56
     refine wpAnyH_ready (rs:=[17]) (by kernel_rfl) (by simp) ?_
     refine AllReadyH.cons (o:=_) rfl (fun Kx hK=>?_) AllReadyH.nil
     refine step_store_row rfl 60 _ _ rfl V56 FG.arr rfl rfl 60 Gp.zero.arr HV56.out (by rw [gp_row.2,ZF.out]) (by rw [ZF.out]; rfl) (Gp.one _) ?_
     have HS57:=Lib.hid (show (World.setRow w56_ V56 FG.arr).heap[V56]?=some (.cells FG.arr 60 (0,0)) from setRow_heap _ _ _ _ _ _ HV56.out)
     have CV57:=Lib.hid (show (World.setRow w56_ V56 FG.arr).heap[C53]?=some (.cells #[.int .i64 0,.int .i64 0,.string ⟨#[]⟩] 30 (0,0)) from (setRow_other _ _ _ _ (fun q=>by have h1:=HV56.out; rw [← q,CV56.out] at h1; exact absurd (congrArg (fun o:Option Obj=>match o with | some (.cells _ ty _)=>ty | _=>0) h1:(30:Nat)=60) (by decide))).trans CV56.out)
     have HH57:=S3 _ (show RowKit.Below w2.heap.size w2 (World.setRow w56_ V56 FG.arr) from below_setRow' (S4 _ hHeld56) HL56 _)
     obtain ⟨w57_,hw57⟩:∃ x,x=World.setRow w56_ V56 FG.arr:=⟨_,rfl⟩
     rw [← hw57] at HS57 HH57 CV57 ⊢
     clear hw57
     refine hK.out _ _ HH57 (fun hHeld57=>?_)
     clear hK Kx HH57
     go_simp
     refine wpAnyH_ready (rs:=[18]) (by kernel_rfl) (by simp) ?_
     refine AllReadyH.cons (o:=_) rfl (fun Kx hK=>?_) AllReadyH.nil
     refine step_store_row rfl 30 _ _ rfl C53 CC.cells rfl rfl 30 #[.int .i64 0,.int .i64 0,.string ⟨#[]⟩] CV57.out cell_row.2 rfl (cel_one _) ?_
     have CS58:=Lib.hid (show (World.setRow w57_ C53 CC.cells).heap[C53]?=some (.cells CC.cells 30 (0,0)) from setRow_heap _ _ _ _ _ _ CV57.out)
     have HS58:=Lib.hid (show (World.setRow w57_ C53 CC.cells).heap[V56]?=some (.cells FG.arr 60 (0,0)) from (setRow_other _ _ _ _ (fun q=>by have h1:=HS57.out; rw [q,CV57.out] at h1; exact absurd (congrArg (fun o:Option Obj=>match o with | some (.cells _ ty _)=>ty | _=>0) h1:(30:Nat)=60) (by decide))).trans HS57.out)
     have HH58:=S3 _ (show RowKit.Below w2.heap.size w2 (World.setRow w57_ C53 CC.cells) from below_setRow' (S4 _ hHeld57) CL53 _)
     refine hK.out _ _ HH58 (fun hHeld58=>?_)
     clear hK Kx HH58
     go_simp
     refine wpAnyH_ready (rs:=[19]) (by kernel_rfl) (by simp) ?_
     refine AllReadyH.cons (o:=_) rfl (fun Kx hK=>?_) AllReadyH.nil
     go_simp
     have HH59:=hHeld58
     refine hK.out _ _ HH59 (fun hHeld59=>?_)
     clear hK Kx HH59
     refine wpAnyH_done (by kernel_rfl) ?_ _
     go_wp2_with fail
     go_meet
     exact ⟨V56,C53,rfl,rfl,rfl,HL56,HS58.out,CS58.out,S4 _ hHeld59⟩
    ·go_simp
     obtain ⟨w60_,hw60⟩:∃ x,x=w53_.alloc (.cells Tryz.zeroCells60 60):=⟨_,rfl⟩
     have HV60:=Lib.hid (show w60_.heap[w53_.heap.size]?=some (.cells Gp.zero.arr 60 (0,0)) from hw60▸gp_zero_arr▸heap_alloc_new _ _)
     have CV60:=Lib.hid (show w60_.heap[C53]?=some (.cells #[.int .i64 0,.int .i64 0,.string ⟨#[]⟩] 30 (0,0)) from hw60▸(Below.heap_alloc _ _ _ (Array.getElem?_eq_some_iff.1 CV53.out).1).trans CV53.out)
     have HH60:=S3 _ (show RowKit.Below w2.heap.size w2 w60_ from hw60▸(S4 _ hHeld54).alloc (S4 _ hHeld54).size _)
     have HL60:w2.heap.size≤w53_.heap.size:=(S4 _ hHeld54).size
     rw [← hw60]
     obtain ⟨V60,hV60⟩:∃ V,w53_.heap.size=V:=⟨_,rfl⟩
     rw [hV60] at HV60 HL60 ⊢
     clear hw60 hV60
     refine hK.out _ _ HH60 (fun hHeld60=>?_)
     clear hK Kx HH60
     refine wpAnyH_ready (rs:=[10]) (by kernel_rfl) (by simp) ?_
     refine AllReadyH.cons (o:=_) rfl (fun Kx hK=>?_) AllReadyH.nil
     go_simp
     refine (FEN.out _).mono ?_
     rintro e w61_ ⟨rfl,b61⟩
     have HH61:=S3 _ ((S4 _ hHeld60).trans (b61.mono (S4 _ hHeld60).size))
     have CV61:=Lib.hid ((b61.block _ (Array.getElem?_eq_some_iff.1 CV60.out).1).trans CV60.out)
     have HV61:=Lib.hid ((b61.block _ (Array.getElem?_eq_some_iff.1 HV60.out).1).trans HV60.out)
     clear b61
     refine hK.out _ _ HH61 (fun hHeld61=>?_)
     clear hK Kx HH61
     refine wt 11 (.tuple #[.agg FG.arr,.agg CC.cells,.bool true]) hHeld61 ?_
     go_simp
     refine wt 12 (.agg FG.arr) hHeld61 ?_
     go_simp
     refine wt 13 (.agg CC.cells) hHeld61 ?_
     go_simp
     refine wt 14 (.bool true) hHeld61 ?_
     go_simp
     refine wpAnyH_ready (rs:=[17]) (by kernel_rfl) (by simp) ?_
     refine AllReadyH.cons (o:=_) rfl (fun Kx hK=>?_) AllReadyH.nil
     refine step_store_row rfl 60 _ _ rfl V60 FG.arr rfl rfl 60 Gp.zero.arr HV61.out (by rw [gp_row.2,ZF.out]) (by rw [ZF.out]; rfl) (Gp.one _) ?_
     have HS62:=Lib.hid (show (World.setRow w61_ V60 FG.arr).heap[V60]?=some (.cells FG.arr 60 (0,0)) from setRow_heap _ _ _ _ _ _ HV61.out)
     have CV62:=Lib.hid (show (World.setRow w61_ V60 FG.arr).heap[C53]?=some (.cells #[.int .i64 0,.int .i64 0,.string ⟨#[]⟩] 30 (0,0)) from (setRow_other _ _ _ _ (fun q=>by have h1:=HV61.out; rw [← q,CV61.out] at h1; exact absurd (congrArg (fun o:Option Obj=>match o with | some (.cells _ ty _)=>ty | _=>0) h1:(30:Nat)=60) (by decide))).trans CV61.out)
     have HH62:=S3 _ (show RowKit.Below w2.heap.size w2 (World.setRow w61_ V60 FG.arr) from below_setRow' (S4 _ hHeld61) HL60 _)
     obtain ⟨w62_,hw62⟩:∃ x,x=World.setRow w61_ V60 FG.arr:=⟨_,rfl⟩
     rw [← hw62] at HS62 HH62 CV62 ⊢
     clear hw62
     refine hK.out _ _ HH62 (fun hHeld62=>?_)
     clear hK Kx HH62
     go_simp
     refine wpAnyH_ready (rs:=[18]) (by kernel_rfl) (by simp) ?_
     refine AllReadyH.cons (o:=_) rfl (fun Kx hK=>?_) AllReadyH.nil
     refine step_store_row rfl 30 _ _ rfl C53 CC.cells rfl rfl 30 #[.int .i64 0,.int .i64 0,.string ⟨#[]⟩] CV62.out cell_row.2 rfl (cel_one _) ?_
     have CS63:=Lib.hid (show (World.setRow w62_ C53 CC.cells).heap[C53]?=some (.cells CC.cells 30 (0,0)) from setRow_heap _ _ _ _ _ _ CV62.out)
     have HS63:=Lib.hid (show (World.setRow w62_ C53 CC.cells).heap[V60]?=some (.cells FG.arr 60 (0,0)) from (setRow_other _ _ _ _ (fun q=>by have h1:=HS62.out; rw [q,CV62.out] at h1; exact absurd (congrArg (fun o:Option Obj=>match o with | some (.cells _ ty _)=>ty | _=>0) h1:(30:Nat)=60) (by decide))).trans HS62.out)
     have HH63:=S3 _ (show RowKit.Below w2.heap.size w2 (World.setRow w62_ C53 CC.cells) from below_setRow' (S4 _ hHeld62) CL53 _)
     refine hK.out _ _ HH63 (fun hHeld63=>?_)
     clear hK Kx HH63
     go_simp
     refine wpAnyH_ready (rs:=[19]) (by kernel_rfl) (by simp) ?_
     refine AllReadyH.cons (o:=_) rfl (fun Kx hK=>?_) AllReadyH.nil
     go_simp
     have HH64:=hHeld63
     refine hK.out _ _ HH64 (fun hHeld64=>?_)
     clear hK Kx HH64
     refine wpAnyH_done (by kernel_rfl) ?_ _
     go_wp2_with fail
     go_meet
     exact ⟨V60,C53,rfl,rfl,rfl,HL60,HS63.out,CS63.out,S4 _ hHeld64⟩
   ·go_simp
    obtain ⟨w65_,hw65⟩:∃ x,x=w53_.alloc (.cells Tryz.zeroCells60 60):=⟨_,rfl⟩
    have HV65:=Lib.hid (show w65_.heap[w53_.heap.size]?=some (.cells Gp.zero.arr 60 (0,0)) from hw65▸gp_zero_arr▸heap_alloc_new _ _)
    have CV65:=Lib.hid (show w65_.heap[C53]?=some (.cells #[.int .i64 0,.int .i64 0,.string ⟨#[]⟩] 30 (0,0)) from hw65▸(Below.heap_alloc _ _ _ (Array.getElem?_eq_some_iff.1 CV53.out).1).trans CV53.out)
    have HH65:=S3 _ (show RowKit.Below w2.heap.size w2 w65_ from hw65▸(S4 _ hHeld53).alloc (S4 _ hHeld53).size _)
    have HL65:w2.heap.size≤w53_.heap.size:=(S4 _ hHeld53).size
    rw [← hw65]
    obtain ⟨V65,hV65⟩:∃ V,w53_.heap.size=V:=⟨_,rfl⟩
    rw [hV65] at HV65 HL65 ⊢
    clear hw65 hV65
    refine hK.out _ _ HH65 (fun hHeld65=>?_)
    clear hK Kx HH65
    refine wpAnyH_ready (rs:=[8]) (by kernel_rfl) (by simp) ?_
    refine AllReadyH.cons (o:=_) rfl (fun Kx hK=>?_) AllReadyH.nil
    go_simp
    refine (EPO.out _ (S4 _ hHeld65)).mono ?_
    rintro e w66_ ⟨rfl,hq⟩
    replace hq:=hq.symm
    subst hq
    have HH66:=hHeld65
    refine hK.out _ _ HH66 (fun hHeld66=>?_)
    clear hK Kx HH66
    refine wpAnyH_ready (rs:=[10]) (by kernel_rfl) (by simp) ?_
    refine AllReadyH.cons (o:=_) rfl (fun Kx hK=>?_) AllReadyH.nil
    go_simp
    refine (FEN.out _).mono ?_
    rintro e w67_ ⟨rfl,b67⟩
    have HH67:=S3 _ ((S4 _ hHeld66).trans (b67.mono (S4 _ hHeld66).size))
    have CV67:=Lib.hid ((b67.block _ (Array.getElem?_eq_some_iff.1 CV65.out).1).trans CV65.out)
    have HV67:=Lib.hid ((b67.block _ (Array.getElem?_eq_some_iff.1 HV65.out).1).trans HV65.out)
    clear b67
    refine hK.out _ _ HH67 (fun hHeld67=>?_)
    clear hK Kx HH67
    refine wt 11 (.tuple #[.agg FG.arr,.agg CC.cells,.bool true]) hHeld67 ?_
    go_simp
    refine wt 12 (.agg FG.arr) hHeld67 ?_
    go_simp
    refine wt 13 (.agg CC.cells) hHeld67 ?_
    go_simp
    refine wt 14 (.bool true) hHeld67 ?_
    go_simp
    refine wpAnyH_ready (rs:=[17]) (by kernel_rfl) (by simp) ?_
    refine AllReadyH.cons (o:=_) rfl (fun Kx hK=>?_) AllReadyH.nil
    refine step_store_row rfl 60 _ _ rfl V65 FG.arr rfl rfl 60 Gp.zero.arr HV67.out (by rw [gp_row.2,ZF.out]) (by rw [ZF.out]; rfl) (Gp.one _) ?_
    have HS68:=Lib.hid (show (World.setRow w67_ V65 FG.arr).heap[V65]?=some (.cells FG.arr 60 (0,0)) from setRow_heap _ _ _ _ _ _ HV67.out)
    have CV68:=Lib.hid (show (World.setRow w67_ V65 FG.arr).heap[C53]?=some (.cells #[.int .i64 0,.int .i64 0,.string ⟨#[]⟩] 30 (0,0)) from (setRow_other _ _ _ _ (fun q=>by have h1:=HV67.out; rw [← q,CV67.out] at h1; exact absurd (congrArg (fun o:Option Obj=>match o with | some (.cells _ ty _)=>ty | _=>0) h1:(30:Nat)=60) (by decide))).trans CV67.out)
    have HH68:=S3 _ (show RowKit.Below w2.heap.size w2 (World.setRow w67_ V65 FG.arr) from below_setRow' (S4 _ hHeld67) HL65 _)
    obtain ⟨w68_,hw68⟩:∃ x,x=World.setRow w67_ V65 FG.arr:=⟨_,rfl⟩
    rw [← hw68] at HS68 HH68 CV68 ⊢
    clear hw68
    refine hK.out _ _ HH68 (fun hHeld68=>?_)
    clear hK Kx HH68
    go_simp
    refine wpAnyH_ready (rs:=[18]) (by kernel_rfl) (by simp) ?_
    refine AllReadyH.cons (o:=_) rfl (fun Kx hK=>?_) AllReadyH.nil
    refine step_store_row rfl 30 _ _ rfl C53 CC.cells rfl rfl 30 #[.int .i64 0,.int .i64 0,.string ⟨#[]⟩] CV68.out cell_row.2 rfl (cel_one _) ?_
    have CS69:=Lib.hid (show (World.setRow w68_ C53 CC.cells).heap[C53]?=some (.cells CC.cells 30 (0,0)) from setRow_heap _ _ _ _ _ _ CV68.out)
    have HS69:=Lib.hid (show (World.setRow w68_ C53 CC.cells).heap[V65]?=some (.cells FG.arr 60 (0,0)) from (setRow_other _ _ _ _ (fun q=>by have h1:=HS68.out; rw [q,CV68.out] at h1; exact absurd (congrArg (fun o:Option Obj=>match o with | some (.cells _ ty _)=>ty | _=>0) h1:(30:Nat)=60) (by decide))).trans HS68.out)
    have HH69:=S3 _ (show RowKit.Below w2.heap.size w2 (World.setRow w68_ C53 CC.cells) from below_setRow' (S4 _ hHeld68) CL53 _)
    refine hK.out _ _ HH69 (fun hHeld69=>?_)
    clear hK Kx HH69
    go_simp
    refine wpAnyH_ready (rs:=[19]) (by kernel_rfl) (by simp) ?_
    refine AllReadyH.cons (o:=_) rfl (fun Kx hK=>?_) AllReadyH.nil
    go_simp
    have HH70:=hHeld69
    refine hK.out _ _ HH70 (fun hHeld70=>?_)
    clear hK Kx HH70
    refine wpAnyH_done (by kernel_rfl) ?_ _
    go_wp2_with fail
    go_meet
    exact ⟨V65,C53,rfl,rfl,rfl,HL65,HS69.out,CS69.out,S4 _ hHeld70⟩
 case rest =>
  obtain ⟨V,V2,rfl,rfl,rfl,hV,hc,hc2,hb⟩:=hcut
  have HC:=Lib.hid hc
  have K5:=Lib.hid (KI0.out.over hb)
  have T5:=Lib.hid (TB.out.same (KI0.out.same_of hb) K5.out.lt)
  have B5:=Lib.hid hb
  have TH:=Lib.hid (show wc.there T 1 FG.arr.size from by rw [ZF.out]; exact (tg_range T5.out.blk T5.out.ok).2)
  have hV2T:V2≠T:=fun q=>by
   rw [q,T5.out.blk] at hc2
   exact absurd (congrArg (fun o:Option Obj=>match o with | some (.cells _ ty _)=>ty | _=>0) hc2:(111:Nat)=30) (by decide)
  have P:=Lib.hid (show TgPost w0 w n D T { t2 with g:=FG } Y (wc.setCells T 1 FG.arr.toList) from by
   have q:TgPost w0 wc n D T { t2 with g:=FG } Y (wc.setCells T 1 FG.arr.toList):=.of K5.out T5.out LO.out HY.out (T5.out.setG OKF.out).2 (T5.out.setG OKF.out).1 rfl
   have q2:TgPost w0 w2 n D T { t2 with g:=FG } Y (wc.setCells T 1 FG.arr.toList):=.over H2.out B5.out q
   exact ⟨q2.1,SY2.out.trans q2.2.1,K2.out.trans q2.2.2⟩)
  have CD:wc.cell? ⟨V2,2,none⟩=some (.string CC.d):=by simp [World.cell?,hc2,Cel.cells]
  have hV2:=(Array.getElem?_eq_some_iff.1 hc2).1
  clear hc hc2 hb hV FEN EPO RG SC TB KI0
  go_upto_region 8 with (first | ((with_reducible refine ld_row1 rfl 60 _ rfl ?_); refine ⟨V,_,FG.arr,_,rfl,HC.out,gp_row.1,rfl,by rw [gp_row.2,ZF.out],?_⟩) | ((with_reducible refine st_mid1 rfl 60 _ _ rfl ?_); refine ⟨T,1,FG.arr,rfl,rfl,TH.out,by rw [gp_row.2,ZF.out],Gp.one _,?_⟩))
  obtain ⟨w6,hw6⟩:∃ w6,w6=wc.setCells T 1 FG.arr.toList:=⟨_,rfl⟩
  have CD6:w6.cell? ⟨V2,2,none⟩=some (.string CC.d):=(World.cell?_of_block (a:=⟨V2,2,none⟩) (hw6▸(Keeps.setCells (S:=(·=T)) rfl FG.arr.toList 1 _ wc (Keeps.refl _ wc)).block V2 hV2T hV2)).trans CD
  rw [← hw6] at P ⊢
  clear hw6 T5 K5 B5 TH HC CD
  go_wp2
  exact bodyPost_ret (v:=.tuple #[.string CC.d,.nilIface]) (by simp [results,Tryz.results57,go_sem]) rfl (by rw [RD1.out]; exact ⟨rfl,P.out⟩)
end
end Go.Proofs.YtajegiifabfcjaaGreatDoor
