/-
  Tgm2, Tgm3, Tgm4
-/
import Derived.Test.YtajegiifabfcjaaGreatDoorQ27
import Derived.Deep.DeepCutAuto
import Derived.Deep.RegionHeld3
namespace Go.Proofs.YtajegiifabfcjaaGreatDoor
open Go.RowKit Go.Sort
theorem TgB.setG {X:Nat→Prop} {w0 w:World} {T:Nat} {m:Tm} {t:Tg} (h:TgB X w0 w T m t) {g:Gp} (hg:g.ok):TgB X w0 (w.setCells T 1 g.arr.toList) T m { t with g:=g }∧Keeps (·=T) w (w.setCells T 1 g.arr.toList) :=
 have kp:Keeps (·=T) w (w.setCells T 1 g.arr.toList):=Keeps.setCells (S:=(·=T)) rfl _ _ _ _ (Keeps.refl _ _)
 ⟨h.turn kp (tg_setG h.blk h.ok hg) hg rfl rfl rfl rfl,kp⟩
section
variable (w0 w:World) (n D T:Nat) (t:Tg) (Y:Nat→Prop)
set_option maxRecDepth 100000 in
set_option maxHeartbeats 8000000 in
theorem ready_any (h:TgR w0 n D T t Y w) (he:0≤t.k.ep∧t.k.ep≤1000000) (hok:(t.g.fence t.k.ep).ok) :
  Calls Tryz.prog 58 #[.pointer (some ⟨T,0,none⟩)] w fun e w'=>e=.returned (errV (if t.isReady then 0 else 7))∧TgR w0 n D T t.ready Y w'∧Keeps (·=T) w w':=by
 obtain ⟨X,m,ki,tb,lo,hy⟩:=h
 have LTT:=(Array.getElem?_eq_some_iff.1 tb.blk).1
 have ZG:=Lib.hid (Gp.size tb.ok)
 have TB:=Lib.hid tb
 have KI0:=Lib.hid ki
 have LO:=Lib.hid lo
 have HY:=Lib.hid hy
 have RG:=Lib.hid (fun w' (h:RowKit.Below w.heap.size w w')=>(show w'.rangeAt T 1 t.g.arr.toList from fun j v hv=>(h.cell (p:=⟨T,1+j,none⟩) LTT).trans ((tg_range tb.blk tb.ok).1 j v hv)))
 have SC:=Lib.hid (fun w' (h:RowKit.Below w.heap.size w w')=>(h.cell (p:=⟨T,0,none⟩) LTT).trans (tg_cells tb.blk tb.ok).1.1)
 have EPO:=Lib.hid (fun w' (h:RowKit.Below w.heap.size w w')=>epochI n w0 w' X D m.K t.k (ki.over h))
 have FEN:=Lib.hid (fun w'=>gfence_any t.g t.k.ep w' tb.ok (by omega))
 have RDY:=Lib.hid (show t.isReady=decide (2≤((t.g.fence t.k.ep).mem t.k.ep).length) from rfl)
 have TRD:=Lib.hid (show t.ready={ t with g:=t.g.fence t.k.ep } from rfl)
 clear ki tb lo hy
 obtain ⟨FG,hFG⟩:∃ FG,t.g.fence t.k.ep=FG:=⟨_,rfl⟩
 rw [hFG] at FEN RDY TRD hok
 obtain ⟨BB,hBB⟩:∃ BB,decide (2≤(FG.mem t.k.ep).length)=BB:=⟨_,rfl⟩
 rw [hBB] at FEN RDY
 rw [RDY.out,TRD.out]
 have OKF:=Lib.hid hok
 have ZF:=Lib.hid (Gp.size hok)
 clear hFG hBB RDY TRD hok he
 go_enter Tryz.func58,Tryz.ntmps58
 go_upto_region 1 with fail
 go_cut [3,4] (fun v3 v4 wx=>∃ V,v3=.pointer (some ⟨V,0,none⟩)∧v4=.bool BB∧w.heap.size≤V∧wx.heap[V]?=some (.cells FG.arr 60 (0,0))∧RowKit.Below w.heap.size w wx)
 case first =>
  obtain ⟨S,hS⟩:∃ S:World→Prop,S=fun w'=>RowKit.Below w.heap.size w w':=⟨_,rfl⟩
  have S3:∀ w',RowKit.Below w.heap.size w w'→S w':=fun w' h=>by rw [hS]; exact h
  have S4:∀ w',S w'→RowKit.Below w.heap.size w w':=fun w' h=>by rw [hS] at h; exact h
  clear hS
  refine wp_region_held_drew (S:=S) (by kernel_rfl) (S3 _ (Below.refl _ _).drew) (fun hHeld=>?_)
  obtain ⟨wd,hwd⟩:∃ wd,wd=w.drew:=⟨_,rfl⟩
  rw [← hwd] at hHeld ⊢
  clear hwd
  refine wt 0 (.pointer (some ⟨T,0,none⟩)) hHeld ?_
  go_simp
  refine wt 1 (.pointer (some ⟨T,0,none⟩)) hHeld ?_
  go_simp
  refine wt 2 (.pointer (some ⟨T,1,none⟩)) hHeld ?_
  go_simp
  refine wt 3 (.agg t.g.arr) hHeld ?_ (hy:=yieldsIf_load_midA (by rfl) 60 _ rfl T 1 rfl t.g.arr _ (fun w' h=>RG.out w' (S4 w' h)) gp_row.1 rfl (by rw [gp_row.2,ZG.out]))
  go_simp
  refine wt 4 (.pointer (some ⟨T,0,none⟩)) hHeld ?_
  go_simp
  refine wt 5 (.pointer (some ⟨T,0,none⟩)) hHeld ?_
  go_simp
  refine wt 6 (.pointer (some ⟨T,0,none⟩)) hHeld ?_
  go_simp
  refine wt 7 (.pointer (some ⟨m.K,0,none⟩)) hHeld ?_ (hy:=Or.inl ⟨by rfl,fun w' hSw=>by have hc:=SC.out w' (S4 w' hSw); go_simp⟩)
  go_simp
  refine wpAnyH_ready (rs:=[8,13]) (by kernel_rfl) (by simp) ?_
  refine AllReadyH.cons (o:=_) rfl (fun Kx hK=>?_) (AllReadyH.cons (o:=_) rfl (fun Kx hK=>?_) AllReadyH.nil)
  ·go_simp
   refine (EPO.out _ (S4 _ hHeld)).mono ?_
   rintro e w1_ ⟨rfl,hq⟩
   replace hq:=hq.symm
   subst hq
   have HH1:=hHeld
   refine hK.out _ _ HH1 (fun hHeld1=>?_)
   clear hK Kx HH1
   refine wpAnyH_ready (rs:=[9,13]) (by kernel_rfl) (by simp) ?_
   refine AllReadyH.cons (o:=_) rfl (fun Kx hK=>?_) (AllReadyH.cons (o:=_) rfl (fun Kx hK=>?_) AllReadyH.nil)
   ·go_simp
    refine (FEN.out _).mono ?_
    rintro e w2_ ⟨rfl,b2⟩
    have HH2:=S3 _ ((S4 _ hHeld1).trans (b2.mono (S4 _ hHeld1).size))
    clear b2
    refine hK.out _ _ HH2 (fun hHeld2=>?_)
    clear hK Kx HH2
    refine wt 10 (.tuple #[.agg FG.arr,.bool BB]) hHeld2 ?_
    go_simp
    refine wt 11 (.agg FG.arr) hHeld2 ?_
    go_simp
    refine wt 12 (.bool BB) hHeld2 ?_
    go_simp
    refine wpAnyH_ready (rs:=[13]) (by kernel_rfl) (by simp) ?_
    refine AllReadyH.cons (o:=_) rfl (fun Kx hK=>?_) AllReadyH.nil
    go_simp
    obtain ⟨w3_,hw3⟩:∃ x,x=w2_.alloc (.cells Tryz.zeroCells60 60):=⟨_,rfl⟩
    have HV3:=Lib.hid (show w3_.heap[w2_.heap.size]?=some (.cells Gp.zero.arr 60 (0,0)) from hw3▸gp_zero_arr▸heap_alloc_new _ _)
    have HH3:=S3 _ (show RowKit.Below w.heap.size w w3_ from hw3▸(S4 _ hHeld2).alloc (S4 _ hHeld2).size _)
    have HL3:w.heap.size≤w2_.heap.size:=(S4 _ hHeld2).size
    rw [← hw3]
    obtain ⟨V3,hV3⟩:∃ V,w2_.heap.size=V:=⟨_,rfl⟩
    rw [hV3] at HV3 HL3 ⊢
    clear hw3 hV3
    refine hK.out _ _ HH3 (fun hHeld3=>?_)
    clear hK Kx HH3
    refine wpAnyH_ready (rs:=[14]) (by kernel_rfl) (by simp) ?_
    refine AllReadyH.cons (o:=_) rfl (fun Kx hK=>?_) AllReadyH.nil
    refine step_store_row rfl 60 _ _ rfl V3 FG.arr rfl rfl 60 Gp.zero.arr HV3.out (by rw [gp_row.2,ZF.out]) (by rw [ZF.out]; rfl) (Gp.one _) ?_
    have HS4:=Lib.hid (show (World.setRow w3_ V3 FG.arr).heap[V3]?=some (.cells FG.arr 60 (0,0)) from setRow_heap _ _ _ _ _ _ HV3.out)
    have HH4:=S3 _ (show RowKit.Below w.heap.size w (World.setRow w3_ V3 FG.arr) from below_setRow' (S4 _ hHeld3) HL3 _)
    refine hK.out _ _ HH4 (fun hHeld4=>?_)
    clear hK Kx HH4
    go_simp
    refine wpAnyH_ready (rs:=[15]) (by kernel_rfl) (by simp) ?_
    refine AllReadyH.cons (o:=_) rfl (fun Kx hK=>?_) AllReadyH.nil
    go_simp
    have HH5:=hHeld4
    refine hK.out _ _ HH5 (fun hHeld5=>?_)
    clear hK Kx HH5
    refine wpAnyH_done (by kernel_rfl) ?_ _
    go_wp2_with fail
    go_meet
    exact ⟨V3,rfl,rfl,HL3,HS4.out,S4 _ hHeld5⟩
   ·go_simp
    obtain ⟨w6_,hw6⟩:∃ x,x=wd.alloc (.cells Tryz.zeroCells60 60):=⟨_,rfl⟩
    have HV6:=Lib.hid (show w6_.heap[wd.heap.size]?=some (.cells Gp.zero.arr 60 (0,0)) from hw6▸gp_zero_arr▸heap_alloc_new _ _)
    have HH6:=S3 _ (show RowKit.Below w.heap.size w w6_ from hw6▸(S4 _ hHeld1).alloc (S4 _ hHeld1).size _)
    have HL6:w.heap.size≤wd.heap.size:=(S4 _ hHeld1).size
    rw [← hw6]
    obtain ⟨V6,hV6⟩:∃ V,wd.heap.size=V:=⟨_,rfl⟩
    rw [hV6] at HV6 HL6 ⊢
    clear hw6 hV6
    refine hK.out _ _ HH6 (fun hHeld6=>?_)
    clear hK Kx HH6
    refine wpAnyH_ready (rs:=[9]) (by kernel_rfl) (by simp) ?_
    refine AllReadyH.cons (o:=_) rfl (fun Kx hK=>?_) AllReadyH.nil
    go_simp
    refine (FEN.out _).mono ?_
    rintro e w7_ ⟨rfl,b7⟩
    have HH7:=S3 _ ((S4 _ hHeld6).trans (b7.mono (S4 _ hHeld6).size))
    have HV7:=Lib.hid ((b7.block _ (Array.getElem?_eq_some_iff.1 HV6.out).1).trans HV6.out)
    clear b7
    refine hK.out _ _ HH7 (fun hHeld7=>?_)
    clear hK Kx HH7
    refine wt 10 (.tuple #[.agg FG.arr,.bool BB]) hHeld7 ?_
    go_simp
    refine wt 11 (.agg FG.arr) hHeld7 ?_
    go_simp
    refine wt 12 (.bool BB) hHeld7 ?_
    go_simp
    refine wpAnyH_ready (rs:=[14]) (by kernel_rfl) (by simp) ?_
    refine AllReadyH.cons (o:=_) rfl (fun Kx hK=>?_) AllReadyH.nil
    refine step_store_row rfl 60 _ _ rfl V6 FG.arr rfl rfl 60 Gp.zero.arr HV7.out (by rw [gp_row.2,ZF.out]) (by rw [ZF.out]; rfl) (Gp.one _) ?_
    have HS8:=Lib.hid (show (World.setRow w7_ V6 FG.arr).heap[V6]?=some (.cells FG.arr 60 (0,0)) from setRow_heap _ _ _ _ _ _ HV7.out)
    have HH8:=S3 _ (show RowKit.Below w.heap.size w (World.setRow w7_ V6 FG.arr) from below_setRow' (S4 _ hHeld7) HL6 _)
    refine hK.out _ _ HH8 (fun hHeld8=>?_)
    clear hK Kx HH8
    go_simp
    refine wpAnyH_ready (rs:=[15]) (by kernel_rfl) (by simp) ?_
    refine AllReadyH.cons (o:=_) rfl (fun Kx hK=>?_) AllReadyH.nil
    go_simp
    have HH9:=hHeld8
    refine hK.out _ _ HH9 (fun hHeld9=>?_)
    clear hK Kx HH9
    refine wpAnyH_done (by kernel_rfl) ?_ _
    go_wp2_with fail
    go_meet
    exact ⟨V6,rfl,rfl,HL6,HS8.out,S4 _ hHeld9⟩
  ·go_simp
   obtain ⟨w10_,hw10⟩:∃ x,x=wd.alloc (.cells Tryz.zeroCells60 60):=⟨_,rfl⟩
   have HV10:=Lib.hid (show w10_.heap[wd.heap.size]?=some (.cells Gp.zero.arr 60 (0,0)) from hw10▸gp_zero_arr▸heap_alloc_new _ _)
   have HH10:=S3 _ (show RowKit.Below w.heap.size w w10_ from hw10▸(S4 _ hHeld).alloc (S4 _ hHeld).size _)
   have HL10:w.heap.size≤wd.heap.size:=(S4 _ hHeld).size
   rw [← hw10]
   obtain ⟨V10,hV10⟩:∃ V,wd.heap.size=V:=⟨_,rfl⟩
   rw [hV10] at HV10 HL10 ⊢
   clear hw10 hV10
   refine hK.out _ _ HH10 (fun hHeld10=>?_)
   clear hK Kx HH10
   refine wpAnyH_ready (rs:=[8]) (by kernel_rfl) (by simp) ?_
   refine AllReadyH.cons (o:=_) rfl (fun Kx hK=>?_) AllReadyH.nil
   go_simp
   refine (EPO.out _ (S4 _ hHeld10)).mono ?_
   rintro e w11_ ⟨rfl,hq⟩
   replace hq:=hq.symm
   subst hq
   have HH11:=hHeld10
   refine hK.out _ _ HH11 (fun hHeld11=>?_)
   clear hK Kx HH11
   refine wpAnyH_ready (rs:=[9]) (by kernel_rfl) (by simp) ?_
   refine AllReadyH.cons (o:=_) rfl (fun Kx hK=>?_) AllReadyH.nil
   go_simp
   refine (FEN.out _).mono ?_
   rintro e w12_ ⟨rfl,b12⟩
   have HH12:=S3 _ ((S4 _ hHeld11).trans (b12.mono (S4 _ hHeld11).size))
   have HV12:=Lib.hid ((b12.block _ (Array.getElem?_eq_some_iff.1 HV10.out).1).trans HV10.out)
   clear b12
   refine hK.out _ _ HH12 (fun hHeld12=>?_)
   clear hK Kx HH12
   refine wt 10 (.tuple #[.agg FG.arr,.bool BB]) hHeld12 ?_
   go_simp
   refine wt 11 (.agg FG.arr) hHeld12 ?_
   go_simp
   refine wt 12 (.bool BB) hHeld12 ?_
   go_simp
   refine wpAnyH_ready (rs:=[14]) (by kernel_rfl) (by simp) ?_
   refine AllReadyH.cons (o:=_) rfl (fun Kx hK=>?_) AllReadyH.nil
   refine step_store_row rfl 60 _ _ rfl V10 FG.arr rfl rfl 60 Gp.zero.arr HV12.out (by rw [gp_row.2,ZF.out]) (by rw [ZF.out]; rfl) (Gp.one _) ?_
   have HS13:=Lib.hid (show (World.setRow w12_ V10 FG.arr).heap[V10]?=some (.cells FG.arr 60 (0,0)) from setRow_heap _ _ _ _ _ _ HV12.out)
   have HH13:=S3 _ (show RowKit.Below w.heap.size w (World.setRow w12_ V10 FG.arr) from below_setRow' (S4 _ hHeld12) HL10 _)
   refine hK.out _ _ HH13 (fun hHeld13=>?_)
   clear hK Kx HH13
   go_simp
   refine wpAnyH_ready (rs:=[15]) (by kernel_rfl) (by simp) ?_
   refine AllReadyH.cons (o:=_) rfl (fun Kx hK=>?_) AllReadyH.nil
   go_simp
   have HH14:=hHeld13
   refine hK.out _ _ HH14 (fun hHeld14=>?_)
   clear hK Kx HH14
   refine wpAnyH_done (by kernel_rfl) ?_ _
   go_wp2_with fail
   go_meet
   exact ⟨V10,rfl,rfl,HL10,HS13.out,S4 _ hHeld14⟩
 case rest =>
  obtain ⟨V,rfl,rfl,hV,hc,hb⟩:=hcut
  have HC:=Lib.hid hc
  have T5:=Lib.hid (TB.out.same (KI0.out.same_of hb) (KI0.out.over hb).lt)
  have K5:=Lib.hid (KI0.out.over hb)
  have B5:=Lib.hid hb
  have TH:=Lib.hid (show wc.there T 1 FG.arr.size from by rw [ZF.out]; exact (tg_range T5.out.blk T5.out.ok).2)
  clear hc hb hV FEN EPO RG SC TB KI0
  go_upto_region 3 with (first | ((with_reducible refine ld_row1 rfl 60 _ rfl ?_); refine ⟨V,_,FG.arr,_,rfl,HC.out,gp_row.1,rfl,by rw [gp_row.2,ZF.out],?_⟩) | ((with_reducible refine st_mid1 rfl 60 _ _ rfl ?_); refine ⟨T,1,FG.arr,rfl,rfl,TH.out,by rw [gp_row.2,ZF.out],Gp.one _,?_⟩))
  obtain ⟨w6,hw6⟩:∃ w6,w6=wc.setCells T 1 FG.arr.toList:=⟨_,rfl⟩
  rw [← hw6]
  have P:=Lib.hid (show TgR w0 n D T { t with g:=FG } Y w6∧Keeps (·=T) w w6 from by
   have h2:=T5.out.setG OKF.out
   rw [← hw6] at h2
   exact ⟨⟨X,m,K5.out.set (h2.2.mono (fun b e=>e▸T5.out.xt)) LO.out,h2.1,LO.out,HY.out⟩,(Keeps.of_below B5.out).trans h2.2⟩)
  clear hw6 T5 K5 B5 TH HC
  cases BB
  ·go_wp2
   go_ret
   exact ⟨rfl,P.out⟩
  ·go_wp2
   go_ret
   exact ⟨rfl,P.out⟩
end
section
variable {X:Nat→Prop} {w0 w:World} {T:Nat} {m:Tm} {t:Tg}
def freshS (w:World) (T:Nat):World:=(w.setCell ⟨T,83,none⟩ (.int .i64 0)).setCell ⟨T,85,none⟩ (.map (some w.heap.size))
def freshW (w:World) (T:Nat):World:=(freshS w T).alloc (.map #[] 0)
theorem freshS_size (w:World) (T:Nat):(freshS w T).heap.size=w.heap.size:=by simp [freshS,World.setCell]
theorem freshS_keeps {X:Nat→Prop} (w:World) {T:Nat} (hT:X T):Keeps X w (freshS w T):=((Keeps.refl X w).setCell (p:=⟨T,83,none⟩) hT _).setCell (p:=⟨T,85,none⟩) hT _
theorem freshW_keeps (w:World) (T:Nat):Keeps (·=T) w (freshW w T):=(freshS_keeps (X:=(·=T)) w rfl).alloc _
theorem TgB.fresh (h:TgB X w0 w T m t):TgB (fun b=>X b∨b=w.heap.size) w0 (freshW w T) T { m with W:=w.heap.size,hm:=[] } t.fresh:=by
 have hT:=(Array.getElem?_eq_some_iff.1 h.blk).1
 have kp:=freshW_keeps w T
 have e2:=tg_set h.blk h.ok 4 (.int .i64 0) (m':=m) (t':={ t with num:=0 }) rfl rfl rfl
 have e3:=tg_set e2 h.ok 6 (.map (some w.heap.size)) (m':={ m with W:=w.heap.size,hm:=[] }) (t':=t.fresh) rfl rfl rfl
 replace e3:=(Below.heap_alloc (freshS w T) (.map #[] 0) T (by rw [freshS_size]; exact hT)).trans e3
 have hz:(freshW w T).heap.size=w.heap.size+1:=by unfold freshW; simp [freshS_size]
 have hN:m.N<w.heap.size:=h.done.lt
 have hne:∀ b,b≠T→b<w.heap.size→(freshW w T).heap[b]?=w.heap[b]?:=fun b hb hl=>kp.block b hb hl
 refine ⟨e3,h.ok,.inl h.xt,.inr rfl,.inl h.xn,by show w.heap.size≠m.N; omega,fun k=>?_,?_,rfl,fun i h1=>absurd h1 (by simp),List.Pairwise.nil,?_,fun b o e=>.inl (h.xf b o e),?_⟩
 ·refine ⟨fun i hi=>?_,(h.box k).len,(h.box k).cap,(h.box k).eq⟩
  obtain ⟨b,o,e,hx,hlt,hc⟩:=(h.box k).ints i hi
  exact ⟨b,o,e,⟨.inl hx.1,hx.2⟩,Nat.lt_of_lt_of_le hlt kp.size,(kp.cell hx.2.1 hlt).trans hc⟩
 ·have:=IMap.new (freshS w T)
  rw [freshS_size] at this
  exact this
 ·refine ownsRow_same h.fly (fun b e=>?_)
  obtain ⟨-,cur,hc⟩:=fly_block h e
  refine hne b (fun q=>?_) (Array.getElem?_eq_some_iff.1 hc).1
  subst q
  rw [h.blk] at hc
  have e7:(111:Nat)=125:=congrArg (fun o:Option Obj=>match o with | some (.cells _ ty _)=>ty | _=>0) hc
  exact absurd e7 (by decide)
 ·refine h.done.move (hne _ (fun q=>?_) hN)
  obtain ⟨es,cl,h1,_⟩:=h.done
  rw [q,h.blk] at h1
  cases h1
end
theorem TgR.same_y {w0 w w':World} {n D T:Nat} {t:Tg} {Y:Nat→Prop} (h:TgR w0 n D T t Y w) (kp:Keeps (·=T) w w'):Same Y w w':=by
 obtain ⟨X,m,ki,tb,lo,hy⟩:=h
 intro b hb
 exact kp.block b (fun e=>(hy b hb).2 (.inl e)) (ki.lt b (hy b hb).1)
theorem TgR.lt_y {w0 w:World} {n D T:Nat} {t:Tg} {Y:Nat→Prop} (h:TgR w0 n D T t Y w):∀ b,Y b→b<w.heap.size:=by
 obtain ⟨X,m,ki,tb,lo,hy⟩:=h
 intro b hb
 exact ki.lt b (hy b hb).1
theorem StR.same {Y:Nat→Prop} {w w':World} {s:St} {a:Option Addr} (h:StR w s a) (sm:Same Y w w') (lt:∀ b,Y b→b<w'.heap.size) (hs:∀ b o,a=some ⟨b,o,none⟩→s.regs≠[]→Y b):StR w' s a:=by
 refine ⟨h.len,fun i hi=>?_⟩
 obtain ⟨b,o,rfl,hb,c1,c2⟩:=h.rep i hi
 have hy:=hs b o rfl (fun e=>by rw [e] at hi; simp at hi)
 have e:=sm b hy
 exact ⟨b,o,rfl,lt b hy,(World.cell?_of_block (w:=w) (a:=⟨b,_,none⟩) e).trans c1,(World.cell?_of_block (w:=w) (a:=⟨b,_,none⟩) e).trans c2⟩
theorem Same.trans {Y:Nat→Prop} {a b c:World} (h:Same Y a b) (k:Same Y b c):Same Y a c:=fun x hx=>(k x hx).trans (h x hx)
theorem box_same {w w':World} {b:Nat} {v0 v1 v2 v3 v4:Value} (e:w'.heap[b]?=w.heap[b]?) (h:w.cell? ⟨b,0,none⟩=some v0∧w.cell? ⟨b,1,none⟩=some v1∧w.cell? ⟨b,2,none⟩=some v2∧w.cell? ⟨b,3,none⟩=some v3∧w.cell? ⟨b,4,none⟩=some v4) :
  w'.cell? ⟨b,0,none⟩=some v0∧w'.cell? ⟨b,1,none⟩=some v1∧w'.cell? ⟨b,2,none⟩=some v2∧w'.cell? ⟨b,3,none⟩=some v3∧w'.cell? ⟨b,4,none⟩=some v4 :=
 ⟨(World.cell?_of_block (a:=⟨b,0,none⟩) e).trans h.1,(World.cell?_of_block (a:=⟨b,1,none⟩) e).trans h.2.1,(World.cell?_of_block (a:=⟨b,2,none⟩) e).trans h.2.2.1,(World.cell?_of_block (a:=⟨b,3,none⟩) e).trans h.2.2.2.1,(World.cell?_of_block (a:=⟨b,4,none⟩) e).trans h.2.2.2.2⟩
structure TgN (n:Nat) (t:Tg):Prop where
 kg:KG n t.k
 ok:t.g.ok
 num:t.k.num+2<1000000000000000
theorem errV_bool (b:Bool):errV (if b then 0 else 7)=if b then .nilIface else .iface 95 (.int .i64 7):=by cases b <;> rfl
section
variable (w0 w:World) (n D T:Nat) (t:Tg) (Y:Nat→Prop)
set_option maxRecDepth 100000 in
set_option maxHeartbeats 8000000 in
theorem next_any (s:St) (a:Option Addr) (cap:Nat) (h:TgR w0 n D T t Y w) (hn:TgN n t) (hr:StR w s a) (hs:∀ b o,a=some ⟨b,o,none⟩→s.regs≠[]→Y b) (tt:Tabs w0) :
  Calls Tryz.prog 76 #[.pointer (some ⟨T,0,none⟩),stV s a cap] w fun e w'=>e=.returned (errV (t.next n s).2)∧TgR w0 n D T (t.next n s).1 Y w'∧Same Y w w'∧(t.isReady=false∨t.k.ep=1000000→Keeps (·=T) w w'):=by
 have HN:=Lib.hid hn
 have TT:=Lib.hid tt
 have EPB:=Lib.hid (show 1≤t.k.ep∧t.k.ep≤1000000 from ⟨hn.kg.kd.place.k.e0,hn.kg.kd.place.k.e1⟩)
 obtain ⟨w1,hw1⟩:∃ w1,w1=w.alloc (.cells #[.int .i64 s.gen,.slice a s.regs.length cap,.int .i64 s.typ,.int .i64 s.holder,.bool s.stays] 35):=⟨_,rfl⟩
 have B1:=Lib.hid (show RowKit.Below w.heap.size w w1 from hw1▸bal w _)
 have R1:=Lib.hid (show w1.heap[w.heap.size]?=some (.cells #[.int .i64 s.gen,.slice a s.regs.length cap,.int .i64 s.typ,.int .i64 s.holder,.bool s.stays] 35 (0,0)) from hw1▸heap_alloc_new w _)
 obtain ⟨Z,hZ⟩:∃ Z:Nat→Prop,Z=fun c=>Y c∨(w.heap.size≤c∧c<w1.heap.size):=⟨_,rfl⟩
 have H1:=Lib.hid (show TgR w0 n D T t Z w1 from hZ▸h.more B1.out)
 have ZY:=Lib.hid (show ∀ b,Y b→Z b from fun b hb=>hZ▸Or.inl hb)
 have ZB:=Lib.hid (show Z w.heap.size from hZ▸Or.inr ⟨Nat.le_refl _,by rw [hw1]; simp⟩)
 have HS:=Lib.hid (show ∀ b o,a=some ⟨b,o,none⟩→s.regs≠[]→Z b from fun b o e hx=>hZ▸Or.inl (hs b o e hx))
 have S1:=Lib.hid (show StR w1 s a from hr.below B1.out)
 have SY1:=Lib.hid (show Same Y w w1 from fun b hb=>B1.out.block b (h.lt_y b hb))
 have RDY:=Lib.hid (ready_any w0 w1 n D T t Z H1.out ⟨by have:=EPB.out; omega,EPB.out.2⟩ (Gp.fence_ok hn.ok _))
 clear h hn hr hs tt hZ
 have NX:=Lib.hid (show t.next n s=if t.isReady=false then (t.ready,7) else if t.k.ep=1000000 then (t.ready,6) else if (t.ready.keep n (t.k.ep+1) t.k.s).2≠0 then t.ready.keep n (t.k.ep+1) t.k.s else
  if (t.ready.keep n (t.k.ep+1) t.k.s).1.fresh.isReady=false then ((t.ready.keep n (t.k.ep+1) t.k.s).1.fresh.ready,7) else (t.ready.keep n (t.k.ep+1) t.k.s).1.fresh.ready.keep n (t.ready.keep n (t.k.ep+1) t.k.s).1.fresh.k.ep s from rfl)
 obtain ⟨r,hrr⟩:∃ r,t.next n s=r:=⟨_,rfl⟩
 rw [hrr] at NX ⊢
 clear hrr
 have hmm:=@run_makeMap Tryz.prog
 go_enter Tryz.func76,Tryz.ntmps76
 go_upto_region 1 with fail
 have hw1':=hw1
 rw [← hw1']
 clear hw1 hw1'
 go_wp2_with fail
 refine RDY.out.mono ?_
 rintro e w2 ⟨rfl,h2,k2⟩
 have H2:=Lib.hid h2
 have K2:=Lib.hid k2
 have SY2:=Lib.hid (show Same Y w w2 from SY1.out.trans (fun b hb=>(H1.out.same_y k2) b (ZY.out b hb)))
 have SZ2:=Lib.hid (show Same Z w1 w2 from H1.out.same_y k2)
 clear h2 k2 RDY SY1
 rw [errV_bool]
 cases hrd:t.isReady
 ·have NX1:=Lib.hid (NX.out.trans (if_pos hrd))
  clear NX
  simp only [Bool.false_eq_true,if_false]
  go_wp2
  go_ret
  rw [NX1.out]
  exact ⟨rfl,H2.out.less ZY.out,SY2.out,fun _=>(Keeps.of_below B1.out).trans K2.out⟩
 have NX1:=Lib.hid (NX.out.trans (if_neg (by rw [hrd]; decide)))
 clear NX
 simp only [if_true]
 have TRK:t.ready.k=t.k:=rfl
 obtain ⟨X,m,ki,tb,lo,hy⟩:=H2.out
 rw [TRK] at ki
 have KI2:=Lib.hid ki
 have TB2:=Lib.hid tb
 have LO:=Lib.hid lo
 have HY:=Lib.hid hy
 have c0:=(tg_cells tb.blk tb.ok).1.1
 have hT:=(Array.getElem?_eq_some_iff.1 tb.blk).1
 have EP:=Lib.hid (epochI n w0 w2 X D m.K t.k ki)
 clear ki tb lo hy TRK
 go_wp2_with fail
 refine EP.out.mono ?_
 rintro e w3 ⟨rfl,hq⟩
 replace hq:=hq.symm
 subst hq
 clear EP
 by_cases he:t.k.ep=1000000
 ·have NX2:=Lib.hid (NX1.out.trans (if_pos he))
  rw [he]
  clear NX1
  go_wp2
  go_ret
  rw [NX2.out]
  exact ⟨rfl,H2.out.less ZY.out,SY2.out,fun _=>(Keeps.of_below B1.out).trans K2.out⟩
 have NX2:=Lib.hid (NX1.out.trans (if_neg he))
 have hq1:(t.k.ep == 1000000)=false:=by simpa using he
 have hq2:IntKind.i64.wrap (t.k.ep+1)=t.k.ep+1:=IntWalk.i64_in _ (by have:=EPB.out; omega)
 have EPN:=Lib.hid (show 1≤t.k.ep+1∧t.k.ep+1≤1000000 from by have:=EPB.out; omega)
 have NOT:=Lib.hid (show ¬ (t.isReady=false∨t.k.ep=1000000) from fun h=>by
  rcases h with h | h
  ·rw [hrd] at h; cases h
  ·exact he h)
 clear NX1 he hrd
 obtain ⟨r1,hr1⟩:∃ r1,t.k.keep n (t.k.ep+1) t.k.s=r1:=⟨_,rfl⟩
 have LAW:=Lib.hid (keep_law HN.out.kg (by have:=HN.out.num; omega) EPN.out ((good_iff _).2 HN.out.kg.kd.place.k.g))
 rw [hr1] at LAW
 have RK:=Lib.hid (show t.ready.keep n (t.k.ep+1) t.k.s=({ t.ready with k:=r1.1 },r1.2) from by rw [← hr1]; rfl)
 rw [RK.out] at NX2
 go_upto_region 6 with fail
 have C0:=Lib.hid (show w2.drew.cell? ⟨T,0,none⟩=some (.pointer (some ⟨m.K,0,none⟩)) from c0)
 have EPD:=Lib.hid (show Calls Tryz.prog 62 #[.pointer (some ⟨m.K,0,none⟩)] w2.drew fun e w'=>e=.returned (.int .i64 t.k.ep)∧w'=w2.drew from epochI n w0 w2.drew X D m.K t.k KI2.out.drew)
 have STD:=Lib.hid (stateI2 n w0 w2.drew X D m.K t.k KI2.out.drew (by have:=HN.out.kg.kd.place.k.g.regs_len; omega))
 have KEEPA:=Lib.hid (show ∀ w4 a4 c4,RowKit.Below w2.drew.heap.size w2.drew w4→StR w4 t.k.s a4→Hid (Calls Tryz.prog 96 #[.pointer (some ⟨m.K,0,none⟩),.int .i64 (t.k.ep+1),stV t.k.s a4 c4] w4 fun e w'=>e=.returned (errV r1.2)∧KI n w0 X D m.K r1.1 w'∧Same X w4 w') from fun w4 a4 c4 b4 hs4=>by
  have q:=keepI n w0 w4 X D m.K t.k a4 c4 (t.k.ep+1) t.k.s (KI2.out.drew.over b4) HN.out.kg.kd.ok (by rw [HN.out.kg.kd.wait]; simp) HN.out.kg.kd.n6 (by have:=HN.out.kg.kd.p1; omega) (by have:=HN.out.num; omega) hs4 TT.out
  rw [hr1] at q
  exact Lib.hid q)
 clear hr1
 go_region_held3 (fun w'=>w'.cell? ⟨T,0,none⟩=some (.pointer (some ⟨m.K,0,none⟩)))
  (first | exact C0.out | assumption)
  (first | ((with_reducible refine EPD.out.mono ?_); rintro e w3 ⟨rfl,rfl⟩) | ((with_reducible refine STD.out.mono ?_); rintro e w4 ⟨a4,c4,rfl,hs4,b4,fr4⟩; have c4':=(b4.cell (p:=⟨T,0,none⟩) hT).trans C0.out; have KP:=KEEPA.out w4 a4 c4 b4 hs4) | ((with_reducible refine KP.out.mono ?_); rintro e w5 ⟨rfl,ki5,sm5⟩; have c5':=(World.cell?_of_block (a:=⟨T,0,none⟩) (sm5 T TB2.out.xt)).trans c4'))
 have SX5:=Lib.hid (show Same X w2 w5 from fun b hb=>(sm5 b hb).trans (b4.block b (KI2.out.lt b hb)))
 have T5:=Lib.hid ((TB2.out.same SX5.out ki5.lt).setK r1.1)
 have KI5:=Lib.hid ki5
 have SZ5:=Lib.hid (show Same Z w1 w5 from SZ2.out.trans (fun b hb=>SX5.out b (HY.out b hb).1))
 have SY5:=Lib.hid (show Same Y w w5 from SY2.out.trans (fun b hb=>SX5.out b (HY.out b (ZY.out b hb)).1))
 clear ki5 sm5 b4 hs4 fr4 c4' c5' KEEPA KP STD EPD C0 SX5 SZ2 SY2 c0 hq2 RK
 rcases LAW.out with ⟨e1,g1,e2,e3,e4⟩ | ⟨e1,-⟩
 case inr =>
  have NX3:=Lib.hid (NX2.out.trans (if_pos (by rw [e1]; decide)))
  rw [e1,errV_some (by decide)]
  have E1:=Lib.hid e1
  clear e1 NX2
  go_wp2
  go_ret
  rw [NX3.out]
  exact ⟨by rw [E1.out]; rfl,⟨X,m,KI5.out,T5.out,LO.out,fun b hb=>HY.out b (ZY.out b hb)⟩,SY5.out,fun h=>absurd h NOT.out⟩
 have NX3:=Lib.hid (NX2.out.trans (if_neg (fun h=>h e1)))
 rw [e1,errV_nil]
 have G1:=Lib.hid (show KG n r1.1∧r1.1.num=t.k.num+1∧r1.1.ep=t.k.ep+1 from ⟨g1,e2,e3⟩)
 clear e1 g1 e2 e3 e4 NX2 LAW
 obtain ⟨⟨-,-,-,-,-,y3,y4,y5,y6,y7⟩,-,-,-,-,-,z3,z4,z5,z6,z7⟩:=tg_cells T5.out.blk T5.out.ok
 have hT5:=(Array.getElem?_eq_some_iff.1 T5.out.blk).1
 go_upto_region 10 with fail
 obtain ⟨w6,hw6⟩:∃ w6,w6=freshW w5 T:=⟨_,rfl⟩
 have hw6':=hw6
 unfold freshW freshS at hw6'
 rw [← hw6']
 obtain ⟨t2,ht2⟩:∃ t2,({ t.ready with k:=r1.1 }:Tg).fresh=t2:=⟨_,rfl⟩
 have H6:=Lib.hid (show TgR w0 n D T t2 Z w6 from by
  have hb:=T5.out.fresh
  rw [ht2,← hw6] at hb
  have hk:=(KI5.out.set (freshS_keeps w5 T5.out.xt) LO.out).more (.map #[] 0)
  rw [freshS_size] at hk
  replace hk:KI n w0 (fun b=>X b∨b=w5.heap.size) D m.K r1.1 w6:=hw6▸hk
  have hk2:t2.k=r1.1:=by rw [← ht2]; rfl
  refine ⟨_,_,by rw [hk2]; exact hk,hb,fun b e=>?_,fun b e=>⟨.inl (HY.out b e).1,fun ho=>?_⟩⟩
  ·rcases e with e | e
   ·exact LO.out b e
   ·rw [e]; exact KI5.out.below.size
  ·have hlt:=KI5.out.lt b (HY.out b e).1
   rcases ho with ho | ho | ho | ho | ho
   ·exact (HY.out b e).2 (.inl ho)
   ·have:b=w5.heap.size:=ho
    omega
   ·exact (HY.out b e).2 (.inr (.inr (.inl ho)))
   ·cases ho
   ·exact (HY.out b e).2 (.inr (.inr (.inr (.inr ho)))))
 have KF:=Lib.hid (show Keeps (·=T) w5 w6 from hw6▸freshW_keeps w5 T)
 have SZ6:=Lib.hid (show Same Z w1 w6 from SZ5.out.trans (fun b hb=>KF.out.block b (fun e=>(HY.out b hb).2 (.inl e)) (KI5.out.lt b (HY.out b hb).1)))
 have SY6:=Lib.hid (show Same Y w w6 from SY5.out.trans (fun b hb=>KF.out.block b (fun e=>(HY.out b (ZY.out b hb)).2 (.inl e)) (KI5.out.lt b (HY.out b (ZY.out b hb)).1)))
 have T2K:=Lib.hid (show t2.k=r1.1∧t2.g.ok from by rw [← ht2]; exact ⟨rfl,T5.out.ok⟩)
 rw [ht2] at NX3
 clear hw6 hw6' ht2 y3 y4 y5 y6 y7 z3 z4 z5 z6 z7 SZ5 SY5 KF T5 KI5 KI2 TB2 hT5 hT H2 K2 LO HY
 have RDY:=Lib.hid (ready_any w0 w6 n D T t2 Z H6.out (by rw [T2K.out.1,G1.out.2.2]; have:=EPN.out; omega) (Gp.fence_ok T2K.out.2 _))
 go_wp2_with fail
 refine RDY.out.mono ?_
 rintro e w7 ⟨rfl,h7,k7⟩
 have H7:=Lib.hid h7
 have SZ7:=Lib.hid (show Same Z w1 w7 from SZ6.out.trans (H6.out.same_y k7))
 have SY7:=Lib.hid (show Same Y w w7 from SY6.out.trans (fun b hb=>(H6.out.same_y k7) b (ZY.out b hb)))
 clear h7 k7 RDY H6 SZ6 SY6
 rw [errV_bool]
 cases hrd:t2.isReady
 ·have NX4:=Lib.hid (NX3.out.trans (if_pos hrd))
  clear NX3
  simp only [Bool.false_eq_true,if_false]
  go_wp2
  go_ret
  rw [NX4.out]
  exact ⟨rfl,H7.out.less ZY.out,SY7.out,fun h=>absurd h NOT.out⟩
 have NX4:=Lib.hid (NX3.out.trans (if_neg (by rw [hrd]; decide)))
 clear NX3 hrd
 simp only [if_true]
 obtain ⟨X7,m7,ki7,tb7,lo7,hy7⟩:=H7.out
 have e7:t2.ready.k=r1.1:=T2K.out.1
 rw [e7] at ki7
 have KI7:=Lib.hid ki7
 have TB7:=Lib.hid tb7
 have LO7:=Lib.hid lo7
 have HY7:=Lib.hid hy7
 have C0:=Lib.hid (show w7.drew.cell? ⟨T,0,none⟩=some (.pointer (some ⟨m7.K,0,none⟩)) from (tg_cells tb7.blk tb7.ok).1.1)
 have BX:=Lib.hid (show (w7.drew.cell? ⟨w.heap.size,0,none⟩=some (.int .i64 s.gen)∧w7.drew.cell? ⟨w.heap.size,1,none⟩=some (.slice a s.regs.length cap)∧w7.drew.cell? ⟨w.heap.size,2,none⟩=some (.int .i64 s.typ)∧w7.drew.cell? ⟨w.heap.size,3,none⟩=some (.int .i64 s.holder)∧w7.drew.cell? ⟨w.heap.size,4,none⟩=some (.bool s.stays)) from (cells5 ((SZ7.out _ ZB.out).trans R1.out)).1)
 have EPD:=Lib.hid (show Calls Tryz.prog 62 #[.pointer (some ⟨m7.K,0,none⟩)] w7.drew fun e w'=>e=.returned (.int .i64 r1.1.ep)∧w'=w7.drew from epochI n w0 w7.drew X7 D m7.K r1.1 ki7.drew)
 obtain ⟨r2,hr2⟩:∃ r2,r1.1.keep n r1.1.ep s=r2:=⟨_,rfl⟩
 have KP:=Lib.hid (show Calls Tryz.prog 96 #[.pointer (some ⟨m7.K,0,none⟩),.int .i64 r1.1.ep,.agg #[.int .i64 s.gen,.slice a s.regs.length cap,.int .i64 s.typ,.int .i64 s.holder,.bool s.stays]] w7.drew fun e w'=>e=.returned (errV r2.2)∧KI n w0 X7 D m7.K r2.1 w'∧Same X7 w7.drew w' from by
  have q:=keepI n w0 w7.drew X7 D m7.K r1.1 a cap r1.1.ep s ki7.drew G1.out.1.kd.ok (by rw [G1.out.1.kd.wait]; simp) G1.out.1.kd.n6 (by have:=G1.out.1.kd.p1; omega) (by have:=G1.out.2.1; have:=HN.out.num; omega) (S1.out.same (SZ7.out) (H7.out.lt_y) HS.out) TT.out
  rw [hr2] at q
  exact q)
 have NX5:=Lib.hid (show r=({ t2.ready with k:=r2.1 },r2.2) from by
  rw [NX4.out,← hr2,← T2K.out.1]
  rfl)
 clear hr2 NX4 ki7 tb7 lo7 hy7 e7
 go_upto_region 12 with fail
 go_region_held3 (fun w'=>w'.cell? ⟨T,0,none⟩=some (.pointer (some ⟨m7.K,0,none⟩))∧w'.cell? ⟨w.heap.size,0,none⟩=some (.int .i64 s.gen)∧w'.cell? ⟨w.heap.size,1,none⟩=some (.slice a s.regs.length cap)∧w'.cell? ⟨w.heap.size,2,none⟩=some (.int .i64 s.typ)∧w'.cell? ⟨w.heap.size,3,none⟩=some (.int .i64 s.holder)∧w'.cell? ⟨w.heap.size,4,none⟩=some (.bool s.stays))
  (first | exact ⟨C0.out,BX.out⟩ | assumption)
  (first | ((with_reducible refine EPD.out.mono ?_); rintro e w8 ⟨rfl,rfl⟩) | ((with_reducible refine KP.out.mono ?_); rintro e w8 ⟨rfl,ki8,sm8⟩; have c8:=And.intro ((World.cell?_of_block (a:=⟨T,0,none⟩) (sm8 T TB7.out.xt)).trans C0.out) ((box_same (sm8 _ (HY7.out _ ZB.out).1) BX.out))))
 have P:=Lib.hid (show TgR w0 n D T { t2.ready with k:=r2.1 } Y w8∧Same Y w w8 from
  ⟨⟨X7,m7,ki8,(TB7.out.same (w':=w8) (fun b hb=>sm8 b hb) ki8.lt).setK r2.1,LO7.out,fun b hb=>HY7.out b (ZY.out b hb)⟩,SY7.out.trans (fun b hb=>sm8 b (HY7.out b (ZY.out b hb)).1)⟩)
 clear ki8 sm8 c8
 go_wp2
 go_ret
 rw [NX5.out]
 exact ⟨rfl,P.out.1,P.out.2,fun h=>absurd h NOT.out⟩
end
section
variable (w0 w:World) (n D T:Nat) (t:Tg) (Y:Nat→Prop)
theorem TgB.setUp {X:Nat→Prop} {w0 w:World} {T:Nat} {m:Tm} {t:Tg} (h:TgB X w0 w T m t) {i:Nat} (hi:i<3) (b:Bool):TgB X w0 (w.setCell ⟨T,76+i,none⟩ (.bool b)) T m { t with g:=t.g.setU i b }∧Keeps (·=T) w (w.setCell ⟨T,76+i,none⟩ (.bool b)) :=
 have kp:Keeps (·=T) w (w.setCell ⟨T,76+i,none⟩ (.bool b)):=(Keeps.refl (·=T) w).setCell (p:=⟨T,76+i,none⟩) rfl _
 ⟨h.turn kp (tg_setU h.blk h.ok hi b) (h.ok.setU i b) rfl rfl rfl rfl,kp⟩
def TgPost (w0 w:World) (n D T:Nat) (t:Tg) (Y:Nat→Prop) (w':World):Prop:=TgR w0 n D T t Y w'∧Same Y w w'∧Keeps (·=T) w w'
theorem TgPost.of {X:Nat→Prop} {w0 w w':World} {n D T:Nat} {m:Tm} {t t':Tg} {Y:Nat→Prop} (ki:KI n w0 X D m.K t.k w) (tb:TgB X w0 w T m t) (lo:∀ b,X b→w0.heap.size≤b) (hy:∀ b,Y b→X b∧¬ m.own T b) (kp:Keeps (·=T) w w') (tb':TgB X w0 w' T m t') (hk:t'.k=t.k):TgPost w0 w n D T t' Y w' :=
 ⟨⟨X,m,by rw [hk]; exact ki.set (kp.mono (fun b e=>e▸tb.xt)) lo,tb',lo,hy⟩,fun b hb=>kp.block b (fun e=>(hy b hb).2 (.inl e)) (ki.lt b (hy b hb).1),kp⟩
theorem TgPost.refl {w0 w:World} {n D T:Nat} {t:Tg} {Y:Nat→Prop} (h:TgR w0 n D T t Y w):TgPost w0 w n D T t Y w:=⟨h,fun _ _=>rfl,Keeps.refl _ _⟩
theorem TgPost.over {w0 w w1 w':World} {n D T:Nat} {t t1:Tg} {Y:Nat→Prop} (h:TgR w0 n D T t1 Y w) (b:Below w.heap.size w w1) (p:TgPost w0 w1 n D T t Y w'):TgPost w0 w n D T t Y w' :=
 ⟨p.1,fun c hc=>(p.2.1 c hc).trans (b.block c (h.lt_y c hc)),(Keeps.of_below b).trans p.2.2⟩
set_option maxRecDepth 100000 in
set_option maxHeartbeats 4000000 in
theorem up_any (i:Int) (up:Bool) (h:TgR w0 n D T t Y w) :
  Calls Tryz.prog 36 #[.pointer (some ⟨T,0,none⟩),.int .i64 i,.bool up] w fun e w'=>e=.returned (errV (t.up i up).2)∧TgPost w0 w n D T (t.up i up).1 Y w':=by
 by_cases h1:i<0∨3≤i
 ·have E:=Lib.hid (show t.up i up=(t,8) from by unfold Tg.up; rw [if_pos h1])
  have HH:=Lib.hid h
  clear h
  rw [E.out]
  rcases h1 with h1 | h1
  ·go_enter Tryz.func36,Tryz.ntmps36
   go_wp2
   go_ret
   exact ⟨rfl,.refl HH.out⟩
  ·have h2:¬ i<0:=by omega
   go_enter Tryz.func36,Tryz.ntmps36
   go_wp2
   go_ret
   exact ⟨rfl,.refl HH.out⟩
 ·have E:=Lib.hid (show t.up i up=({ t with g:=t.g.setU i.toNat up },0) from by unfold Tg.up; rw [if_neg h1])
  rw [E.out]
  obtain ⟨k,rfl⟩:∃ k:Nat,i=k:=⟨i.toNat,by omega⟩
  have hk:k<3:=by omega
  obtain ⟨X,m,ki,tb,lo,hy⟩:=h
  have U3:k<t.g.u.length:=by rw [tb.ok.u3]; exact hk
  simp only [Int.toNat_natCast]
  obtain ⟨u0,u1⟩:=tg_up tb.blk tb.ok U3
  obtain ⟨ub,hub⟩:∃ b,t.g.u[k]=b:=⟨_,rfl⟩
  rw [hub] at u0
  clear hub
  have P:=Lib.hid (show TgPost w0 w n D T { t with g:=t.g.setU k up } Y (w.setCell ⟨T,76+k,none⟩ (.bool up)) from .of ki tb lo hy (tb.setUp hk up).2 (tb.setUp hk up).1 rfl)
  have q1:¬ (k:Int)<0:=by omega
  have q2:¬ 3≤(k:Int):=by omega
  have q3:(k:Int)<3:=by omega
  have q4:(0:Int)≤(k:Int):=by omega
  clear ki tb lo hy h1 U3 E
  go_enter Tryz.func36,Tryz.ntmps36
  go_wp2
  go_ret
  exact ⟨rfl,P.out⟩
set_option maxRecDepth 100000 in
set_option maxHeartbeats 8000000 in
theorem tsync_any (i:Int) (h:TgR w0 n D T t Y w) :
  Calls Tryz.prog 27 #[.pointer (some ⟨T,0,none⟩),.int .i64 i] w fun e w'=>e=.returned (errV (t.sync i).2)∧TgPost w0 w n D T (t.sync i).1 Y w':=by
 by_cases h1:i<0∨3≤i
 ·have E:=Lib.hid (show t.sync i=(t,8) from by unfold Tg.sync; rw [if_pos h1])
  have HH:=Lib.hid h
  clear h
  rw [E.out]
  rcases h1 with h1 | h1
  ·go_enter Tryz.func27,Tryz.ntmps27
   go_wp2
   go_ret
   exact ⟨rfl,.refl HH.out⟩
  ·have h2:¬ i<0:=by omega
   go_enter Tryz.func27,Tryz.ntmps27
   go_wp2
   go_ret
   exact ⟨rfl,.refl HH.out⟩
 have E:=Lib.hid (show t.sync i=if t.g.syncs t.k.ep i.toNat then ({ t with g:=t.g.sync t.k.ep i.toNat },0) else (t,7) from by unfold Tg.sync; rw [if_neg h1])
 obtain ⟨k,rfl⟩:∃ k:Nat,i=k:=⟨i.toNat,by omega⟩
 have hk:k<3:=by omega
 have q1:¬ (k:Int)<0:=by omega
 have q2:¬ 3≤(k:Int):=by omega
 have HH:=Lib.hid h
 obtain ⟨X,m,ki,tb,lo,hy⟩:=h
 have LTT:=(Array.getElem?_eq_some_iff.1 tb.blk).1
 have ZG:=Lib.hid (Gp.size tb.ok)
 have TB:=Lib.hid tb
 have KI0:=Lib.hid ki
 have LO:=Lib.hid lo
 have HY:=Lib.hid hy
 have RG:=Lib.hid (fun w' (h:RowKit.Below w.heap.size w w')=>(show w'.rangeAt T 1 t.g.arr.toList from fun j v hv=>(h.cell (p:=⟨T,1+j,none⟩) LTT).trans ((tg_range tb.blk tb.ok).1 j v hv)))
 have SC:=Lib.hid (fun w' (h:RowKit.Below w.heap.size w w')=>(h.cell (p:=⟨T,0,none⟩) LTT).trans (tg_cells tb.blk tb.ok).1.1)
 have EPO:=Lib.hid (fun w' (h:RowKit.Below w.heap.size w w')=>epochI n w0 w' X D m.K t.k (ki.over h))
 have FEN:=Lib.hid (fun w'=>gsync_any t.g t.k.ep k w' tb.ok hk)
 have OKF:=Lib.hid (Gp.sync_ok tb.ok t.k.ep k)
 simp only [Int.toNat_natCast] at E
 obtain ⟨FG,hFG⟩:∃ FG,t.g.sync t.k.ep k=FG:=⟨_,rfl⟩
 obtain ⟨BB,hBB⟩:∃ BB,t.g.syncs t.k.ep k=BB:=⟨_,rfl⟩
 rw [hFG,hBB] at FEN E
 rw [hFG] at OKF
 have ZF:=Lib.hid (Gp.size OKF.out)
 clear hFG hBB ki tb lo hy h1
 obtain ⟨r,hr⟩:∃ r,t.sync (k:Int)=r:=⟨_,rfl⟩
 rw [hr] at E ⊢
 clear hr
 go_enter Tryz.func27,Tryz.ntmps27
 go_upto_region 3 with fail
 go_cut [5,6] (fun v5 v6 wx=>∃ V,v5=.pointer (some ⟨V,0,none⟩)∧v6=.bool BB∧w.heap.size≤V∧wx.heap[V]?=some (.cells FG.arr 60 (0,0))∧RowKit.Below w.heap.size w wx)
 case first =>
  obtain ⟨S,hS⟩:∃ S:World→Prop,S=fun w'=>RowKit.Below w.heap.size w w':=⟨_,rfl⟩
  have S3:∀ w',RowKit.Below w.heap.size w w'→S w':=fun w' h=>by rw [hS]; exact h
  have S4:∀ w',S w'→RowKit.Below w.heap.size w w':=fun w' h=>by rw [hS] at h; exact h
  clear hS
  refine wp_region_held_drew (S:=S) (by kernel_rfl) (S3 _ (Below.refl _ _).drew) (fun hHeld=>?_)
  obtain ⟨wd,hwd⟩:∃ wd,wd=w.drew:=⟨_,rfl⟩
  rw [← hwd] at hHeld ⊢
  clear hwd
  refine wt 0 (.pointer (some ⟨T,0,none⟩)) hHeld ?_
  go_simp
  refine wt 1 (.pointer (some ⟨T,0,none⟩)) hHeld ?_
  go_simp
  refine wt 2 (.pointer (some ⟨T,1,none⟩)) hHeld ?_
  go_simp
  refine wt 3 (.agg t.g.arr) hHeld ?_ (hy:=yieldsIf_load_midA (by rfl) 60 _ rfl T 1 rfl t.g.arr _ (fun w' h=>RG.out w' (S4 w' h)) gp_row.1 rfl (by rw [gp_row.2,ZG.out]))
  go_simp
  refine wt 4 (.pointer (some ⟨T,0,none⟩)) hHeld ?_
  go_simp
  refine wt 5 (.pointer (some ⟨T,0,none⟩)) hHeld ?_
  go_simp
  refine wt 6 (.pointer (some ⟨T,0,none⟩)) hHeld ?_
  go_simp
  refine wt 7 (.pointer (some ⟨m.K,0,none⟩)) hHeld ?_ (hy:=Or.inl ⟨by rfl,fun w' hSw=>by have hc:=SC.out w' (S4 w' hSw); go_simp⟩)
  go_simp
  refine wt 9 (.int .i64 (k:Int)) hHeld ?_
  go_simp
  refine wpAnyH_ready (rs:=[8,14]) (by kernel_rfl) (by simp) ?_
  refine AllReadyH.cons (o:=_) rfl (fun Kx hK=>?_) (AllReadyH.cons (o:=_) rfl (fun Kx hK=>?_) AllReadyH.nil)
  ·go_simp
   refine (EPO.out _ (S4 _ hHeld)).mono ?_
   rintro e w1_ ⟨rfl,hq⟩
   replace hq:=hq.symm
   subst hq
   have HH1:=hHeld
   refine hK.out _ _ HH1 (fun hHeld1=>?_)
   clear hK Kx HH1
   refine wpAnyH_ready (rs:=[10,14]) (by kernel_rfl) (by simp) ?_
   refine AllReadyH.cons (o:=_) rfl (fun Kx hK=>?_) (AllReadyH.cons (o:=_) rfl (fun Kx hK=>?_) AllReadyH.nil)
   ·go_simp
    refine (FEN.out _).mono ?_
    rintro e w2_ ⟨rfl,b2⟩
    have HH2:=S3 _ ((S4 _ hHeld1).trans (b2.mono (S4 _ hHeld1).size))
    clear b2
    refine hK.out _ _ HH2 (fun hHeld2=>?_)
    clear hK Kx HH2
    refine wt 11 (.tuple #[.agg FG.arr,.bool BB]) hHeld2 ?_
    go_simp
    refine wt 12 (.agg FG.arr) hHeld2 ?_
    go_simp
    refine wt 13 (.bool BB) hHeld2 ?_
    go_simp
    refine wpAnyH_ready (rs:=[14]) (by kernel_rfl) (by simp) ?_
    refine AllReadyH.cons (o:=_) rfl (fun Kx hK=>?_) AllReadyH.nil
    go_simp
    obtain ⟨w3_,hw3⟩:∃ x,x=w2_.alloc (.cells Tryz.zeroCells60 60):=⟨_,rfl⟩
    have HV3:=Lib.hid (show w3_.heap[w2_.heap.size]?=some (.cells Gp.zero.arr 60 (0,0)) from hw3▸gp_zero_arr▸heap_alloc_new _ _)
    have HH3:=S3 _ (show RowKit.Below w.heap.size w w3_ from hw3▸(S4 _ hHeld2).alloc (S4 _ hHeld2).size _)
    have HL3:w.heap.size≤w2_.heap.size:=(S4 _ hHeld2).size
    rw [← hw3]
    obtain ⟨V3,hV3⟩:∃ V,w2_.heap.size=V:=⟨_,rfl⟩
    rw [hV3] at HV3 HL3 ⊢
    clear hw3 hV3
    refine hK.out _ _ HH3 (fun hHeld3=>?_)
    clear hK Kx HH3
    refine wpAnyH_ready (rs:=[15]) (by kernel_rfl) (by simp) ?_
    refine AllReadyH.cons (o:=_) rfl (fun Kx hK=>?_) AllReadyH.nil
    refine step_store_row rfl 60 _ _ rfl V3 FG.arr rfl rfl 60 Gp.zero.arr HV3.out (by rw [gp_row.2,ZF.out]) (by rw [ZF.out]; rfl) (Gp.one _) ?_
    have HS4:=Lib.hid (show (World.setRow w3_ V3 FG.arr).heap[V3]?=some (.cells FG.arr 60 (0,0)) from setRow_heap _ _ _ _ _ _ HV3.out)
    have HH4:=S3 _ (show RowKit.Below w.heap.size w (World.setRow w3_ V3 FG.arr) from below_setRow' (S4 _ hHeld3) HL3 _)
    refine hK.out _ _ HH4 (fun hHeld4=>?_)
    clear hK Kx HH4
    go_simp
    refine wpAnyH_ready (rs:=[16]) (by kernel_rfl) (by simp) ?_
    refine AllReadyH.cons (o:=_) rfl (fun Kx hK=>?_) AllReadyH.nil
    go_simp
    have HH5:=hHeld4
    refine hK.out _ _ HH5 (fun hHeld5=>?_)
    clear hK Kx HH5
    refine wpAnyH_done (by kernel_rfl) ?_ _
    go_wp2_with fail
    go_meet
    exact ⟨V3,rfl,rfl,HL3,HS4.out,S4 _ hHeld5⟩
   ·go_simp
    obtain ⟨w6_,hw6⟩:∃ x,x=wd.alloc (.cells Tryz.zeroCells60 60):=⟨_,rfl⟩
    have HV6:=Lib.hid (show w6_.heap[wd.heap.size]?=some (.cells Gp.zero.arr 60 (0,0)) from hw6▸gp_zero_arr▸heap_alloc_new _ _)
    have HH6:=S3 _ (show RowKit.Below w.heap.size w w6_ from hw6▸(S4 _ hHeld1).alloc (S4 _ hHeld1).size _)
    have HL6:w.heap.size≤wd.heap.size:=(S4 _ hHeld1).size
    rw [← hw6]
    obtain ⟨V6,hV6⟩:∃ V,wd.heap.size=V:=⟨_,rfl⟩
    rw [hV6] at HV6 HL6 ⊢
    clear hw6 hV6
    refine hK.out _ _ HH6 (fun hHeld6=>?_)
    clear hK Kx HH6
    refine wpAnyH_ready (rs:=[10]) (by kernel_rfl) (by simp) ?_
    refine AllReadyH.cons (o:=_) rfl (fun Kx hK=>?_) AllReadyH.nil
    go_simp
    refine (FEN.out _).mono ?_
    rintro e w7_ ⟨rfl,b7⟩
    have HH7:=S3 _ ((S4 _ hHeld6).trans (b7.mono (S4 _ hHeld6).size))
    have HV7:=Lib.hid ((b7.block _ (Array.getElem?_eq_some_iff.1 HV6.out).1).trans HV6.out)
    clear b7
    refine hK.out _ _ HH7 (fun hHeld7=>?_)
    clear hK Kx HH7
    refine wt 11 (.tuple #[.agg FG.arr,.bool BB]) hHeld7 ?_
    go_simp
    refine wt 12 (.agg FG.arr) hHeld7 ?_
    go_simp
    refine wt 13 (.bool BB) hHeld7 ?_
    go_simp
    refine wpAnyH_ready (rs:=[15]) (by kernel_rfl) (by simp) ?_
    refine AllReadyH.cons (o:=_) rfl (fun Kx hK=>?_) AllReadyH.nil
    refine step_store_row rfl 60 _ _ rfl V6 FG.arr rfl rfl 60 Gp.zero.arr HV7.out (by rw [gp_row.2,ZF.out]) (by rw [ZF.out]; rfl) (Gp.one _) ?_
    have HS8:=Lib.hid (show (World.setRow w7_ V6 FG.arr).heap[V6]?=some (.cells FG.arr 60 (0,0)) from setRow_heap _ _ _ _ _ _ HV7.out)
    have HH8:=S3 _ (show RowKit.Below w.heap.size w (World.setRow w7_ V6 FG.arr) from below_setRow' (S4 _ hHeld7) HL6 _)
    refine hK.out _ _ HH8 (fun hHeld8=>?_)
    clear hK Kx HH8
    go_simp
    refine wpAnyH_ready (rs:=[16]) (by kernel_rfl) (by simp) ?_
    refine AllReadyH.cons (o:=_) rfl (fun Kx hK=>?_) AllReadyH.nil
    go_simp
    have HH9:=hHeld8
    refine hK.out _ _ HH9 (fun hHeld9=>?_)
    clear hK Kx HH9
    refine wpAnyH_done (by kernel_rfl) ?_ _
    go_wp2_with fail
    go_meet
    exact ⟨V6,rfl,rfl,HL6,HS8.out,S4 _ hHeld9⟩
  ·go_simp
   obtain ⟨w10_,hw10⟩:∃ x,x=wd.alloc (.cells Tryz.zeroCells60 60):=⟨_,rfl⟩
   have HV10:=Lib.hid (show w10_.heap[wd.heap.size]?=some (.cells Gp.zero.arr 60 (0,0)) from hw10▸gp_zero_arr▸heap_alloc_new _ _)
   have HH10:=S3 _ (show RowKit.Below w.heap.size w w10_ from hw10▸(S4 _ hHeld).alloc (S4 _ hHeld).size _)
   have HL10:w.heap.size≤wd.heap.size:=(S4 _ hHeld).size
   rw [← hw10]
   obtain ⟨V10,hV10⟩:∃ V,wd.heap.size=V:=⟨_,rfl⟩
   rw [hV10] at HV10 HL10 ⊢
   clear hw10 hV10
   refine hK.out _ _ HH10 (fun hHeld10=>?_)
   clear hK Kx HH10
   refine wpAnyH_ready (rs:=[8]) (by kernel_rfl) (by simp) ?_
   refine AllReadyH.cons (o:=_) rfl (fun Kx hK=>?_) AllReadyH.nil
   go_simp
   refine (EPO.out _ (S4 _ hHeld10)).mono ?_
   rintro e w11_ ⟨rfl,hq⟩
   replace hq:=hq.symm
   subst hq
   have HH11:=hHeld10
   refine hK.out _ _ HH11 (fun hHeld11=>?_)
   clear hK Kx HH11
   refine wpAnyH_ready (rs:=[10]) (by kernel_rfl) (by simp) ?_
   refine AllReadyH.cons (o:=_) rfl (fun Kx hK=>?_) AllReadyH.nil
   go_simp
   refine (FEN.out _).mono ?_
   rintro e w12_ ⟨rfl,b12⟩
   have HH12:=S3 _ ((S4 _ hHeld11).trans (b12.mono (S4 _ hHeld11).size))
   have HV12:=Lib.hid ((b12.block _ (Array.getElem?_eq_some_iff.1 HV10.out).1).trans HV10.out)
   clear b12
   refine hK.out _ _ HH12 (fun hHeld12=>?_)
   clear hK Kx HH12
   refine wt 11 (.tuple #[.agg FG.arr,.bool BB]) hHeld12 ?_
   go_simp
   refine wt 12 (.agg FG.arr) hHeld12 ?_
   go_simp
   refine wt 13 (.bool BB) hHeld12 ?_
   go_simp
   refine wpAnyH_ready (rs:=[15]) (by kernel_rfl) (by simp) ?_
   refine AllReadyH.cons (o:=_) rfl (fun Kx hK=>?_) AllReadyH.nil
   refine step_store_row rfl 60 _ _ rfl V10 FG.arr rfl rfl 60 Gp.zero.arr HV12.out (by rw [gp_row.2,ZF.out]) (by rw [ZF.out]; rfl) (Gp.one _) ?_
   have HS13:=Lib.hid (show (World.setRow w12_ V10 FG.arr).heap[V10]?=some (.cells FG.arr 60 (0,0)) from setRow_heap _ _ _ _ _ _ HV12.out)
   have HH13:=S3 _ (show RowKit.Below w.heap.size w (World.setRow w12_ V10 FG.arr) from below_setRow' (S4 _ hHeld12) HL10 _)
   refine hK.out _ _ HH13 (fun hHeld13=>?_)
   clear hK Kx HH13
   go_simp
   refine wpAnyH_ready (rs:=[16]) (by kernel_rfl) (by simp) ?_
   refine AllReadyH.cons (o:=_) rfl (fun Kx hK=>?_) AllReadyH.nil
   go_simp
   have HH14:=hHeld13
   refine hK.out _ _ HH14 (fun hHeld14=>?_)
   clear hK Kx HH14
   refine wpAnyH_done (by kernel_rfl) ?_ _
   go_wp2_with fail
   go_meet
   exact ⟨V10,rfl,rfl,HL10,HS13.out,S4 _ hHeld14⟩
 case rest =>
  obtain ⟨V,rfl,rfl,hV,hc,hb⟩:=hcut
  have HC:=Lib.hid hc
  have K5:=Lib.hid (KI0.out.over hb)
  have T5:=Lib.hid (TB.out.same (KI0.out.same_of hb) K5.out.lt)
  have B5:=Lib.hid hb
  have TH:=Lib.hid (show wc.there T 1 FG.arr.size from by rw [ZF.out]; exact (tg_range T5.out.blk T5.out.ok).2)
  clear hc hb hV FEN EPO RG SC TB KI0
  cases BB
  ·have E2:=Lib.hid (E.out.trans (if_neg (by decide)))
   clear E
   go_wp2
   go_ret
   rw [E2.out]
   exact ⟨rfl,.over HH.out B5.out (.refl (HH.out.over B5.out))⟩
  ·have E2:=Lib.hid (E.out.trans (if_pos rfl))
   have P:=Lib.hid (show TgPost w0 w n D T { t with g:=FG } Y (wc.setCells T 1 FG.arr.toList) from .over HH.out B5.out (.of K5.out T5.out LO.out HY.out (T5.out.setG OKF.out).2 (T5.out.setG OKF.out).1 rfl))
   clear E
   go_upto_region 7 with (first | ((with_reducible refine ld_row1 rfl 60 _ rfl ?_); refine ⟨V,_,FG.arr,_,rfl,HC.out,gp_row.1,rfl,by rw [gp_row.2,ZF.out],?_⟩) | ((with_reducible refine st_mid1 rfl 60 _ _ rfl ?_); refine ⟨T,1,FG.arr,rfl,rfl,TH.out,by rw [gp_row.2,ZF.out],Gp.one _,?_⟩))
   obtain ⟨w6,hw6⟩:∃ w6,w6=wc.setCells T 1 FG.arr.toList:=⟨_,rfl⟩
   rw [← hw6] at P ⊢
   clear hw6 T5 K5 B5 TH HC
   go_wp2
   go_ret
   rw [E2.out]
   exact ⟨rfl,P.out⟩
end
end Go.Proofs.YtajegiifabfcjaaGreatDoor
