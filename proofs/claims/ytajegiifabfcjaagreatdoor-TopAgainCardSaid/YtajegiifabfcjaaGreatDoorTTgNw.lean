/-
  newest: the newest cell of members of the group, in the epoch. (Printed in part by gen_nw.py.)
-/
import Derived.Test.YtajegiifabfcjaaGreatDoorTTgK
import Derived.Test.YtajegiifabfcjaaGreatDoorQ19
namespace Go.Proofs.YtajegiifabfcjaaGreatDoor
open List (getElem_toArray getElem_cons_zero getElem_cons_succ setIfInBounds_toArray set_cons_zero set_cons_succ)
open Go.RowKit Go.Sort
set_option maxRecDepth 100000 in
set_option maxHeartbeats 4000000 in
theorem newest_any (w0 w:World) (n D T:Nat) (t:Tg) (Y:Nat→Prop) (k:Nat) (h:TgR w0 n D T t Y w) (hk8:k<8) :
  Calls Tryz.prog 18 #[.pointer (some ⟨T,0,none⟩),.int .i64 k] w fun e w'=>e=.returned (.tuple #[.agg (t.newest k).cells,.bool t.most])∧Below w.heap.size w w':=by
 have OK:=Lib.hid (show t.g.ok from by obtain ⟨X,m,ki,tb,lo,hy⟩:=h; exact tb.ok)
 have Z:=Lib.hid (Gp.size OK.out)
 have GRP:=Lib.hid (fun w' (b:RowKit.Below w.heap.size w w')=>tgroup_any w0 w' n D T t Y (h.over b))
 have EPO:=Lib.hid (fun w' (b:RowKit.Below w.heap.size w w')=>tepoch_any w0 w' n D T t Y (h.over b))
 obtain ⟨NC,hNC⟩:∃ c,t.newest k=c:=⟨_,rfl⟩
 obtain ⟨g,hg⟩:∃ g,t.g=g:=⟨_,rfl⟩
 obtain ⟨epoch,hep⟩:∃ e,t.k.ep=e:=⟨_,rfl⟩
 obtain ⟨L,hL⟩:∃ L,g.frm epoch=L:=⟨_,rfl⟩
 have HC:=Lib.hid (show NC=bestL k L from by rw [← hNC,← hL,← hg,← hep]; rfl)
 have HMO:=Lib.hid (show t.most=decide (2≤(g.mem epoch).length) from by rw [← hg,← hep]; rfl)
 rw [hg] at OK Z GRP
 rw [hep] at EPO
 rw [hNC]
 clear h hg hep hNC
 go_enter Tryz.func18,Tryz.ntmps18
 go_upto_region 1 with fail
 obtain ⟨w1,hw1⟩:∃ w1,w1=w.alloc (.cells Cel.zero.cells 30):=⟨_,rfl⟩
 have B1:=Lib.hid (show RowKit.Below w.heap.size w w1 from hw1▸bal w _)
 have Z1:=Lib.hid (show w1.heap[w.heap.size]?=some (.cells Cel.zero.cells 30 (0,0)) from hw1▸heap_alloc_new w _)
 rw [cel_zero_arr] at hw1
 rw [← hw1]
 clear hw1
 obtain ⟨RB0,hRB0⟩:∃ b,w.heap.size=b:=⟨_,rfl⟩
 have RL0:=Lib.hid (show RB0<w1.heap.size from hRB0▸(Array.getElem?_eq_some_iff.1 Z1.out).1)
 rw [hRB0] at Z1 ⊢
 have HRB:=Lib.hid hRB0
 clear hRB0
 go_wp2_with fail
 refine (GRP.out _ B1.out).mono ?_
 rintro e w2 ⟨rfl,b2⟩
 have B2:=Lib.hid (show RowKit.Below w.heap.size w w2 from B1.out.trans (b2.mono B1.out.size))
 have Z2:=Lib.hid ((b2.block RB0 RL0.out).trans Z1.out)
 have ZG2:=Lib.hid (show (w2.alloc (.cells Tryz.zeroCells60 60)).heap[w2.heap.size]?=some (.cells Gp.zero.arr 60 (0,0)) from gp_zero_arr▸heap_alloc_new w2 _)
 clear b2 GRP Z1 B1 RL0
 go_upto_region 2 with ((with_reducible refine st_row1 rfl 60 _ _ rfl ?_); refine ⟨w2.heap.size,_,g.arr,Gp.zero.arr,rfl,rfl,ZG2.out,by rw [gp_row.2,Z.out],by rw [Z.out]; rfl,Gp.one _,?_⟩)
 obtain ⟨w3,hw3⟩:∃ w3,w3=(w2.alloc (.cells Tryz.zeroCells60 60)).setRow w2.heap.size g.arr:=⟨_,rfl⟩
 rw [← hw3]
 have b23:RowKit.Below w2.heap.size w2 w3:=hw3▸bel_row w2 _ _ _
 have B3:=Lib.hid (show RowKit.Below w.heap.size w w3 from B2.out.trans (b23.mono B2.out.size))
 have G3:=Lib.hid (show w3.heap[w2.heap.size]?=some (.cells g.arr 60 (0,0)) from hw3▸setRow_heap _ _ _ _ _ _ ZG2.out)
 have RL2:=(Array.getElem?_eq_some_iff.1 Z2.out).1
 have Z3:=Lib.hid ((b23.block RB0 RL2).trans Z2.out)
 have HRU:RB0<w2.heap.size:=RL2
 obtain ⟨U,hU⟩:∃ U,w2.heap.size=U:=⟨_,rfl⟩
 rw [hU] at G3 HRU ⊢
 clear hw3 b23 hU ZG2 Z2 B2 RL2
 have GR:=Lib.hid (fun w' (b:RowKit.Below w3.heap.size w3 w')=>range_of ((b.block U (Array.getElem?_eq_some_iff.1 G3.out).1).trans G3.out))
 obtain ⟨S',hS⟩:∃ S':World→Prop,S'=fun w'=>RowKit.Below w3.heap.size w3 w':=⟨_,rfl⟩
 have S3:∀ w',RowKit.Below w3.heap.size w3 w'→S' w':=fun w' h=>by rw [hS]; exact h
 have S4:∀ w',S' w'→RowKit.Below w3.heap.size w3 w':=fun w' h=>by rw [hS] at h; exact h
 clear hS
 have EP3:=Lib.hid (fun w' (b:RowKit.Below w3.heap.size w3 w')=>EPO.out w' (B3.out.trans (b.mono B3.out.size)))
 refine wp_region_held_drew (S:=S') (by kernel_rfl) (S3 _ (Below.refl _ _).drew) (fun hHeld=>?_)
 obtain ⟨wd,hwd⟩:∃ wd,wd=w3.drew:=⟨_,rfl⟩
 rw [← hwd] at hHeld ⊢
 clear hwd
 refine wt 0 (.agg g.arr) rfl (by kernel_rfl) (yieldsIf_load_midA (by rfl) 60 _ rfl U 0 rfl g.arr _ (fun w' h=>GR.out w' (S4 w' h)) gp_row.1 rfl (by rw [gp_row.2,Z.out])) hHeld ?_
 simp only [Act.put,getElem_toArray,getElem_cons_zero,setIfInBounds_toArray,set_cons_zero,set_cons_succ]
 refine wt 1 (.pointer (some ⟨T,0,none⟩)) rfl (by kernel_rfl) (Or.inl ⟨by rfl,fun w' hSw=>by go_simp⟩) hHeld ?_
 simp only [Act.put,getElem_toArray,getElem_cons_zero,getElem_cons_succ,setIfInBounds_toArray,set_cons_zero,set_cons_succ]
 refine wpAnyH_ready (rs:=[2]) (by kernel_rfl) (by simp) ?_
 refine AllReadyH.cons (o:=_) rfl (fun Kx hK=>?_) AllReadyH.nil
 go_simp
 refine (EP3.out _ (S4 _ hHeld)).mono ?_
 rintro e w1_ ⟨rfl,hq⟩
 replace hq:=hq.symm
 subst hq
 have HH1:=hHeld
 refine hK.out _ _ HH1 (fun hHeld1=>?_)
 clear hK Kx HH1
 refine wpAnyH_ready (rs:=[3]) (by kernel_rfl) (by simp) ?_
 refine AllReadyH.cons (o:=_) rfl (fun Kx hK=>?_) AllReadyH.nil
 go_simp
 refine (members_any g epoch _ OK.out).mono ?_
 rintro e w2_ ⟨a2,c2,rfl,hown,b2⟩
 have HI:=Lib.hid hown.hi
 have LO2:=Lib.hid (S4 _ hHeld1).size
 have HH2:=S3 _ ((S4 _ hHeld1).trans (b2.mono (S4 _ hHeld1).size))
 clear hown b2
 refine hK.out _ _ HH2 (fun hHeld2=>?_)
 clear hK Kx HH2
 refine wpAnyH_ready (rs:=[4]) (by kernel_rfl) (by simp) ?_
 refine AllReadyH.cons (o:=_) rfl (fun Kx hK=>?_) AllReadyH.nil
 go_simp
 have HH3:=hHeld2
 refine hK.out _ _ HH3 (fun hHeld3=>?_)
 clear hK Kx HH3
 refine wpAnyH_done (by kernel_rfl) ?_ _
 obtain ⟨w4,hw4⟩:∃ w4,w4=w2_:=⟨_,rfl⟩
 have B34:=Lib.hid (show RowKit.Below w3.heap.size w3 w4 from hw4▸S4 _ hHeld3)
 rw [← hw4] at HI ⊢
 clear hw4 S3 S4
 have B4:=Lib.hid (show RowKit.Below w.heap.size w w4 from B3.out.trans (B34.out.mono B3.out.size))
 have G4:=Lib.hid ((B34.out.block U (Array.getElem?_eq_some_iff.1 G3.out).1).trans G3.out)
 have Z4:=Lib.hid ((B34.out.block RB0 (Array.getElem?_eq_some_iff.1 Z3.out).1).trans Z3.out)
 obtain ⟨m,hm⟩:∃ m,(g.mem epoch).length=m:=⟨_,rfl⟩
 rw [hm]
 have HM:=Lib.hid hm
 have hm3:m≤3:=hm▸g.mem_len epoch 3
 clear hm B34 G3 Z3 B3 GR EP3 EPO
 have LM:=Lib.hid (show L.length=m from by rw [← hL,← HM.out]; simp [Gp.frm])
 have LAT:=Lib.hid (show ∀ j (h:j<(g.mem epoch).length),∃ i':Nat,i'<3∧(g.mem epoch)[j]=(i':Int)∧L[j]?=some (g.r.getD i' Rp.zero) from fun j h=>by
  obtain ⟨i',e,h3,-⟩:=Gp.mem_lt (List.getElem_mem h)
  refine ⟨i',h3,e,?_⟩
  rw [← hL]
  unfold Gp.frm
  rw [List.getElem?_map,List.getElem?_eq_getElem h,e]
  rfl)
 clear hL
 have hk8':(k:Int)<8:=by omega
 go_upto_region 4 with fail
 obtain ⟨w5,hw5⟩:∃ w5,w5=w4.alloc (.cells Cel.zero.cells 30):=⟨_,rfl⟩
 have B5:=Lib.hid (show RowKit.Below w4.heap.size w4 w5 from hw5▸bal w4 _)
 have C5:=Lib.hid (show w5.heap[w4.heap.size]?=some (.cells Cel.zero.cells 30 (0,0)) from hw5▸heap_alloc_new w4 _)
 rw [cel_zero_arr] at hw5
 rw [← hw5]
 clear hw5
 have hUB:U<w4.heap.size:=(Array.getElem?_eq_some_iff.1 G4.out).1
 obtain ⟨B,hB⟩:∃ B,w4.heap.size=B:=⟨_,rfl⟩
 have HBB:=Lib.hid hB
 rw [hB] at C5 B5 hUB ⊢
 clear hB
 go_wp2
 go_loopw [9] (fun i wr=>∃ j:Nat,j≤m∧i=.int .i64 j∧wr.heap[B]?=some (.cells (bestL k (L.take j)).cells 30 (0,0))∧RowKit.Below B w4 wr) (fun i _=>m - (intOf i).toNat)
 case atStart=>exact ⟨0,by omega,rfl,C5.out,B5.out⟩
 case round =>
 obtain ⟨j,hj,rfl,hc,hb⟩:=hrel
 obtain ⟨b,hbb⟩:∃ b,bestL k (L.take j)=b:=⟨_,rfl⟩
 rw [hbb] at hc
 have CB:=Lib.hid hc
 have HB:=Lib.hid hb
 have BB:=Lib.hid hbb
 clear hc hb hbb C5 B5
 have hNB:B<wr.heap.size:=(Array.getElem?_eq_some_iff.1 CB.out).1
 have G6:=Lib.hid ((HB.out.block U hUB).trans G4.out)
 by_cases hjm:j<m
 ·obtain ⟨i',h3,hx,hLj⟩:=LAT.out j (by rw [HM.out]; exact hjm)
  obtain ⟨bb,oo,rfl,-,hbk,hcell⟩:=HI.out j (by rw [HM.out]; exact hjm)
  rw [hx] at hcell
  rw [HBB.out] at hbk
  have c0:=(HB.out.cell (p:=⟨bb,oo+j,none⟩) hbk).trans hcell
  have h3i:(i':Int)<3:=by omega
  have hkr:i'<g.r.length:=by rw [OK.out.r3]; exact h3
  have hkc:k<g.r[i'].cells.length:=by rw [OK.out.c8 _ (List.getElem_mem hkr)]; exact hk8
  obtain ⟨⟨g0,g1,g2⟩,-⟩:=gp_cellA G6.out OK.out hkr hkc
  obtain ⟨d,hd⟩:∃ d,g.r[i'].cells[k]=d:=⟨_,rfl⟩
  rw [hd] at g0 g1 g2
  obtain ⟨b0,b1,b2⟩:=cell_box CB.out
  obtain ⟨X,hX⟩:∃ X,newerB d b=X:=⟨_,rfl⟩
  have hjl:j<L.length:=by rw [LM.out]; exact hjm
  have HT:=Lib.hid (show bestL k (L.take (j+1))=if X then d else b from by
   have e:L[j].get k=d:=by
    have e2:L[j]=g.r[i']:=by
     have:=hLj
     rw [List.getElem?_eq_getElem hjl] at this
     simpa [hkr] using this
    rw [e2,Rp.get_at hkc,hd]
   rw [bestL_take hjl,e,BB.out,hX])
  have NW:=Lib.hid (fun (w:World)=>newer_x hX w)
  have hNU:U<wr.heap.size:=by omega
  have hbk2:bb<wr.heap.size:=by omega
  have hq:=bregrown (Below.refl wr.heap.size wr)
  have RCF:=Lib.hid (show ∀ w':World,w'.heap[U]?=some (.cells g.arr 60 (0,0))→w'.rangeAt U (i'*25+1+k*3) d.cells.toList from fun w' h=>hd▸gp_rangeC h OK.out hkr hkc)
  clear hd hX hkr hkc hLj hjl hx hcell
  go_upto_region 7 with fail
  go_cut [34] (fun v wx=>v=.bool X∧RowKit.Below wr.heap.size wr wx)
  case first =>
   refine wp_region_quiet_below (by kernel_rfl) (by kernel_rfl) ?_
   repeat (go_big_quiet_step (exact Calls.regrown_of (NW.out _)))
   refine wpQuiet_nil ?_
   rintro w' ⟨⟨dq,osq⟩,rfl⟩
   go_wp2_with fail
   go_meet
   exact ⟨rfl,below_regrown _ dq osq⟩
  case rest =>
   obtain ⟨wo,rfl⟩:∃ wo:World,wo=wr:=⟨_,rfl⟩
   obtain ⟨rfl,b4⟩:=hcut
   have HB7:=Lib.hid (HB.out.trans (b4.mono (by omega)))
   have CB7:=Lib.hid ((b4.block B hNB).trans CB.out)
   have G7:=Lib.hid ((b4.block U hNU).trans G6.out)
   have c7:=(b4.cell (p:=⟨bb,oo+j,none⟩) hbk2).trans c0
   clear b4 hq
   cases X
   ·go_wp2
    go_roundw
    case rel=>exact ⟨j+1,by omega,by go_num,by rw [HT.out]; exact CB7.out,HB7.out⟩
    case measure=>simp [intOf]; omega
   ·have KB5:=Lib.hid (HB7.out.trans (((Keeps.refl (·=B) wc).setRow (g:=B) rfl d.cells).below (Nat.le_of_lt (Array.getElem?_eq_some_iff.1 CB7.out).1) (fun m hm=>by omega)))
    go_wp2_with (first | ((with_reducible refine ld_mid1 rfl 30 _ rfl ?_); refine ⟨U,i'*25+1+k*3,d.cells,_,rfl,RCF.out _ G7.out,cell_row.1,rfl,cell_row.2,?_⟩) | ((with_reducible refine st_row1 rfl 30 _ _ rfl ?_); refine ⟨B,_,d.cells,_,rfl,rfl,CB7.out,cell_row.2,rfl,cel_one _,?_⟩))
    go_roundw
    case rel=>exact ⟨j+1,by omega,by go_num,by rw [HT.out]; exact setRow_heap _ _ _ _ _ _ CB7.out,KB5.out⟩
    case measure=>simp [intOf]; omega
 ·obtain rfl:j=m:=by omega
  rw [List.take_of_length_le (by rw [LM.out]; exact Nat.le_refl _)] at BB
  have HCb:=Lib.hid (HC.out.trans BB.out)
  have Z8:=Lib.hid ((HB.out.block RB0 (by omega)).trans Z4.out)
  have BE:=Lib.hid (show RowKit.Below w.heap.size w (wr.setRow RB0 b.cells) from (B4.out.trans (HB.out.mono (by have:=B4.out.size; have:=HBB.out; omega))).trans (((Keeps.refl (·=RB0) wr).setRow (g:=RB0) rfl b.cells).below (by have:=B4.out.size; have:=HB.out.size; have:=HBB.out; omega) (fun m hm=>by have:=HRB.out; omega)))
  have DE:=Lib.hid (show decide ((2:Int)≤(j:Int))=t.most from by rw [HMO.out,HM.out]; simp; omega)
  clear HC BB
  go_wp2_with (first | ((with_reducible refine ld_row1 rfl 30 _ rfl ?_); refine ⟨B,_,b.cells,_,rfl,CB.out,cell_row.1,rfl,cell_row.2,?_⟩) | ((with_reducible refine st_row1 rfl 30 _ _ rfl ?_); refine ⟨RB0,_,b.cells,_,rfl,rfl,Z8.out,cell_row.2,rfl,cel_one _,?_⟩))
  refine bodyPost_ret (v:=.tuple #[.agg b.cells,.bool t.most]) (results_row_tmp Tryz.results18 _ _ RB0 30 b.cells (0,0) _ _ rfl (by first | rfl | rw [← DE.out]; rfl) (setRow_heap _ _ _ _ _ _ Z8.out) cell_row.1 rfl cell_row.2) rfl ?_
  exact ⟨by rw [HCb.out],BE.out⟩
end Go.Proofs.YtajegiifabfcjaaGreatDoor
