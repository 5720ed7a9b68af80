/-
  Contracts of a target's methods: Deliver. (Printed in part by gen_tgf.py.)
-/
import Derived.Test.YtajegiifabfcjaaGreatDoorQ32
namespace Go.Proofs.YtajegiifabfcjaaGreatDoor
open Go.RowKit Go.Sort
structure TgD (t:Tg):Prop where
 fl:t.fly.length≤1000
 msg:∀ m∈t.fly,0≤m.tt∧m.tt<3∧0≤m.at'∧m.at'<8
 ws:t.wait.Pairwise (fun a b=>a.tag<b.tag)
theorem six_at {w:World} {A:Nat} {v0 v1 v2 v3 v4 v5:Value} {E:TypeId} (h:w.heap[A]?=some (.cells #[v0,v1,v2,v3,v4,v5] E (0,0))):w.cell? ⟨A,0,none⟩=some v0∧w.cell? ⟨A,1,none⟩=some v1∧w.cell? ⟨A,2,none⟩=some v2∧w.cell? ⟨A,3,none⟩=some v3∧w.cell? ⟨A,4,none⟩=some v4∧w.cell? ⟨A,5,none⟩=some v5:=by
 simp [World.cell?,h]
theorem TgR.setG {w0 w w':World} {n D T:Nat} {t:Tg} {Y:Nat→Prop} (h:TgR w0 n D T t Y w) {g:Gp} (hg:g.ok):w'=w.setCells T 1 g.arr.toList→TgR w0 n D T { t with g:=g } Y w'∧Same Y w w':=by
 rintro rfl
 obtain ⟨X,m,ki,tb,lo,hy⟩:=h
 have q:=TgPost.of ki tb lo hy (tb.setG hg).2 (tb.setG hg).1 (t':={ t with g:=g }) rfl
 exact ⟨q.1,q.2.1⟩
section
variable (w0 w:World) (n D T:Nat) (t:Tg) (Y:Nat→Prop)
set_option maxRecDepth 100000 in
set_option maxHeartbeats 40000000 in
theorem tdeliver_any (i:Int) (stays:Bool) (h:TgR w0 n D T t Y w) (hd:TgD t) :
  Calls Tryz.prog 43 #[.pointer (some ⟨T,0,none⟩),.int .i64 i,.bool stays] w fun e w'=>e=.returned (.tuple #[.bool (t.deliver i stays).2.1,errV (t.deliver i stays).2.2])∧TgR w0 n D T (t.deliver i stays).1 Y w'∧Same Y w w':=by
 have HH:=Lib.hid h
 have HD:=Lib.hid hd
 obtain ⟨X,m,ki,tb,lo,hy⟩:=h
 have c0:=(tg_cells tb.blk tb.ok).1.2.2.2.2.2.2.2.2.1
 have hT:=(Array.getElem?_eq_some_iff.1 tb.blk).1
 have hfl:=hd.fl
 by_cases h1:i<0∨(t.fly.length:Int)≤i
 ·have E:=Lib.hid (show t.deliver i stays=(t,false,8) from by unfold Tg.deliver; rw [if_pos h1])
  rw [E.out]
  clear ki tb lo hy hd
  rcases h1 with h1 | h1
  ·go_enter Tryz.func43,Tryz.ntmps43
   go_wp2
   exact bodyPost_ret (v:=.tuple #[.bool false,.iface 95 (.int .i64 8)]) (by simp [results,Tryz.results43,go_sem]) rfl ⟨rfl,HH.out,fun _ _=>rfl⟩
  ·have h2:¬ i<0:=by omega
   go_enter Tryz.func43,Tryz.ntmps43
   go_wp2
   exact bodyPost_ret (v:=.tuple #[.bool false,.iface 95 (.int .i64 8)]) (by simp [results,Tryz.results43,go_sem]) rfl ⟨rfl,HH.out,fun _ _=>rfl⟩
 obtain ⟨k,rfl⟩:∃ k:Nat,i=k:=⟨i.toNat,by omega⟩
 have hk:k<t.fly.length:=by omega
 obtain ⟨M,hM⟩:∃ M,t.fly[k]=M:=⟨_,rfl⟩
 have hm:=hd.msg M (hM▸List.getElem_mem hk)
 have cells:∃ g,m.fa=some ⟨g,0,none⟩∧(w.cell? ⟨g,k*6,none⟩=some (.int .i64 M.tt)∧w.cell? ⟨g,k*6+1,none⟩=some (.int .i64 M.at')∧w.cell? ⟨g,k*6+2,none⟩=some (.int .i64 M.c.e)∧w.cell? ⟨g,k*6+3,none⟩=some (.int .i64 M.c.n)∧w.cell? ⟨g,k*6+4,none⟩=some (.string M.c.d)∧w.cell? ⟨g,k*6+5,none⟩=some (.int .i64 M.tag)):=by
  obtain ⟨-,h2 | ⟨g,cap',cur,e1,e2,e3,-⟩⟩:=id tb.fly
  ·exact absurd h2.2 (by omega)
  obtain ⟨e4,e5⟩:m.fa=some ⟨g,0,none⟩∧m.fc=cap':=by simpa using e1
  have hr:=tb.fly
  rw [e4] at hr
  have c:∀ j v,j<6→t.fly[k].row[j]?=some v→w.cell? ⟨g,k*6+j,none⟩=some v:=fun j v hj hv=>by
   have:=OwnM.cells hr (k*6+j) v (by rw [msg_at hk j hj,hv])
   rwa [Addr.add_lit,Nat.zero_add] at this
  rw [hM] at c
  exact ⟨g,e4,c 0 _ (by omega) rfl,c 1 _ (by omega) rfl,c 2 _ (by omega) rfl,c 3 _ (by omega) rfl,c 4 _ (by omega) rfl,c 5 _ (by omega) rfl⟩
 obtain ⟨g8,hfa,d0,d1,d2,d3,d4,d5⟩:=cells
 rw [hfa] at c0
 have E:=Lib.hid (show t.deliver (k:Int) stays=if t.g.delivers M.tt.toNat M.c then (Tg.came { t with fly:=if stays then t.fly else t.fly.eraseIdx k,g:=t.g.deliver M.tt.toNat M.at'.toNat M.c } M,true,0) else ({ t with fly:=if stays then t.fly else t.fly.eraseIdx k,g:=t.g.deliver M.tt.toNat M.at'.toNat M.c },false,0) from by
  unfold Tg.deliver
  rw [if_neg h1,Int.toNat_natCast]
  have e:t.fly.getD k ⟨0,0,Cel.zero,0⟩=M:=by simp [hk,hM]
  rw [e])
 obtain ⟨R,hR⟩:∃ R,t.deliver (k:Int) stays=R:=⟨_,rfl⟩
 rw [hR] at E ⊢
 obtain ⟨mt,ma,mc,tag⟩:=M
 dsimp only at d0 d1 d2 d3 d4 d5 hm E
 obtain ⟨tt,rfl⟩:∃ tt:Nat,mt=tt:=⟨mt.toNat,by omega⟩
 obtain ⟨at8,rfl⟩:∃ at8:Nat,ma=at8:=⟨ma.toNat,by omega⟩
 have htt:tt<3:=by omega
 have hat:at8<8:=by omega
 simp only [Int.toNat_natCast] at E
 have q1:¬ (k:Int)<0:=by omega
 have q2:¬ (t.fly.length:Int)≤(k:Int):=by omega
 have q3:IntKind.i64.wrap ((k:Int)+1)=((k+1:Nat):Int):=by rw [IntWalk.i64_in _ (by omega)]; omega
 obtain ⟨j,hj⟩:∃ j,k+1=j:=⟨_,rfl⟩
 rw [hj] at q3
 have HJ:=Lib.hid hj.symm
 obtain ⟨w1,hw1⟩:∃ w1,w1=w.alloc (.cells #[.int .i64 (tt:Int),.int .i64 (at8:Int),.int .i64 mc.e,.int .i64 mc.n,.string mc.d,.int .i64 tag] 125):=⟨_,rfl⟩
 have B1:=Lib.hid (show RowKit.Below w.heap.size w w1 from hw1▸bal w _)
 have R1:=Lib.hid (show w1.heap[w.heap.size]?=some (.cells #[.int .i64 (tt:Int),.int .i64 (at8:Int),.int .i64 mc.e,.int .i64 mc.n,.string mc.d,.int .i64 tag] 125 (0,0)) from hw1▸heap_alloc_new w _)
 obtain ⟨Z,hZ⟩:∃ Z:Nat→Prop,Z=fun c=>Y c∨(w.heap.size≤c∧c<w1.heap.size):=⟨_,rfl⟩
 have H1:=Lib.hid (show TgR w0 n D T t Z w1 from hZ▸HH.out.more B1.out)
 have ZY:=Lib.hid (show ∀ b,Y b→Z b from fun b hb=>hZ▸Or.inl hb)
 have ZB:=Lib.hid (show Z w.heap.size from hZ▸Or.inr ⟨Nat.le_refl _,by rw [hw1]; simp⟩)
 have SY1:=Lib.hid (show Same Y w w1 from fun b hb=>B1.out.block b (HH.out.lt_y b hb))
 have HF:=Lib.hid (show w1.cell? ⟨T,86,none⟩=some (.slice (some ⟨g8,0,none⟩) t.fly.length m.fc) from (B1.out.cell (p:=⟨T,86,none⟩) hT).trans c0)
 have CL:=Lib.hid (clone_msg w0.heap.size t.fly m.fa m.fc w1 hd.fl (ownsRow_same tb.fly (fun b e=>B1.out.block b (ki.lt b (fly_block tb e).1))))
 rw [hfa] at CL
 have CT:=Lib.hid (fun w' (b:RowKit.Below w1.heap.size w1 w')=>(tg_cells ((b.block T (Nat.lt_of_lt_of_le hT B1.out.size)).trans ((B1.out.block T hT).trans tb.blk)) tb.ok).2.2.2.2.2.2.2.2.2.1)
 have CC:=Lib.hid (fun w' (b:RowKit.Below w1.heap.size w1 w')=>(b.cell (p:=⟨T,86,none⟩) (Nat.lt_of_lt_of_le hT B1.out.size)).trans HF.out)
 obtain ⟨F,hF⟩:∃ F,(if stays then t.fly else t.fly.eraseIdx k)=F:=⟨_,rfl⟩
 rw [hF] at E
 have HFE:=Lib.hid hF
 obtain ⟨NS,hNS⟩:∃ NS,(!stays)=NS:=⟨_,rfl⟩
 have HNS:=Lib.hid hNS
 have OKG:=Lib.hid tb.ok
 clear ki tb lo hy h1 hR hZ hd hm hj hM hF hk hfa
 have hk:=show k<t.fly.length by omega
 go_enter Tryz.func43,Tryz.ntmps43
 go_upto_region 4 with fail
 rw [← hw1]
 clear hw1 d0 d1 d2 d3 d4 d5 c0 hT
 go_upto_if 33 with fail
 go_cut [8] (fun v wx=>v=.pointer (some ⟨w.heap.size,0,none⟩)∧TgR w0 n D T { t with fly:=F } Z wx∧Same Z w1 wx)
 case first =>
  cases NS
  ·have hs:stays=true:=by
    have:=HNS.out
    cases stays
    ·cases this
    ·rfl
   have P:=Lib.hid (show TgR w0 n D T { t with fly:=F } Z w1 from by
    rw [← HFE.out,hs]
    exact H1.out)
   clear hs hNS
   go_wp2_with fail
   go_meet
   exact ⟨rfl,P.out,fun _ _=>rfl⟩
  ·have hs:stays=false:=by
    have:=HNS.out
    cases stays
    ·rfl
    ·cases this
   have HFF:=Lib.hid (show t.fly.eraseIdx k=F from by
    have:=HFE.out
    rw [hs] at this
    exact this)
   have c1:=HF.out
   clear hs hNS
   go_wp2_with fail
   refine CL.out.mono ?_
   rintro e w2 ⟨v,rfl,o2,b2⟩
   have hv:∃ a cap,v=.slice a t.fly.length cap:=by
    obtain ⟨-,h2 | ⟨g,cap,cur,e1,-⟩⟩:=o2
    ·exact absurd h2.2 (by omega)
    ·exact ⟨_,_,e1⟩
   obtain ⟨a,cap,rfl⟩:=hv
   have DEL:=Lib.hid (delete_msg w1.heap.size t.fly a cap k j w2 HD.out.fl o2 hk HJ.out)
   have B2:=Lib.hid b2
   clear b2 o2 CL
   go_wp2_with fail
   refine DEL.out.mono ?_
   rintro e w3 ⟨g,-,hg,hgl,rfl,o3,k3⟩
   have B3:=Lib.hid (show RowKit.Below w1.heap.size w1 w3 from B2.out.trans (k3.below B2.out.size (fun c q=>by rw [q]; exact hg)))
   have LE:=Lib.hid (show (t.fly.eraseIdx k).length=t.fly.length - 1 from by rw [List.length_eraseIdx,if_pos hk])
   have P:=Lib.hid (H1.out.newFly B3.out g cap (t.fly.eraseIdx k) hg o3)
   rw [LE.out,HFF.out] at P
   have f3:=CT.out w3 B3.out
   have c3:=CC.out w3 B3.out
   clear o3 k3 DEL
   go_wp2_with fail
   go_meet
   exact ⟨rfl,P.out.1,P.out.2.1⟩
 case rest =>
 obtain ⟨wb,rfl⟩:∃ w2:World,w2=wc:=⟨_,rfl⟩
 obtain ⟨rfl,hb,hs⟩:=hcut
 have HB:=Lib.hid hb
 have SB:=Lib.hid hs
 clear CL CT CC HF H1 hNS HNS HFE hb hs
 obtain ⟨A8,hA8⟩:∃ A,w.heap.size=A:=⟨_,rfl⟩
 have RB:=Lib.hid ((SB.out _ ZB.out).trans R1.out)
 rw [hA8] at RB ZB ⊢
 have hAlt:=(Array.getElem?_eq_some_iff.1 RB.out).1
 clear hA8 R1
 have SYB:=Lib.hid (show Same Y w wb from SY1.out.trans (fun b hb=>SB.out b (ZY.out b hb)))
 obtain ⟨X2,m2,ki,tb,lo,hy⟩:=HB.out
 have LTT:=(Array.getElem?_eq_some_iff.1 tb.blk).1
 have ZG:=Lib.hid (Gp.size tb.ok)
 have RG:=Lib.hid (fun w' (h:RowKit.Below wb.heap.size wb w')=>(show w'.rangeAt T 1 t.g.arr.toList from fun j v hv=>(h.cell (p:=⟨T,1+j,none⟩) LTT).trans ((tg_range tb.blk tb.ok).1 j v hv)))
 have MB:=Lib.hid (fun w' (h:RowKit.Below wb.heap.size wb w')=>six_at ((h.block A8 hAlt).trans RB.out))
 have GDL:=Lib.hid (fun w'=>gdeliver_any t.g tt at8 mc tag w' OKG.out htt hat)
 have OKF:=Lib.hid (Gp.deliver_ok OKG.out (at':=at8) htt mc)
 obtain ⟨FG,hFG⟩:∃ FG,t.g.deliver tt at8 mc=FG:=⟨_,rfl⟩
 obtain ⟨BB,hBB⟩:∃ BB,t.g.delivers tt mc=BB:=⟨_,rfl⟩
 rw [hFG,hBB] at GDL E
 rw [hFG] at OKF
 have ZF:=Lib.hid (Gp.size OKF.out)
 obtain ⟨g,hg⟩:∃ g,t.g=g:=⟨_,rfl⟩
 have hgz:(({ t with fly:=F }:Tg).g).arr=g.arr:=by rw [← hg]
 rw [hg] at GDL ZG RG
 clear ki tb lo hy hFG hBB hgz
 go_upto_region 6 with fail
 go_cut [9,10] (fun v9 v10 wx=>∃ V,v9=.pointer (some ⟨V,0,none⟩)∧v10=.bool BB∧wb.heap.size≤V∧wx.heap[V]?=some (.cells FG.arr 60 (0,0))∧RowKit.Below wb.heap.size wb wx)
 case first =>
  obtain ⟨S,hS⟩:∃ S:World→Prop,S=fun w'=>RowKit.Below wb.heap.size wb w':=⟨_,rfl⟩
  have S3:∀ w',RowKit.Below wb.heap.size wb w'→S w':=fun w' h=>by rw [hS]; exact h
  have S4:∀ w',S w'→RowKit.Below wb.heap.size wb w':=fun w' h=>by rw [hS] at h; exact h
  clear hS
  refine wp_region_held_drew (S:=S) (by kernel_rfl) (S3 _ (Below.refl _ _).drew) (fun hHeld=>?_)
  obtain ⟨wd,hwd⟩:∃ wd,wd=wb.drew:=⟨_,rfl⟩
  rw [← hwd] at hHeld ⊢
  clear hwd
  refine wt 0 (.pointer (some ⟨T,0,none⟩)) hHeld ?_
  go_simp
  refine wt 1 (.pointer (some ⟨T,0,none⟩)) hHeld ?_
  go_simp
  refine wt 2 (.pointer (some ⟨T,1,none⟩)) hHeld ?_
  go_simp
  refine wt 3 (.agg g.arr) hHeld ?_ (hy:=yieldsIf_load_midA (by rfl) 60 _ rfl T 1 rfl g.arr _ (fun w' h=>RG.out w' (S4 w' h)) gp_row.1 rfl (by rw [gp_row.2,ZG.out]))
  go_simp
  refine wt 4 (.agg #[.int .i64 (tt:Int),.int .i64 (at8:Int),.int .i64 mc.e,.int .i64 mc.n,.string mc.d,.int .i64 tag]) hHeld ?_ (hy:=Or.inl ⟨by rfl,fun w' hSw=>by obtain ⟨q0,q1,q2,q3,q4,q5⟩:=MB.out w' (S4 w' hSw); go_simp⟩)
  go_simp
  refine wpAnyH_ready (rs:=[5,9]) (by kernel_rfl) (by simp) ?_
  refine AllReadyH.cons (o:=_) rfl (fun Kx hK=>?_) (AllReadyH.cons (o:=_) rfl (fun Kx hK=>?_) AllReadyH.nil)
  ·go_simp
   refine (GDL.out _).mono ?_
   rintro e w1_ ⟨rfl,b1⟩
   have HH1:=S3 _ ((S4 _ hHeld).trans (b1.mono (S4 _ hHeld).size))
   clear b1
   refine hK.out _ _ HH1 (fun hHeld1=>?_)
   clear hK Kx HH1
   refine wt 6 (.tuple #[.agg FG.arr,.bool BB]) hHeld1 ?_
   go_simp
   refine wt 7 (.agg FG.arr) hHeld1 ?_
   go_simp
   refine wt 8 (.bool BB) hHeld1 ?_
   go_simp
   refine wpAnyH_ready (rs:=[9]) (by kernel_rfl) (by simp) ?_
   refine AllReadyH.cons (o:=_) rfl (fun Kx hK=>?_) AllReadyH.nil
   go_simp
   obtain ⟨w2_,hw2⟩:∃ x,x=w1_.alloc (.cells Tryz.zeroCells60 60):=⟨_,rfl⟩
   have HV2:=Lib.hid (show w2_.heap[w1_.heap.size]?=some (.cells Gp.zero.arr 60 (0,0)) from hw2▸gp_zero_arr▸heap_alloc_new _ _)
   have HH2:=S3 _ (show RowKit.Below wb.heap.size wb w2_ from hw2▸(S4 _ hHeld1).alloc (S4 _ hHeld1).size _)
   have HL2:wb.heap.size≤w1_.heap.size:=(S4 _ hHeld1).size
   rw [← hw2]
   obtain ⟨V2,hV2⟩:∃ V,w1_.heap.size=V:=⟨_,rfl⟩
   rw [hV2] at HV2 HL2 ⊢
   clear hw2 hV2
   refine hK.out _ _ HH2 (fun hHeld2=>?_)
   clear hK Kx HH2
   refine wpAnyH_ready (rs:=[10]) (by kernel_rfl) (by simp) ?_
   refine AllReadyH.cons (o:=_) rfl (fun Kx hK=>?_) AllReadyH.nil
   refine step_store_row rfl 60 _ _ rfl V2 FG.arr rfl rfl 60 Gp.zero.arr HV2.out (by rw [gp_row.2,ZF.out]) (by rw [ZF.out]; rfl) (Gp.one _) ?_
   have HS3:=Lib.hid (show (World.setRow w2_ V2 FG.arr).heap[V2]?=some (.cells FG.arr 60 (0,0)) from setRow_heap _ _ _ _ _ _ HV2.out)
   have HH3:=S3 _ (show RowKit.Below wb.heap.size wb (World.setRow w2_ V2 FG.arr) from below_setRow' (S4 _ hHeld2) HL2 _)
   refine hK.out _ _ HH3 (fun hHeld3=>?_)
   clear hK Kx HH3
   go_simp
   refine wpAnyH_ready (rs:=[11]) (by kernel_rfl) (by simp) ?_
   refine AllReadyH.cons (o:=_) rfl (fun Kx hK=>?_) AllReadyH.nil
   go_simp
   have HH4:=hHeld3
   refine hK.out _ _ HH4 (fun hHeld4=>?_)
   clear hK Kx HH4
   refine wpAnyH_done (by kernel_rfl) ?_ _
   go_wp2_with fail
   go_meet
   exact ⟨V2,rfl,rfl,HL2,HS3.out,S4 _ hHeld4⟩
  ·go_simp
   obtain ⟨w5_,hw5⟩:∃ x,x=wd.alloc (.cells Tryz.zeroCells60 60):=⟨_,rfl⟩
   have HV5:=Lib.hid (show w5_.heap[wd.heap.size]?=some (.cells Gp.zero.arr 60 (0,0)) from hw5▸gp_zero_arr▸heap_alloc_new _ _)
   have HH5:=S3 _ (show RowKit.Below wb.heap.size wb w5_ from hw5▸(S4 _ hHeld).alloc (S4 _ hHeld).size _)
   have HL5:wb.heap.size≤wd.heap.size:=(S4 _ hHeld).size
   rw [← hw5]
   obtain ⟨V5,hV5⟩:∃ V,wd.heap.size=V:=⟨_,rfl⟩
   rw [hV5] at HV5 HL5 ⊢
   clear hw5 hV5
   refine hK.out _ _ HH5 (fun hHeld5=>?_)
   clear hK Kx HH5
   refine wpAnyH_ready (rs:=[5]) (by kernel_rfl) (by simp) ?_
   refine AllReadyH.cons (o:=_) rfl (fun Kx hK=>?_) AllReadyH.nil
   go_simp
   refine (GDL.out _).mono ?_
   rintro e w6_ ⟨rfl,b6⟩
   have HH6:=S3 _ ((S4 _ hHeld5).trans (b6.mono (S4 _ hHeld5).size))
   have HV6:=Lib.hid ((b6.block _ (Array.getElem?_eq_some_iff.1 HV5.out).1).trans HV5.out)
   clear b6
   refine hK.out _ _ HH6 (fun hHeld6=>?_)
   clear hK Kx HH6
   refine wt 6 (.tuple #[.agg FG.arr,.bool BB]) hHeld6 ?_
   go_simp
   refine wt 7 (.agg FG.arr) hHeld6 ?_
   go_simp
   refine wt 8 (.bool BB) hHeld6 ?_
   go_simp
   refine wpAnyH_ready (rs:=[10]) (by kernel_rfl) (by simp) ?_
   refine AllReadyH.cons (o:=_) rfl (fun Kx hK=>?_) AllReadyH.nil
   refine step_store_row rfl 60 _ _ rfl V5 FG.arr rfl rfl 60 Gp.zero.arr HV6.out (by rw [gp_row.2,ZF.out]) (by rw [ZF.out]; rfl) (Gp.one _) ?_
   have HS7:=Lib.hid (show (World.setRow w6_ V5 FG.arr).heap[V5]?=some (.cells FG.arr 60 (0,0)) from setRow_heap _ _ _ _ _ _ HV6.out)
   have HH7:=S3 _ (show RowKit.Below wb.heap.size wb (World.setRow w6_ V5 FG.arr) from below_setRow' (S4 _ hHeld6) HL5 _)
   refine hK.out _ _ HH7 (fun hHeld7=>?_)
   clear hK Kx HH7
   go_simp
   refine wpAnyH_ready (rs:=[11]) (by kernel_rfl) (by simp) ?_
   refine AllReadyH.cons (o:=_) rfl (fun Kx hK=>?_) AllReadyH.nil
   go_simp
   have HH8:=hHeld7
   refine hK.out _ _ HH8 (fun hHeld8=>?_)
   clear hK Kx HH8
   refine wpAnyH_done (by kernel_rfl) ?_ _
   go_wp2_with fail
   go_meet
   exact ⟨V5,rfl,rfl,HL5,HS7.out,S4 _ hHeld8⟩
 case rest =>
 obtain ⟨wv,rfl⟩:∃ w2:World,w2=wc:=⟨_,rfl⟩
 obtain ⟨V,rfl,rfl,hV,hc,hb⟩:=hcut
 have HC:=Lib.hid hc
 have HV5:=Lib.hid (show TgR w0 n D T { t with fly:=F } Z wv from HB.out.over hb)
 have SV:=Lib.hid (show Same Z wb wv from fun b hz=>hb.block b (HB.out.lt_y b hz))
 clear hc hb GDL RG MB HB LTT
 have TH:=Lib.hid (show wv.there T 1 FG.arr.size from by
  obtain ⟨X5,m5,_,tb5,_⟩:=HV5.out
  rw [ZF.out]
  exact (tg_range tb5.blk tb5.ok).2)
 go_upto_region 8 with (first | ((with_reducible refine ld_row1 rfl 60 _ rfl ?_); refine ⟨V,_,FG.arr,_,rfl,HC.out,gp_row.1,rfl,by rw [gp_row.2,ZF.out],?_⟩) | ((with_reducible refine st_mid1 rfl 60 _ _ rfl ?_); refine ⟨T,1,FG.arr,rfl,rfl,TH.out,by rw [gp_row.2,ZF.out],Gp.one _,?_⟩))
 obtain ⟨w6,hw6⟩:∃ w6,w6=wv.setCells T 1 FG.arr.toList:=⟨_,rfl⟩
 obtain ⟨t1,ht1⟩:∃ t1,({ t with fly:=F,g:=FG }:Tg)=t1:=⟨_,rfl⟩
 have P6:=Lib.hid (show TgR w0 n D T t1 Z w6∧Same Z wv w6 from ht1▸HV5.out.setG OKF.out hw6)
 have WS:=Lib.hid (show t1.wait.Pairwise (fun a b=>a.tag<b.tag) from ht1▸HD.out.ws)
 rw [ht1] at E
 rw [← hw6]
 have RB6:=Lib.hid ((P6.out.2 A8 ZB.out).trans ((SV.out A8 ZB.out).trans RB.out))
 have SY6:=Lib.hid (show Same Y w w6 from SYB.out.trans (fun b hb=>(P6.out.2 b (ZY.out b hb)).trans (SV.out b (ZY.out b hb))))
 have H6:=Lib.hid P6.out.1
 clear hw6 ht1 TH HC HV5 SV SYB RB hAlt P6 HD ZB
 obtain ⟨wb,rfl⟩:∃ wb:World,wb=w6:=⟨_,rfl⟩
 have hAlt:=(Array.getElem?_eq_some_iff.1 RB6.out).1
 obtain ⟨X6,m6,ki6,tb6,lo6,hy6⟩:=H6.out
 have LTT:=(Array.getElem?_eq_some_iff.1 tb6.blk).1
 obtain ⟨W8,hW8⟩:∃ W8,m6.W=W8:=⟨_,rfl⟩
 have C85:=Lib.hid (show ∀ w',RowKit.Below wb.heap.size wb w'→w'.cell? ⟨T,85,none⟩=some (.map (some W8)) from fun w' b=>(b.cell (p:=⟨T,85,none⟩) LTT).trans (hW8▸(tg_cells tb6.blk tb6.ok).1.2.2.2.2.2.2.2.1))
 have MB:=Lib.hid (fun w' (h:RowKit.Below wb.heap.size wb w')=>six_at ((h.block A8 hAlt).trans RB6.out))
 have hz6:∀ w,(zeroValue 143).run Tryz.prog w=.ok (.agg #[.int .i64 0,.int .i64 0,.map none]) w:=fun w=>by kernel_rfl
 obtain ⟨WH,WN,M8,IS,hlk,hcase⟩:∃ (WH WN:Int) (M8:Option Nat) (IS:Bool),(∀ w',RowKit.Below wb.heap.size wb w'→(Instr.lookup 108 (.map (some W8)) (.int .i64 tag) true).run Tryz.prog w'=.ok (.tuple #[.agg #[.int .i64 WH,.int .i64 WN,.map M8],.bool IS]) w') ∧
   ((IS=false∧tagAt tag t1.wait=none)∨(IS=true∧∃ (j:Nat) (_:j<t1.wait.length) (h2:j<m6.hm.length),tagAt tag t1.wait=some j∧M8=some m6.hm[j])):=by
  have run:=fun w' (b:RowKit.Below wb.heap.size wb w')=>run_lookup_int (P:=Tryz.prog) Tryz.underlying108 Tryz.underlying3 (show IMap w' W8 (waitL t1.wait m6.hm) from hW8▸tb6.wait.move (b.block _ tb6.wait.lt)) tag (hz6 w')
  have hf:=findI_wait tag t1.wait m6.hm 0 tb6.wl
  cases hq:tagAt tag t1.wait with
  | none =>
   rw [hq] at hf
   exact ⟨0,0,none,false,fun w' b=>by rw [run w' b,hf],.inl ⟨rfl,rfl⟩⟩
  | some j =>
   obtain ⟨h1,-,-⟩:=tagAt_spec _ _ _ hq
   have h2:j<m6.hm.length:=by rw [← tb6.wl]; exact h1
   rw [hq] at hf
   simp only [List.getElem?_eq_getElem h1,List.getElem?_eq_getElem h2,Option.bind_some,Option.map_some,Nat.zero_add] at hf
   exact ⟨t1.wait[j].who,t1.wait[j].num,some m6.hm[j],true,fun w' b=>by rw [run w' b,hf],.inr ⟨rfl,j,h1,h2,rfl,rfl⟩⟩
 have LK:=Lib.hid hlk
 have HCASE:=Lib.hid hcase
 have KI6:=Lib.hid ki6
 have TB6:=Lib.hid tb6
 have LO6:=Lib.hid lo6
 have HY6:=Lib.hid hy6
 have HW8:=Lib.hid hW8
 clear hlk hcase ki6 tb6 lo6 hy6 hW8 hz6
 simp only [Act.put]
 go_cut [11,12] (fun v11 v12 wx=>∃ U,v11=.pointer (some ⟨U,0,none⟩)∧v12=.bool IS∧wb.heap.size≤U∧wx.heap[U]?=some (.cells #[.int .i64 WH,.int .i64 WN,.map M8] 143 (0,0))∧RowKit.Below wb.heap.size wb wx)
 case first =>
  obtain ⟨S,hS⟩:∃ S:World→Prop,S=fun w'=>RowKit.Below wb.heap.size wb w':=⟨_,rfl⟩
  have S3:∀ w',RowKit.Below wb.heap.size wb w'→S w':=fun w' h=>by rw [hS]; exact h
  have S4:∀ w',S w'→RowKit.Below wb.heap.size wb w':=fun w' h=>by rw [hS] at h; exact h
  clear hS
  refine wp_region_held_drew (S:=S) (by kernel_rfl) (S3 _ (Below.refl _ _).drew) (fun hHeld=>?_)
  obtain ⟨wd,hwd⟩:∃ wd,wd=wb.drew:=⟨_,rfl⟩
  rw [← hwd] at hHeld ⊢
  clear hwd
  refine wt 0 (.pointer (some ⟨T,0,none⟩)) hHeld ?_
  go_simp
  refine wt 1 (.pointer (some ⟨T,0,none⟩)) hHeld ?_
  go_simp
  refine wt 2 (.pointer (some ⟨T,85,none⟩)) hHeld ?_
  go_simp
  refine wt 3 (.map (some W8)) hHeld ?_ (hy:=Or.inl ⟨by rfl,fun w' hSw=>by have hc:=C85.out w' (S4 w' hSw); go_simp⟩)
  go_simp
  refine wt 4 (.pointer (some ⟨A8,5,none⟩)) hHeld ?_
  go_simp
  refine wt 5 (.int .i64 tag) hHeld ?_ (hy:=Or.inl ⟨by rfl,fun w' hSw=>by obtain ⟨q0,q1,q2,q3,q4,q5⟩:=MB.out w' (S4 w' hSw); go_simp⟩)
  go_simp
  refine wt 6 (.tuple #[.agg #[.int .i64 WH,.int .i64 WN,.map M8],.bool IS]) hHeld ?_ (hy:=Or.inl ⟨by rfl,fun w' hSw=>by have hlk:=LK.out w' (S4 w' hSw); go_simp⟩)
  go_simp
  refine wt 7 (.tuple #[.agg #[.int .i64 WH,.int .i64 WN,.map M8],.bool IS]) hHeld ?_
  go_simp
  refine wt 8 (.agg #[.int .i64 WH,.int .i64 WN,.map M8]) hHeld ?_
  go_simp
  refine wt 9 (.bool IS) hHeld ?_
  go_simp
  refine wpAnyH_ready (rs:=[10]) (by kernel_rfl) (by simp) ?_
  refine AllReadyH.cons (o:=_) rfl (fun Kx hK=>?_) AllReadyH.nil
  go_simp
  obtain ⟨w1_,hw1⟩:∃ x,x=wd.alloc (.cells #[.int .i64 0,.int .i64 0,.map none] 143):=⟨_,rfl⟩
  have HV1:=Lib.hid (show w1_.heap[wd.heap.size]?=some (.cells #[.int .i64 0,.int .i64 0,.map none] 143 (0,0)) from hw1▸heap_alloc_new _ _)
  have HH1:=S3 _ (show RowKit.Below wb.heap.size wb w1_ from hw1▸(S4 _ hHeld).alloc (S4 _ hHeld).size _)
  have HL1:wb.heap.size≤wd.heap.size:=(S4 _ hHeld).size
  rw [← hw1]
  obtain ⟨V1,hV1⟩:∃ V,wd.heap.size=V:=⟨_,rfl⟩
  rw [hV1] at HV1 HL1 ⊢
  clear hw1 hV1
  refine hK.out _ _ HH1 (fun hHeld1=>?_)
  clear hK Kx HH1
  refine wpAnyH_ready (rs:=[11]) (by kernel_rfl) (by simp) ?_
  refine AllReadyH.cons (o:=_) rfl (fun Kx hK=>?_) AllReadyH.nil
  obtain ⟨⟨y0,y1,y2⟩,z0,z1,z2⟩:=cells3 HV1.out
  go_simp
  clear y0 y1 y2 z0 z1 z2
  have HS2:=Lib.hid (three_at HV1.out (.int .i64 WH) (.int .i64 WN) (.map M8))
  have HH2:=S3 _ (three_below (S4 _ hHeld1) HL1 (.int .i64 WH) (.int .i64 WN) (.map M8))
  refine hK.out _ _ HH2 (fun hHeld2=>?_)
  clear hK Kx HH2
  refine wpAnyH_ready (rs:=[12]) (by kernel_rfl) (by simp) ?_
  refine AllReadyH.cons (o:=_) rfl (fun Kx hK=>?_) AllReadyH.nil
  go_simp
  have HH3:=hHeld2
  refine hK.out _ _ HH3 (fun hHeld3=>?_)
  clear hK Kx HH3
  refine wpAnyH_done (by kernel_rfl) ?_ _
  go_wp2_with fail
  go_meet
  exact ⟨V1,rfl,rfl,HL1,HS2.out,S4 _ hHeld3⟩
 case rest =>
 obtain ⟨w7,rfl⟩:∃ w2:World,w2=wc:=⟨_,rfl⟩
 obtain ⟨U,rfl,rfl,hU,hc,hb⟩:=hcut
 have HU:=Lib.hid hc
 have B7:=Lib.hid hb
 have H7:=Lib.hid (H6.out.over hb)
 have SY7:=Lib.hid (show Same Y w w7 from SY6.out.trans (fun b hz=>hb.block b (H6.out.lt_y b (ZY.out b hz))))
 clear hc hb LK
 cases BB
 ·have E2:=Lib.hid (E.out.trans (if_neg (by decide)))
  clear E
  go_wp2
  exact bodyPost_ret (v:=.tuple #[.bool false,.nilIface]) (by simp [results,Tryz.results43,go_sem]) rfl (by rw [E2.out]; exact ⟨by rw [errV_nil],H7.out.less ZY.out,SY7.out⟩)
 have E2:=Lib.hid (E.out.trans (if_pos rfl))
 clear E
 rcases HCASE.out with ⟨rfl,hn⟩ | ⟨rfl,jj,hj1,hj2,ht,rfl⟩
 ·have E3:=Lib.hid (show R=(t1,true,0) from by rw [E2.out,came_none (m:=⟨tt,at8,mc,tag⟩) hn])
  clear E2 hn HCASE
  go_wp2
  exact bodyPost_ret (v:=.tuple #[.bool true,.nilIface]) (by simp [results,Tryz.results43,go_sem]) rfl (by rw [E3.out]; exact ⟨by rw [errV_nil],H7.out.less ZY.out,SY7.out⟩)
 have HJJ:=Lib.hid ht
 have LT7:=Lib.hid (show ∀ b,X6 b→b<w7.heap.size from fun b hb=>Nat.lt_of_lt_of_le (KI6.out.lt b hb) B7.out.size)
 have TB7:=Lib.hid (TB6.out.same (KI6.out.same_of B7.out) LT7.out)
 have KI7:=Lib.hid (KI6.out.over B7.out)
 have qH:=TB7.out.have' jj hj2 hj1
 obtain ⟨H,hH⟩:∃ H,m6.hm[jj]=H:=⟨_,rfl⟩
 obtain ⟨UO1,hU1,hU2⟩:=run_update_int (P:=Tryz.prog) Tryz.underlying109 Tryz.underlying3 qH.2.2.2 (tt:Int) (.bool true)
 rw [put_bool] at hU2
 rw [hH] at hU1 hU2
 obtain ⟨w8,hw8⟩:∃ w8,w8=setO w7 H UO1:=⟨_,rfl⟩
 rw [← hw8] at hU1 hU2
 have UPD8:=Lib.hid hU1
 have KP8:=Lib.hid (show Keeps (·=m6.hm[jj]) w7 w8 from by rw [hH,hw8]; exact (Keeps.refl (·=H) w7).setO' rfl _)
 have IM8:=Lib.hid (show IMap w8 m6.hm[jj] (boolL (t1.wait[jj].put tt).hv) from by rw [hH]; exact hU2)
 have hlen:=run_len_int (P:=Tryz.prog) Tryz.underlying109 hU2
 rw [show (boolL (if (tt:Int)∈t1.wait[jj].hv then t1.wait[jj].hv else t1.wait[jj].hv ++ [(tt:Int)])).length=(t1.wait[jj].put tt).hv.length from by unfold boolL; rw [List.length_map]; rfl] at hlen
 have cellsNe:∀ b cs ty fr,w7.heap[b]?=some (.cells cs ty fr)→b≠m6.hm[jj]:=fun b cs ty fr hc e=>by
  subst e
  obtain ⟨es,cl,h1,_⟩:=qH.2.2.2
  rw [h1] at hc; cases hc
 have RB7:=Lib.hid ((B7.out.block A8 hAlt).trans RB6.out)
 have UB8:=Lib.hid ((KP8.out.block U (cellsNe _ _ _ _ HU.out) (Array.getElem?_eq_some_iff.1 HU.out).1).trans HU.out)
 have RB8:=Lib.hid ((KP8.out.block A8 (cellsNe _ _ _ _ RB7.out) (Array.getElem?_eq_some_iff.1 RB7.out).1).trans RB7.out)
 obtain ⟨e0,-,-,-,-,-⟩:=six_at RB7.out
 obtain ⟨⟨u0,u1,u2⟩,-⟩:=cells3 HU.out
 obtain ⟨⟨v0,v1,v2⟩,-⟩:=cells3 UB8.out
 rw [hH] at u2 v2
 clear hU1 hU2 hw8 cellsNe qH ht hH
 go_upto_region 11 with (at_mapUpdate; refine wpList_upd _ (by rfl) _ _ _ _ (by rfl) w8 (by exact UPD8.out) ?_)
 obtain ⟨LN,hLN⟩:∃ LN,(t1.wait[jj].put tt).hv.length=LN:=⟨_,rfl⟩
 rw [hLN] at hlen
 have HLN:=Lib.hid hLN
 clear hLN
 by_cases h2:2≤LN
 case neg =>
  have E3:=Lib.hid (show R=({ t1 with wait:=t1.wait.set jj (t1.wait[jj].put tt) },true,0) from by rw [E2.out,came_put (m:=⟨tt,at8,mc,tag⟩) HJJ.out hj1 WS.out (by rw [HLN.out]; exact h2)])
  have q5:¬ (2:Int)≤(LN:Int):=by omega
  have P:=Lib.hid (show TgR w0 n D T { t1 with wait:=t1.wait.set jj (t1.wait[jj].put tt) } Z w8∧Same Z w7 w8 from
   ⟨⟨X6,m6,KI7.out.set (KP8.out.mono (fun b e=>e▸(TB7.out.have' jj hj2 hj1).1)) LO6.out,TB7.out.had LT7.out hj1 hj2 tt KP8.out IM8.out,LO6.out,HY6.out⟩,fun b hb=>KP8.out.block b (fun e=>(HY6.out b hb).2 (.inr (.inr (.inr (.inl (e▸List.getElem_mem hj2)))))) (LT7.out b (HY6.out b hb).1)⟩)
  clear h2 E2 HCASE
  go_wp2
  exact bodyPost_ret (v:=.tuple #[.bool true,.nilIface]) (by simp [results,Tryz.results43,go_sem]) rfl (by rw [E3.out]; exact ⟨by rw [errV_nil],P.out.1.less ZY.out,SY7.out.trans (fun b hb=>P.out.2 b (ZY.out b hb))⟩)
 have E3:=Lib.hid (show R=({ t1 with wait:=t1.wait.eraseIdx jj,done:=if tag∈t1.done then t1.done else t1.done ++ [tag] },true,0) from by rw [E2.out,came_full (m:=⟨tt,at8,mc,tag⟩) HJJ.out hj1 WS.out (by rw [HLN.out]; exact h2)])
 have q5:(2:Int)≤(LN:Int):=by omega
 clear h2 E2 HCASE
 have qH:=TB7.out.have' jj hj2 hj1
 have hz7:=LT7.out _ qH.1
 have hz78:=KP8.out.size
 have hW7:=TB7.out.wait.lt
 have hN7:=TB7.out.done.lt
 obtain ⟨UO2,hD1,hD2⟩:=run_delete_int (P:=Tryz.prog) (w:=w8.drew) (ty:=0) Tryz.underlying108 Tryz.underlying3 (show IMap w8.drew m6.W (waitL t1.wait m6.hm) from TB7.out.wait.move (KP8.out.block _ (Ne.symm qH.2.1) hW7)) tag
 rw [del_wait TB7.out.wl HJJ.out] at hD2
 obtain ⟨w9,hw9⟩:∃ w9,w9=setO w8.drew m6.W UO2:=⟨_,rfl⟩
 rw [← hw9] at hD1 hD2
 have KP9:=Lib.hid (show Keeps (·=m6.W) w8 w9 from hw9▸(Keeps.refl (·=m6.W) w8).drew.setO' rfl _)
 have IM9:=Lib.hid hD2
 rw [HW8.out] at hD1
 have DEL9:=Lib.hid hD1
 clear hD1 hD2 hw9
 have hz89:=KP9.out.size
 obtain ⟨N8,hN8⟩:∃ N8,m6.N=N8:=⟨_,rfl⟩
 obtain ⟨UO3,hV1,hV2⟩:=run_update_int (P:=Tryz.prog) (w:=w9.drew) Tryz.underlying109 Tryz.underlying3 (show IMap w9.drew m6.N (boolL t1.done) from TB7.out.done.move ((KP9.out.block _ (Ne.symm TB7.out.wn) (Nat.lt_of_lt_of_le hN7 hz78)).trans (KP8.out.block _ (Ne.symm qH.2.2.1) hN7))) tag (.bool true)
 rw [put_bool] at hV2
 obtain ⟨w10,hw10⟩:∃ w10,w10=setO w9.drew m6.N UO3:=⟨_,rfl⟩
 rw [← hw10] at hV1 hV2
 have KP10:=Lib.hid (show Keeps (·=m6.N) w9 w10 from hw10▸(Keeps.refl (·=m6.N) w9).drew.setO' rfl _)
 have IM10:=Lib.hid hV2
 rw [hN8] at hV1
 have UPD10:=Lib.hid hV1
 clear hV1 hV2 hw10
 have GONE:=Lib.hid (TB7.out.gone LT7.out hj1 hj2 _ KP8.out KP9.out IM9.out KP10.out IM10.out)
 have P:=Lib.hid (show TgR w0 n D T { t1 with wait:=t1.wait.eraseIdx jj,done:=if tag∈t1.done then t1.done else t1.done ++ [tag] } Z w10∧Same Z w7 w10 from by
  have own:∀ b,(b=m6.W∨b=m6.N∨b∈m6.hm)→m6.own T b:=fun b e=>by
   rcases e with e | e | e
   ·exact .inr (.inl e)
   ·exact .inr (.inr (.inl e))
   ·exact .inr (.inr (.inr (.inl e)))
  have xo:∀ b,(b=m6.W∨b=m6.N∨b∈m6.hm)→X6 b:=fun b e=>by
   rcases e with rfl | rfl | e
   ·exact TB7.out.xw
   ·exact TB7.out.xn
   ·obtain ⟨i,hi,rfl⟩:=List.mem_iff_getElem.1 e
    exact (TB7.out.have' i hi (by rw [TB7.out.wl]; exact hi)).1
  refine ⟨⟨X6,{ m6 with hm:=m6.hm.eraseIdx jj },KI7.out.set (GONE.out.2.mono xo) LO6.out,GONE.out.1,LO6.out,fun b hb=>⟨(HY6.out b hb).1,fun ho=>(HY6.out b hb).2 ?_⟩⟩,fun b hb=>GONE.out.2.block b (fun e=>(HY6.out b hb).2 (own b e)) (LT7.out b (HY6.out b hb).1)⟩
  rcases ho with ho | ho | ho | ho | ho
  ·exact .inl ho
  ·exact .inr (.inl ho)
  ·exact .inr (.inr (.inl ho))
  ·exact .inr (.inr (.inr (.inl (List.mem_of_mem_eraseIdx ho))))
  ·exact .inr (.inr (.inr (.inr ho))))
 have nM:∀ b cs ty fr,w7.heap[b]?=some (.cells cs ty fr)→b≠m6.hm[jj]∧b≠m6.W∧b≠m6.N:=fun b cs ty fr hc=>by
  refine ⟨fun e=>?_,fun e=>?_,fun e=>?_⟩
  ·subst e
   obtain ⟨es,cl,h1,_⟩:=qH.2.2.2
   rw [h1] at hc; cases hc
  ·subst e
   obtain ⟨es,cl,h1,_⟩:=TB7.out.wait
   rw [h1] at hc; cases hc
  ·subst e
   obtain ⟨es,cl,h1,_⟩:=TB7.out.done
   rw [h1] at hc; cases hc
 have nT:=nM T _ _ _ TB7.out.blk
 have nA:=nM A8 _ _ _ RB7.out
 have lT:=(Array.getElem?_eq_some_iff.1 TB7.out.blk).1
 have lA:=(Array.getElem?_eq_some_iff.1 RB7.out).1
 have T8:=KP8.out.block T nT.1 lT
 have A8':=KP8.out.block A8 nA.1 lA
 have T9:=(KP9.out.block T nT.2.1 (Nat.lt_of_lt_of_le lT hz78)).trans T8
 have A9':=(KP9.out.block A8 nA.2.1 (Nat.lt_of_lt_of_le lA hz78)).trans A8'
 have T10:=(KP10.out.block T nT.2.2 (Nat.lt_of_lt_of_le (Nat.lt_of_lt_of_le lT hz78) hz89)).trans T9
 have A10':=(KP10.out.block A8 nA.2.2 (Nat.lt_of_lt_of_le (Nat.lt_of_lt_of_le lA hz78) hz89)).trans A9'
 have t85:w7.cell? ⟨T,85,none⟩=some (.map (some W8)):=HW8.out▸(tg_cells TB7.out.blk TB7.out.ok).1.2.2.2.2.2.2.2.1
 have t87:w7.cell? ⟨T,87,none⟩=some (.map (some N8)):=hN8▸(tg_cells TB7.out.blk TB7.out.ok).1.2.2.2.2.2.2.2.2.2
 have a5:w7.cell? ⟨A8,5,none⟩=some (.int .i64 tag):=(six_at RB7.out).2.2.2.2.2
 have SD8:=Lib.hid (show w8.drew.cell? ⟨T,85,none⟩=some (.map (some W8))∧w8.drew.cell? ⟨A8,5,none⟩=some (.int .i64 tag) from ⟨(World.cell?_of_block (w:=w7) (w':=w8.drew) (a:=⟨T,85,none⟩) T8).trans t85,(World.cell?_of_block (w:=w7) (w':=w8.drew) (a:=⟨A8,5,none⟩) A8').trans a5⟩)
 have SD9:=Lib.hid (show w9.cell? ⟨T,85,none⟩=some (.map (some W8))∧w9.cell? ⟨A8,5,none⟩=some (.int .i64 tag) from ⟨(World.cell?_of_block (w:=w7) (a:=⟨T,85,none⟩) T9).trans t85,(World.cell?_of_block (w:=w7) (a:=⟨A8,5,none⟩) A9').trans a5⟩)
 have SE9:=Lib.hid (show w9.drew.cell? ⟨T,87,none⟩=some (.map (some N8))∧w9.drew.cell? ⟨A8,5,none⟩=some (.int .i64 tag) from ⟨(World.cell?_of_block (w:=w7) (w':=w9.drew) (a:=⟨T,87,none⟩) T9).trans t87,(World.cell?_of_block (w:=w7) (w':=w9.drew) (a:=⟨A8,5,none⟩) A9').trans a5⟩)
 have SD10:=Lib.hid (show w10.cell? ⟨T,87,none⟩=some (.map (some N8))∧w10.cell? ⟨A8,5,none⟩=some (.int .i64 tag) from ⟨(World.cell?_of_block (w:=w7) (a:=⟨T,87,none⟩) T10).trans t87,(World.cell?_of_block (w:=w7) (a:=⟨A8,5,none⟩) A10').trans a5⟩)
 clear nT nA lT lA T8 A8' T9 A9' T10 A10' t85 t87 a5 nM qH hz7 hz78 hW7 hN7 hz89 GONE IM8 IM9 IM10 KP8 KP9 KP10 TB7 KI7 LT7 TB6 KI6 LO6 HY6 C85 MB
 go_upto_region 12 with fail
 obtain ⟨S,hS⟩:∃ S:World→Prop,S=fun w'=>w'.cell? ⟨T,85,none⟩=some (.map (some W8))∧w'.cell? ⟨A8,5,none⟩=some (.int .i64 tag):=⟨_,rfl⟩
 have S3:∀ w',(w'.cell? ⟨T,85,none⟩=some (.map (some W8))∧w'.cell? ⟨A8,5,none⟩=some (.int .i64 tag))→S w':=fun w' h=>by rw [hS]; exact h
 have S4:∀ w',S w'→(w'.cell? ⟨T,85,none⟩=some (.map (some W8))∧w'.cell? ⟨A8,5,none⟩=some (.int .i64 tag)):=fun w' h=>by rw [hS] at h; exact h
 clear hS
 refine wp_region_held_drew (S:=S) (by kernel_rfl) (S3 _ SD8.out) (fun hHeld=>?_)
 refine wt 0 (.pointer (some ⟨T,0,none⟩)) hHeld ?_
 go_simp
 refine wt 1 (.pointer (some ⟨T,0,none⟩)) hHeld ?_
 go_simp
 refine wt 2 (.pointer (some ⟨T,85,none⟩)) hHeld ?_
 go_simp
 refine wt 3 (.map (some W8)) hHeld ?_ (hy:=Or.inl ⟨by rfl,fun w' hSw=>by obtain ⟨qm,q5⟩:=S4 w' hSw; go_simp⟩)
 go_simp
 refine wt 4 (.pointer (some ⟨A8,5,none⟩)) hHeld ?_
 go_simp
 refine wt 5 (.int .i64 tag) hHeld ?_ (hy:=Or.inl ⟨by rfl,fun w' hSw=>by obtain ⟨qm,q5⟩:=S4 w' hSw; go_simp⟩)
 go_simp
 refine wpAnyH_ready (rs:=[6]) (by kernel_rfl) (by simp) ?_
 refine AllReadyH.cons (o:=_) rfl (fun Kx hK=>?_) AllReadyH.nil
 refine step_del (by rfl) _ _ _ _ (by rfl) w9 (by simp only [Act.eval]; exact DEL9.out) ?_
 have HH1:=S3 _ SD9.out
 refine hK.out _ _ HH1 (fun hHeld1=>?_)
 clear hK Kx HH1
 refine wpAnyH_done (by kernel_rfl) ?_ _
 clear S3 S4
 go_upto_region 13 with fail
 obtain ⟨S2,hS⟩:∃ S:World→Prop,S=fun w'=>w'.cell? ⟨T,87,none⟩=some (.map (some N8))∧w'.cell? ⟨A8,5,none⟩=some (.int .i64 tag):=⟨_,rfl⟩
 have S3:∀ w',(w'.cell? ⟨T,87,none⟩=some (.map (some N8))∧w'.cell? ⟨A8,5,none⟩=some (.int .i64 tag))→S2 w':=fun w' h=>by rw [hS]; exact h
 have S4:∀ w',S2 w'→(w'.cell? ⟨T,87,none⟩=some (.map (some N8))∧w'.cell? ⟨A8,5,none⟩=some (.int .i64 tag)):=fun w' h=>by rw [hS] at h; exact h
 clear hS
 refine wp_region_held_drew (S:=S2) (by kernel_rfl) (S3 _ SE9.out) (fun hHeld=>?_)
 refine wt 0 (.pointer (some ⟨T,0,none⟩)) hHeld ?_
 go_simp
 refine wt 1 (.pointer (some ⟨T,0,none⟩)) hHeld ?_
 go_simp
 refine wt 2 (.pointer (some ⟨T,87,none⟩)) hHeld ?_
 go_simp
 refine wt 3 (.map (some N8)) hHeld ?_ (hy:=Or.inl ⟨by rfl,fun w' hSw=>by obtain ⟨qm,q5⟩:=S4 w' hSw; go_simp⟩)
 go_simp
 refine wt 4 (.pointer (some ⟨A8,5,none⟩)) hHeld ?_
 go_simp
 refine wt 5 (.int .i64 tag) hHeld ?_ (hy:=Or.inl ⟨by rfl,fun w' hSw=>by obtain ⟨qm,q5⟩:=S4 w' hSw; go_simp⟩)
 go_simp
 refine wpAnyH_ready (rs:=[6]) (by kernel_rfl) (by simp) ?_
 refine AllReadyH.cons (o:=_) rfl (fun Kx hK=>?_) AllReadyH.nil
 refine step_upd (by rfl) _ _ _ _ (by rfl) w10 (by simp only [Act.eval]; exact UPD10.out) ?_
 have HH1:=S3 _ SD10.out
 refine hK.out _ _ HH1 (fun hHeld1=>?_)
 clear hK Kx HH1
 refine wpAnyH_done (by kernel_rfl) ?_ _
 clear S3 S4
 go_wp2
 exact bodyPost_ret (v:=.tuple #[.bool true,.nilIface]) (by simp [results,Tryz.results43,go_sem]) rfl (by rw [E3.out]; exact ⟨by rw [errV_nil],P.out.1.less ZY.out,SY7.out.trans (fun b hb=>P.out.2 b (ZY.out b hb))⟩)
end
end Go.Proofs.YtajegiifabfcjaaGreatDoor
