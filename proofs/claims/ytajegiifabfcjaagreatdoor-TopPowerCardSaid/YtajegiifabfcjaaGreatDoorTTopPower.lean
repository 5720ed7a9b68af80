/-
  TopPower: the walk. (Printed in part by gen_power.py.)
-/
import Derived.Test.YtajegiifabfcjaaGreatDoorTTgNw
import Derived.Test.YtajegiifabfcjaaGreatDoorTTgLaw2
import Derived.Test.YtajegiifabfcjaaGreatDoorTTgW0
import Derived.Test.YtajegiifabfcjaaGreatDoorQ10
namespace Go.Proofs.YtajegiifabfcjaaGreatDoor
open List (getElem_toArray getElem_cons_zero getElem_cons_succ setIfInBounds_toArray set_cons_zero set_cons_succ)
open Go.RowKit Go.Sort
theorem St.zero_str (w:World):StR w St.zero none:=⟨by show 0≤maxLen; omega,fun i hi=>absurd hi (by show ¬ i<0; omega)⟩
theorem power_told {n:Nat} {t:Tg} {who at':Int} (hb:t.b.ok) (hw:1≤who∧who≤4) (ha:0≤at'∧at'≤7) (h4:t.b.get who=[4]):t.ask n (cRd who at')=({ t with b:=t.b.set who [] },⟨⟨#[]⟩,0,4,0⟩) :=
 (ask_told hb (rd_fault hw ha) h4).1
structure PwT (u:Tg) (k:Nat) (v:Tg):Prop where
 k':v.k=u.k
 g:v.g=u.g
 b:∀ j:Int,(k:Int)+1≤j→j≤4→v.b.get j=[4]
theorem PwT.start {u:Tg} (h:u.b=Bl.pow):PwT u 0 u:=⟨rfl,rfl,fun j h1 h2=>by
 rw [h]
 rcases (by omega:j=1∨j=2∨j=3∨j=4) with rfl | rfl | rfl | rfl <;> rfl⟩
theorem PwT.next {u v:Tg} {k:Nat} (h:PwT u k v) (hk:k<4):PwT u (k+1) { v with b:=v.b.set ((k:Int)+1) [] } :=
 ⟨h.k',h.g,fun j h1 h2=>by
  show (v.b.set ((k:Int)+1) []).get j=[4]
  rw [Bl.get_set _ _ _ _ (by omega) (by omega),if_neg (by omega)]
  exact h.b j (by omega) h2⟩
theorem PwT.newest {u v:Tg} {k:Nat} (h:PwT u k v) (c:Nat):v.newest c=u.newest c:=by unfold Tg.newest; rw [h.k',h.g]
set_option maxRecDepth 100000 in
set_option maxHeartbeats 40000000 in
theorem toppower_walk (l:List Ac) (a:Option Addr) (cap:Nat) (i:Int) (w:World) (hl:l.length≤maxLen) (hr:ActsAt w a l) (tt:Tabs w) :
  Calls Tryz.prog 11 #[.slice a l.length cap,.int .i64 i] w fun e w'=>e=.returned (.bool true)∧Below w.heap.size w w':=by
 have TT:=Lib.hid tt
 have WK:=Lib.hid (works_any w tt)
 have PLAYED:=Lib.hid (fun w' (b:RowKit.Below w.heap.size w w')=>played_any l a cap w' hl (hr.below b) (TT.out.on b))
 clear hr tt
 go_enter Tryz.func11,Tryz.ntmps11
 go_wp2_with fail
 refine WK.out.mono ?_
 rintro e w2 ⟨rfl,b2⟩
 have B2:=Lib.hid b2
 have PL:=Lib.hid (PLAYED.out w2 b2)
 clear b2 WK PLAYED
 go_wp2_with fail
 refine PL.out.mono ?_
 rintro e w3 (⟨rfl,b3⟩ | ⟨D,T,t,S,rfl,h3,j3⟩)
 ·have B3:=Lib.hid (show RowKit.Below w.heap.size w w3 from B2.out.trans (b3.mono B2.out.size))
  clear b3 PL
  go_wp2
  go_ret
  exact ⟨rfl,B3.out⟩
 have H3:=Lib.hid h3
 have J3:=Lib.hid j3
 have BW3:=Lib.hid (show RowKit.Below w.heap.size w w3 from B2.out.trans (h3.below.mono B2.out.size))
 clear h3 j3 PL
 by_cases hi0:i<0
 ·go_wp2
  go_ret
  exact ⟨rfl,BW3.out⟩
 by_cases hi7:7<i
 ·go_wp2
  go_ret
  exact ⟨rfl,BW3.out⟩
 obtain ⟨k,rfl⟩:∃ k:Nat,i=(k:Int):=⟨i.toNat,by omega⟩
 have HK8:=Lib.hid (show k<8 from by omega)
 have RL:=Lib.hid (show t.k.s.regs.length≤1000 from by have:=J3.out.ti.good.regs_len; omega)
 have STA:=Lib.hid (tstate_any w2 w3 10 D T t _ H3.out RL.out)
 go_wp2_with fail
 refine STA.out.mono ?_
 rintro e w5 ⟨a5,c5,rfl,hs5,b5,fr5⟩
 obtain ⟨w6,hw6⟩:∃ w6,w6=w5.alloc (.cells #[.int .i64 t.k.s.gen,.slice a5 t.k.s.regs.length c5,.int .i64 t.k.s.typ,.int .i64 t.k.s.holder,.bool t.k.s.stays] 35):=⟨_,rfl⟩
 have B6:=Lib.hid (show RowKit.Below w3.heap.size w3 w6 from b5.trans ((hw6▸bal w5 _:RowKit.Below w5.heap.size w5 w6).mono b5.size))
 have HS6:=Lib.hid (show StR w6 t.k.s a5 from hw6▸hs5.below (bal w5 _))
 have V6:=Lib.hid (show w6.heap[w5.heap.size]?=some (.cells #[.int .i64 t.k.s.gen,.slice a5 t.k.s.regs.length c5,.int .i64 t.k.s.typ,.int .i64 t.k.s.holder,.bool t.k.s.stays] 35 (0,0)) from hw6▸heap_alloc_new w5 _)
 have LV:=Lib.hid (show w3.heap.size≤w5.heap.size from b5.size)
 have FR5:=Lib.hid (show ∀ b o,a5=some ⟨b,o,none⟩→w3.heap.size≤b from fun b o e=>fr5 b o e)
 go_upto_region 8 with fail
 rw [← hw6]
 obtain ⟨V,hV⟩:∃ V,w5.heap.size=V:=⟨_,rfl⟩
 rw [hV] at V6 LV ⊢
 clear hw6 hV hs5 b5 fr5 STA hi0 hi7
 have NWC:=Lib.hid (newest_any w2 w6 10 D T t _ k (H3.out.over B6.out) HK8.out)
 obtain ⟨X,hX⟩:∃ X,t.newest k=X:=⟨_,rfl⟩
 obtain ⟨MO,hMO⟩:∃ X,t.most=X:=⟨_,rfl⟩
 have LAW:=Lib.hid (power_law J3.out.ti (by omega) k)
 have JP:=Lib.hid (J3.out.power (by omega))
 rw [hX,hMO] at NWC LAW
 clear hX hMO
 go_wp2_with fail
 refine NWC.out.mono ?_
 rintro e w7 ⟨rfl,b7⟩
 dsimp only [Cel.cells]
 obtain ⟨w8,hw8⟩:∃ w8,w8=w7.alloc (.cells #[.int .i64 X.e,.int .i64 X.n,.string X.d] 30):=⟨_,rfl⟩
 have b68:RowKit.Below w6.heap.size w6 w8:=b7.trans ((hw8▸bal w7 _:RowKit.Below w7.heap.size w7 w8).mono b7.size)
 have B8:=Lib.hid (show RowKit.Below w3.heap.size w3 w8 from B6.out.trans (b68.mono B6.out.size))
 have C8:=Lib.hid (show w8.heap[w7.heap.size]?=some (.cells X.cells 30 (0,0)) from hw8▸heap_alloc_new w7 _)
 have LC:=Lib.hid (show w3.heap.size≤w7.heap.size from Nat.le_trans B6.out.size b7.size)
 have HS8:=Lib.hid (show StR w8 t.k.s a5 from HS6.out.below b68)
 have V8:=Lib.hid ((b68.block V (Array.getElem?_eq_some_iff.1 V6.out).1).trans V6.out)
 go_upto_region 9 with fail
 rw [← hw8]
 obtain ⟨C,hC⟩:∃ V,w7.heap.size=V:=⟨_,rfl⟩
 rw [hC] at C8 LC ⊢
 clear hw8 hC b7 b68 NWC V6 HS6 B6
 obtain ⟨Z,hZ⟩:∃ Z:Nat→Prop,Z=fun c=>(fun _=>False) c∨(w3.heap.size≤c∧c<w8.heap.size):=⟨_,rfl⟩
 have H8:=Lib.hid (show TgR w2 10 D T t Z w8 from hZ▸H3.out.more B8.out)
 have ZN:=Lib.hid (show ∀ b,w3.heap.size≤b→b<w8.heap.size→Z b from fun b h1 h2=>hZ▸Or.inr ⟨h1,h2⟩)
 clear hZ
 have POW:=Lib.hid (tpower_any w2 w8 10 D T t Z H8.out (J3.out.tgn (by omega)) (TT.out.on B2.out))
 obtain ⟨pr,hpr⟩:∃ r,t.power 10=r:=⟨_,rfl⟩
 rw [hpr] at POW LAW JP
 clear hpr
 go_wp2_with fail
 refine POW.out.mono ?_
 rintro e w9 ⟨rfl,h9,s9⟩
 have H9:=Lib.hid h9
 have V9:=Lib.hid ((s9 V (ZN.out V LV.out (Array.getElem?_eq_some_iff.1 V8.out).1)).trans V8.out)
 have C9:=Lib.hid ((s9 C (ZN.out C LC.out (Array.getElem?_eq_some_iff.1 C8.out).1)).trans C8.out)
 have HS9:=Lib.hid (show StR w9 t.k.s a5 from HS8.out.same s9 (fun b hb=>h9.lt_y b hb) (fun b o e hne=>ZN.out b (FR5.out b o e) (by
  have hs:=HS8.out
  rw [e] at hs
  exact StR.blt hs hne)))
 have BW:=Lib.hid (show RowKit.Below w.heap.size w w9 from B2.out.trans (h9.below.mono B2.out.size))
 clear h9 s9 POW V8 HS8 B8 H8 H3 J3 LV
 obtain ⟨u,hu⟩:∃ u,pr.1=u:=⟨_,rfl⟩
 obtain ⟨f,hff⟩:∃ f,pr.2=f:=⟨_,rfl⟩
 rw [hu] at H9 LAW JP
 rw [hff] at LAW ⊢
 clear hu hff
 have RU:=Lib.hid (show u.k.s.regs.length≤1000 from by have:=JP.out.ti.good.regs_len; omega)
 have STA:=Lib.hid (fun w' (b:RowKit.Below w9.heap.size w9 w')=>tstate_any w2 w' 10 D T u Z (H9.out.over b) RU.out)
 by_cases hf0:f=0
 case neg =>
  obtain ⟨hmo,hut⟩:=LAW.out.1 hf0
  rw [errV_some hf0]
  rw [hut] at STA
  have SAME:=Lib.hid (show ∀ w' x y,RowKit.Below w9.heap.size w9 w'→StR w' t.k.s x→Calls Tryz.prog 34 #[stV t.k.s x y,stV t.k.s a5 c5] w' fun e w''=>e=.returned (.bool true)∧RowKit.Below w'.heap.size w' w'' from fun w' x y b h=>samestate_true t.k.s x a5 y c5 w' h (HS9.out.below b))
  have VC:=Lib.hid (fun w' (b:RowKit.Below w9.heap.size w9 w')=>(cells5 ((b.block V (Array.getElem?_eq_some_iff.1 V9.out).1).trans V9.out)).1)
  rw [hmo]
  clear hf0 hut hmo LAW
  go_upto_region 10 with fail
  obtain ⟨S',hS⟩:∃ S':World→Prop,S'=fun w'=>RowKit.Below w9.heap.size w9 w':=⟨_,rfl⟩
  have S3:∀ w',RowKit.Below w9.heap.size w9 w'→S' w':=fun w' h=>by rw [hS]; exact h
  have S4:∀ w',S' w'→RowKit.Below w9.heap.size w9 w':=fun w' h=>by rw [hS] at h; exact h
  clear hS
  refine wp_region_held_drew (S:=S') (by kernel_rfl) (S3 _ (Below.refl _ _).drew) (fun hHeld=>?_)
  obtain ⟨wd,hwd⟩:∃ wd,wd=w9.drew:=⟨_,rfl⟩
  rw [← hwd] at hHeld ⊢
  clear hwd
  refine wt 0 (.bool false) rfl (by kernel_rfl) (Or.inl ⟨by rfl,fun w' hSw=>by go_simp⟩) hHeld ?_
  simp only [Act.put,getElem_toArray,getElem_cons_zero,setIfInBounds_toArray,set_cons_zero,set_cons_succ]
  refine wt 1 (.bool true) rfl (by kernel_rfl) (Or.inl ⟨by rfl,fun w' hSw=>by go_simp⟩) hHeld ?_
  simp only [Act.put,getElem_toArray,getElem_cons_zero,getElem_cons_succ,setIfInBounds_toArray,set_cons_zero,set_cons_succ]
  refine wt 2 (.bool true) rfl (by kernel_rfl) (Or.inl ⟨by rfl,fun w' hSw=>by go_simp⟩) hHeld ?_
  simp only [Act.put,getElem_toArray,getElem_cons_zero,getElem_cons_succ,setIfInBounds_toArray,set_cons_zero,set_cons_succ]
  refine wt 3 (.pointer (some ⟨T,0,none⟩)) rfl (by kernel_rfl) (Or.inl ⟨by rfl,fun w' hSw=>by go_simp⟩) hHeld ?_
  simp only [Act.put,getElem_toArray,getElem_cons_zero,getElem_cons_succ,setIfInBounds_toArray,set_cons_zero,set_cons_succ]
  refine wt 5 (stV t.k.s a5 c5) rfl (by kernel_rfl) (Or.inl ⟨by rfl,fun w' hSw=>by obtain ⟨q0,q1,q2,q3,q4⟩:=VC.out w' (S4 w' hSw); go_simp⟩) hHeld ?_
  simp only [Act.put,getElem_toArray,getElem_cons_zero,getElem_cons_succ,setIfInBounds_toArray,set_cons_zero,set_cons_succ]
  refine wpAnyH_ready (rs:=[4]) (by kernel_rfl) (by simp) ?_
  refine AllReadyH.cons (o:=_) rfl (fun Kx hK=>?_) AllReadyH.nil
  go_simp
  refine (STA.out _ (S4 _ hHeld)).mono ?_
  rintro e w1_ ⟨x1,y1,rfl,hs1,b1,fr1⟩
  have HS1:=Lib.hid hs1
  have HH1:=S3 _ ((S4 _ hHeld).trans (b1.mono (S4 _ hHeld).size))
  clear hs1 b1 fr1
  refine hK.out _ _ HH1 (fun hHeld1=>?_)
  clear hK Kx HH1
  refine wpAnyH_ready (rs:=[6]) (by kernel_rfl) (by simp) ?_
  refine AllReadyH.cons (o:=_) rfl (fun Kx hK=>?_) AllReadyH.nil
  go_simp
  refine (SAME.out _ _ _ (S4 _ hHeld1) HS1.out).mono ?_
  rintro e w2_ ⟨rfl,b2⟩
  have HH2:=S3 _ ((S4 _ hHeld1).trans (b2.mono (S4 _ hHeld1).size))
  clear b2
  refine hK.out _ _ HH2 (fun hHeld2=>?_)
  clear hK Kx HH2
  refine wt 7 (.bool true) rfl (by kernel_rfl) (Or.inl ⟨by rfl,fun w' hSw=>by go_simp⟩) hHeld2 ?_
  simp only [Act.put,getElem_toArray,getElem_cons_zero,getElem_cons_succ,setIfInBounds_toArray,set_cons_zero,set_cons_succ]
  refine wpAnyH_ready (rs:=[8]) (by kernel_rfl) (by simp) ?_
  refine AllReadyH.cons (o:=_) rfl (fun Kx hK=>?_) AllReadyH.nil
  go_simp
  have HH3:=hHeld2
  refine hK.out _ _ HH3 (fun hHeld3=>?_)
  clear hK Kx HH3
  refine wpAnyH_done (by kernel_rfl) ?_ _
  have BE:=Lib.hid (show RowKit.Below w.heap.size w _ from BW.out.trans ((S4 _ hHeld3).mono BW.out.size))
  clear S3 S4
  go_wp2
  go_ret
  exact ⟨rfl,BE.out⟩
 obtain ⟨hks,hwt,hbp,hnw⟩:=LAW.out.2 hf0
 have KS:=Lib.hid hks
 have NWT:=Lib.hid hnw
 have PW0:=Lib.hid (PwT.start hbp)
 have WT:=Lib.hid (fun w' (b:RowKit.Below w9.heap.size w9 w')=>twaiting_none w2 w' 10 D T u Z (H9.out.over b) hwt)
 rw [hks] at STA
 rw [hf0,errV_nil]
 clear hf0 hks hwt hbp hnw LAW RU
 obtain ⟨q,hq⟩:∃ q,t.k.s.lost=q:=⟨_,rfl⟩
 have HQ:=Lib.hid (show q=if t.k.s.stays then { t.k.s with gen:=0 } else St.zero from hq▸rfl)
 rw [hq] at STA
 clear hq
 go_wp2_with fail
 refine (STA.out _ (Below.refl _ _)).mono ?_
 rintro e w10 ⟨aN,cN,rfl,hsN,b10,frN⟩
 obtain ⟨w11,hw11⟩:∃ w11,w11=w10.alloc (.cells #[.int .i64 q.gen,.slice aN q.regs.length cN,.int .i64 q.typ,.int .i64 q.holder,.bool q.stays] 35):=⟨_,rfl⟩
 have B11:=Lib.hid (show RowKit.Below w9.heap.size w9 w11 from b10.trans ((hw11▸bal w10 _:RowKit.Below w10.heap.size w10 w11).mono b10.size))
 have HN11:=Lib.hid (show StR w11 q aN from hw11▸hsN.below (bal w10 _))
 have N11:=Lib.hid (show w11.heap[w10.heap.size]?=some (.cells #[.int .i64 q.gen,.slice aN q.regs.length cN,.int .i64 q.typ,.int .i64 q.holder,.bool q.stays] 35 (0,0)) from hw11▸heap_alloc_new w10 _)
 have V11:=Lib.hid ((B11.out.block V (Array.getElem?_eq_some_iff.1 V9.out).1).trans V9.out)
 have HS11:=Lib.hid (HS9.out.below B11.out)
 go_upto_region 12 with fail
 rw [← hw11]
 obtain ⟨NB,hNB⟩:∃ V,w10.heap.size=V:=⟨_,rfl⟩
 rw [hNB] at N11 ⊢
 clear hw11 hNB hsN b10 frN STA
 obtain ⟨⟨v0,v1,v2,v3,v4⟩,-⟩:=cells5 V11.out
 obtain ⟨w12,hw12⟩:∃ w12,w12=w11.alloc (.cells #[.int .i64 t.k.s.gen,.slice a5 t.k.s.regs.length c5,.int .i64 t.k.s.typ,.int .i64 t.k.s.holder,.bool t.k.s.stays] 35):=⟨_,rfl⟩
 have B12:=Lib.hid (show RowKit.Below w11.heap.size w11 w12 from hw12▸bal w11 _)
 have W12:=Lib.hid (show w12.heap[w11.heap.size]?=some (.cells #[.int .i64 t.k.s.gen,.slice a5 t.k.s.regs.length c5,.int .i64 t.k.s.typ,.int .i64 t.k.s.holder,.bool t.k.s.stays] 35 (0,0)) from hw12▸heap_alloc_new w11 _)
 go_upto_region 13 with fail
 rw [← hw12]
 have HLT:=Lib.hid (show V<w11.heap.size∧NB<w11.heap.size from ⟨(Array.getElem?_eq_some_iff.1 V11.out).1,(Array.getElem?_eq_some_iff.1 N11.out).1⟩)
 have V12:=Lib.hid ((B12.out.block V HLT.out.1).trans V11.out)
 clear hw12 v0 v1 v2 v3 v4
 obtain ⟨WB,hWB⟩:∃ V,w11.heap.size=V:=⟨_,rfl⟩
 have HWB:=Lib.hid hWB
 rw [hWB] at W12 ⊢
 clear hWB
 obtain ⟨⟨y0,y1,y2,y3,y4⟩,z0,z1,z2,z3,z4⟩:=cells5 W12.out
 obtain ⟨w13,hw13⟩:∃ w13,w13=w12.setCell ⟨WB,0,none⟩ (.int .i64 0):=⟨_,rfl⟩
 have W13:=Lib.hid (show w13.heap[WB]?=some (.cells #[.int .i64 0,.slice a5 t.k.s.regs.length c5,.int .i64 t.k.s.typ,.int .i64 t.k.s.holder,.bool t.k.s.stays] 35 (0,0)) from hw13▸block_setCell W12.out _)
 have K13:=Lib.hid (show Keeps (·=WB) w12 w13 from hw13▸(Keeps.refl (·=WB) w12).setCell (p:=⟨WB,0,none⟩) rfl _)
 go_upto_region 14 with fail
 rw [← hw13]
 clear hw13 y0 y1 y2 y3 y4 z0 z1 z2 z3 z4
 have BL13:=Lib.hid (show RowKit.Below w11.heap.size w11 w13 from B12.out.trans (K13.out.below (B:=w11.heap.size) B12.out.size (fun k e=>by rw [e,HWB.out]; exact Nat.le_refl _)))
 have V13:=Lib.hid ((BL13.out.block V HLT.out.1).trans V11.out)
 obtain ⟨BS,hBS⟩:∃ b,t.k.s.stays=b:=⟨_,rfl⟩
 have HBS:=Lib.hid hBS
 obtain ⟨⟨v0,v1,v2,v3,v4⟩,-⟩:=cells5 V13.out
 rw [hBS] at v4
 go_upto_if 64 with fail
 go_cut [12] (fun v wx=>v=.pointer (some ⟨WB,0,none⟩)∧∃ aW cW,wx.heap[WB]?=some (.cells #[.int .i64 q.gen,.slice aW q.regs.length cW,.int .i64 q.typ,.int .i64 q.holder,.bool q.stays] 35 (0,0))∧StR wx q aW∧RowKit.Below w11.heap.size w11 wx)
 case first =>
  cases BS
  ·have hqz:q=St.zero:=HQ.out.trans (if_neg (by rw [HBS.out]; decide))
   have BZ:=Lib.hid (show Tryz.prog.built 35 []=some #[.int .i64 0,.slice none 0 0,.int .i64 0,.int .i64 0,.bool false] from by kernel_rfl)
   go_wp2_with (first | ((with_reducible refine bld1 rfl 35 _ rfl ?_); refine ⟨[],#[.int .i64 0,.slice none 0 0,.int .i64 0,.int .i64 0,.bool false],rfl,BZ.out,?_⟩) | ((with_reducible refine st_row1 rfl 35 _ _ rfl ?_); refine ⟨WB,_,#[.int .i64 0,.slice none 0 0,.int .i64 0,.int .i64 0,.bool false],_,rfl,rfl,W13.out,state_row.2,rfl,by simp [Value.oneCell'],?_⟩))
   go_meet
   refine ⟨rfl,none,0,?_,?_,BL13.out.trans (((Keeps.refl (·=WB) w13).setRow (g:=WB) rfl _).below BL13.out.size (fun k e=>by rw [e,HWB.out]; exact Nat.le_refl _))⟩
   ·rw [hqz]
    exact setRow_heap _ _ _ _ _ _ W13.out
   ·rw [hqz]
    exact St.zero_str _
  ·have hq1:q={ t.k.s with gen:=0 }:=HQ.out.trans (if_pos HBS.out)
   go_wp2_with fail
   go_meet
   refine ⟨rfl,a5,c5,?_,?_,BL13.out⟩
   ·rw [hq1]
    exact W13.out
   ·rw [hq1]
    have hs:=HS11.out.below BL13.out
    exact ⟨hs.1,hs.2⟩
 case rest =>
  obtain ⟨rfl,aW,cW,hW,hWs,bW⟩:=hcut
  have W14:=Lib.hid hW
  have N14:=Lib.hid ((bW.block NB HLT.out.2).trans N11.out)
  have HN14:=Lib.hid (HN11.out.below bW)
  have SAME:=Lib.hid (samestate_true q aN aW cN cW wc HN14.out hWs)
  have B14:=Lib.hid (show RowKit.Below w9.heap.size w9 wc from B11.out.trans (bW.mono B11.out.size))
  clear hW hWs bW v0 v1 v2 v3 v4 V13 BL13 K13 W13 W12 V12 B12 V11 HS11 HN11 N11 HBS hBS HQ HWB V9 HS9
  obtain ⟨⟨v0,v1,v2,v3,v4⟩,-⟩:=cells5 N14.out
  obtain ⟨⟨y0,y1,y2,y3,y4⟩,-⟩:=cells5 W14.out
  go_wp2_with fail
  refine SAME.out.mono ?_
  rintro e w15 ⟨rfl,b15⟩
  have B15:=Lib.hid (show RowKit.Below w9.heap.size w9 w15 from B14.out.trans (b15.mono B14.out.size))
  clear b15 SAME v0 v1 v2 v3 v4 y0 y1 y2 y3 y4
  go_wp2_with fail
  refine (WT.out _ B15.out).mono ?_
  rintro e w16 ⟨⟨wa,wcc,rfl⟩,b16⟩
  have B16:=Lib.hid (show RowKit.Below w9.heap.size w9 w16 from B15.out.trans (b16.mono B15.out.size))
  have H16:=Lib.hid (H9.out.over B16.out)
  have S16:=Lib.hid (show Same Z w9 w16 from fun b hb=>B16.out.block b (H9.out.lt_y b hb))
  clear b16 WT
  go_wp2
  go_loopw [13] (fun i wr=>∃ (m:Nat) (v:Tg) (S:Cel→Prop),m≤4∧i=.int .i64 ((m:Int)+1)∧TgR w2 10 D T v Z wr∧TJ 10 S (202+2*(m:Int)) v∧PwT u m v∧Same Z w9 wr) (fun i _=>5 - (intOf i).toNat)
  case atStart=>exact ⟨0,u,S,by omega,rfl,H16.out,by simpa using JP.out,PW0.out,S16.out⟩
  case round =>
  obtain ⟨m,v,S2,hm,rfl,hT,hJ,hP,hS⟩:=hrel
  have HT:=Lib.hid hT
  have HJ:=Lib.hid hJ
  have HP:=Lib.hid hP
  have HS2:=Lib.hid hS
  clear hT hJ hP hS
  by_cases hm4:m<4
  ·have ASK:=Lib.hid (task_any w2 wr 10 D T v Z S2 _ (cRd ((m:Int)+1) (k:Int)) HT.out HJ.out (by omega) ⟨by show 0≤9223372036854775807; omega,by show 0≤9223372036854775807; omega⟩ (TT.out.on B2.out))
   obtain ⟨S3,-,hj'⟩:=HJ.out.ask (by omega) (cRd ((m:Int)+1) (k:Int))
   have PT:=power_told (n:=10) HJ.out.ti.box (who:=(m:Int)+1) (at':=(k:Int)) (by omega) (by have:=HK8.out; omega) (HP.out.b _ (by omega) (by omega))
   rw [PT] at ASK hj'
   have HJ':=Lib.hid (show TJ 10 S3 (202+2*((m+1:Nat):Int)) { v with b:=v.b.set ((m:Int)+1) [] } from hj'.mono (by omega))
   have HP':=Lib.hid (HP.out.next hm4)
   rw [errV_nil] at ASK
   have hm4':(m:Int)+1≤4:=by omega
   clear PT hj'
   go_wp2_with fail
   refine ASK.out.mono ?_
   rintro e w17 ⟨rfl,h17,s17⟩
   have H17:=Lib.hid h17
   have S17:=Lib.hid (HS2.out.trans s17)
   clear h17 s17 ASK
   have q1:IntKind.i64.wrap (((m:Int)+1)+1)=((m+1:Nat):Int)+1:=by rw [IntWalk.i64_in _ (by omega)]; omega
   go_wp2
   go_roundw
   case rel=>exact ⟨m+1,_,S3,by omega,by go_num,H17.out,HJ'.out,HP'.out,S17.out⟩
   case measure=>simp [intOf]; omega
  ·obtain rfl:m=4:=by omega
   have NWC:=Lib.hid (newest_any w2 wr 10 D T v Z k HT.out HK8.out)
   rw [HP.out.newest,NWT.out] at NWC
   have C17:=Lib.hid ((HS2.out C (ZN.out C LC.out (Array.getElem?_eq_some_iff.1 C8.out).1)).trans C9.out)
   go_wp2_with fail
   refine NWC.out.mono ?_
   rintro e w17 ⟨rfl,b17⟩
   dsimp only [Cel.cells]
   obtain ⟨w18,hw18⟩:∃ w18,w18=w17.alloc (.cells #[.int .i64 X.e,.int .i64 X.n,.string X.d] 30):=⟨_,rfl⟩
   have b18:RowKit.Below wr.heap.size wr w18:=b17.trans ((hw18▸bal w17 _:RowKit.Below w17.heap.size w17 w18).mono b17.size)
   have E18:=Lib.hid (show w18.heap[w17.heap.size]?=some (.cells X.cells 30 (0,0)) from hw18▸heap_alloc_new w17 _)
   have C18:=Lib.hid ((b18.block C (Array.getElem?_eq_some_iff.1 C17.out).1).trans C17.out)
   have BE:=Lib.hid (show RowKit.Below w.heap.size w w18 from (B2.out.trans (HT.out.below.mono B2.out.size)).trans (b18.mono (B2.out.trans (HT.out.below.mono B2.out.size)).size))
   go_upto_region 25 with fail
   rw [← hw18]
   obtain ⟨EB,hEB⟩:∃ V,w17.heap.size=V:=⟨_,rfl⟩
   rw [hEB] at E18 ⊢
   clear hw18 hEB b17 b18 NWC
   cases MO
   ·go_wp2
    go_ret
    exact ⟨rfl,BE.out⟩
   ·have EQ:=fun w=>(eql_cell X X w).trans (show _=Result.ok (.bool true) w from by simp)
    have hgu:=eqg_cell
    go_wp2_with (first | ((with_reducible refine ld_row_g1 30 _ rfl ?_); first | refine ⟨by rfl,EB,_,X.cells,_,rfl,E18.out,cell_row.1,rfl,cell_row.2,?_⟩ | refine ⟨by rfl,C,_,X.cells,_,rfl,C18.out,cell_row.1,rfl,cell_row.2,?_⟩) | ((with_reducible refine bin_g1 .eql 30 _ _ _ rfl ?_); refine ⟨by rfl,X.cells,X.cells,.bool true,rfl,rfl,hgu,EQ,?_⟩))
    go_ret
    exact ⟨rfl,BE.out⟩
end Go.Proofs.YtajegiifabfcjaaGreatDoor
