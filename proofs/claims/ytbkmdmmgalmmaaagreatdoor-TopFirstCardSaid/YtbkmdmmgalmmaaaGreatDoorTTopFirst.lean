/-
  TopFirst: the walk. (Printed in part by gen_first.py.)
-/
import Derived.Test.YtbkmdmmgalmmaaaGreatDoorQ43
import Derived.Test.YtbkmdmmgalmmaaaGreatDoorQ10
namespace Go.Proofs.YtbkmdmmgalmmaaaGreatDoor
open Go.RowKit Go.Sort
theorem first_law {n:Nat} {S:Cel→Prop} {B:Int} {t:Tg} (h:TI n S B t) {c:Cmd} (hf:cmdFault c=0) (hw:(t.ask n c).2.what≠0):∃ x l,t.ask n c=({ t with b:=t.b.set c.who l },⟨⟨#[]⟩,0,x,0⟩)∧1≤x∧x≤4:=by
 cases hb:t.b.get c.who with
 | cons x l =>
  obtain ⟨e,hx⟩:=ask_told (n:=n) h.box hf hb
  exact ⟨x,l,e,hx⟩
 | nil=>exact absurd (ask_what hf hb) hw
set_option maxRecDepth 100000 in
set_option maxHeartbeats 40000000 in
theorem topfirst_walk (l:List Ac) (a:Option Addr) (cap:Nat) (c:Cmd) (w:World) (hl:l.length≤maxLen) (hr:ActsAt w a l) (hs:c.data.size≤maxLen∧c.want.size≤maxLen) (tt:Tabs w) :
  Calls Tryz.prog 3 #[.slice a l.length cap,cmdV c] w fun e w'=>e=.returned (.bool true)∧Below w.heap.size w w':=by
 have TT:=Lib.hid tt
 have HS:=Lib.hid (show c.data.size≤9223372036854775807∧c.want.size≤9223372036854775807 from by unfold maxLen at hs; omega)
 obtain ⟨w1,hw1⟩:∃ w1,w1=w.alloc (.cells #[.int .i64 c.op,.int .i64 c.who,.int .i64 c.key,.int .i64 c.new,.int .i64 c.typ,.int .i64 c.at',.bool c.stays,.string c.data,.string c.want] 24):=⟨_,rfl⟩
 have B1:=Lib.hid (show RowKit.Below w.heap.size w w1 from hw1▸bal w _)
 have R1:=Lib.hid (show w1.heap[w.heap.size]?=some (.cells #[.int .i64 c.op,.int .i64 c.who,.int .i64 c.key,.int .i64 c.new,.int .i64 c.typ,.int .i64 c.at',.bool c.stays,.string c.data,.string c.want] 24 (0,0)) from hw1▸heap_alloc_new w _)
 have HA:=(Array.getElem?_eq_some_iff.1 R1.out).1
 have WK:=Lib.hid (works_any w1 (TT.out.on B1.out))
 have PLAYED:=Lib.hid (fun w' (b:RowKit.Below w.heap.size w w')=>played_any l a cap w' hl (hr.below b) (TT.out.on b))
 clear hr hs tt
 go_enter Tryz.func3,Tryz.ntmps3
 go_upto_region 1 with fail
 rw [← hw1]
 clear hw1
 go_wp2_with fail
 refine WK.out.mono ?_
 rintro e w2 ⟨rfl,b2⟩
 have B2:=Lib.hid (show RowKit.Below w.heap.size w w2 from B1.out.trans (b2.mono B1.out.size))
 have R2:=Lib.hid ((b2.block _ HA).trans R1.out)
 have PL:=Lib.hid (PLAYED.out w2 B2.out)
 obtain ⟨A,hA⟩:∃ A,w.heap.size=A:=⟨_,rfl⟩
 have LA:=Lib.hid (show A<w2.heap.size from by have:=b2.size; omega)
 rw [hA] at R2 ⊢
 clear b2 WK PLAYED R1 B1 HA hA
 go_wp2_with fail
 refine PL.out.mono ?_
 rintro e w3 (⟨rfl,b3⟩ | ⟨D,T,t,S,rfl,h3,j3⟩)
 ·have B3:=Lib.hid (show RowKit.Below w.heap.size w w3 from B2.out.trans (b3.mono B2.out.size))
  clear b3 PL
  go_wp2
  go_ret
  exact ⟨rfl,B3.out⟩
 have H3:=Lib.hid h3
 have J3:=Lib.hid j3
 have R3:=Lib.hid ((h3.below.block A LA.out).trans R2.out)
 have B3:=Lib.hid (show RowKit.Below w.heap.size w w3 from B2.out.trans (h3.below.mono B2.out.size))
 have CK:=Lib.hid (ccheck_any c w3 HS.out)
 clear h3 j3 PL
 obtain ⟨q0,q1,q2,q3,q4,q5,q6,q7,q8⟩:=cells9 R3.out
 go_wp2_with fail
 refine CK.out.mono ?_
 rintro e w4 ⟨rfl,b4⟩
 have B4:=Lib.hid b4
 clear b4 CK q0 q1 q2 q3 q4 q5 q6 q7 q8
 by_cases hf:cmdFault c=0
 case neg =>
  rw [errV_some hf]
  clear hf
  go_wp2
  go_ret
  exact ⟨rfl,B3.out.trans (B4.out.mono B3.out.size)⟩
 rw [hf,errV_nil]
 have HF:=Lib.hid hf
 have RL:=Lib.hid (show t.k.s.regs.length≤1000 from by have:=J3.out.ti.good.regs_len; omega)
 have STA:=Lib.hid (tstate_any w2 w4 10 D T t _ (H3.out.over B4.out) RL.out)
 clear hf
 go_wp2_with fail
 refine STA.out.mono ?_
 rintro e w5 ⟨a5,c5,rfl,hs5,b5,fr5⟩
 obtain ⟨w6,hw6⟩:∃ w6,w6=w5.alloc (.cells #[.int .i64 t.k.s.gen,.slice a5 t.k.s.regs.length c5,.int .i64 t.k.s.typ,.int .i64 t.k.s.holder,.bool t.k.s.stays] 35):=⟨_,rfl⟩
 have b45:RowKit.Below w3.heap.size w3 w5:=B4.out.trans (b5.mono B4.out.size)
 have B6:=Lib.hid (show RowKit.Below w3.heap.size w3 w6 from b45.trans ((hw6▸bal w5 _:RowKit.Below w5.heap.size w5 w6).mono b45.size))
 have HS6:=Lib.hid (show StR w6 t.k.s a5 from hw6▸hs5.below (bal w5 _))
 have V6:=Lib.hid (show w6.heap[w5.heap.size]?=some (.cells #[.int .i64 t.k.s.gen,.slice a5 t.k.s.regs.length c5,.int .i64 t.k.s.typ,.int .i64 t.k.s.holder,.bool t.k.s.stays] 35 (0,0)) from hw6▸heap_alloc_new w5 _)
 have LV:=Lib.hid (show w3.heap.size≤w5.heap.size from b45.size)
 have FR5:=Lib.hid (show ∀ b o,a5=some ⟨b,o,none⟩→w3.heap.size≤b from fun b o e=>Nat.le_trans B4.out.size (fr5 b o e))
 go_upto_region 8 with fail
 rw [← hw6]
 obtain ⟨V,hV⟩:∃ V,w5.heap.size=V:=⟨_,rfl⟩
 rw [hV] at V6 LV ⊢
 clear hw6 hV hs5 b5 fr5 b45 STA
 have GOK:=Lib.hid (show t.g.ok from J3.out.ti.qi.ok)
 have GRP:=Lib.hid (tgroup_any w2 w6 10 D T t _ (H3.out.over B6.out))
 have ZG:=Lib.hid (Gp.size GOK.out)
 obtain ⟨g,hg⟩:∃ g,t.g=g:=⟨_,rfl⟩
 have HG:=Lib.hid hg
 rw [hg] at GRP ZG
 clear hg
 go_wp2_with fail
 refine GRP.out.mono ?_
 rintro e w7 ⟨rfl,b7⟩
 have Z7:=Lib.hid (show (w7.alloc (.cells Tryz.zeroCells45 45)).heap[w7.heap.size]?=some (.cells Gp.zero.arr 45 (0,0)) from gp_zero_arr▸heap_alloc_new w7 _)
 have B7:=Lib.hid b7
 clear b7 GRP
 go_upto_region 9 with ((with_reducible refine st_row1 rfl 45 _ _ rfl ?_); refine ⟨w7.heap.size,_,g.arr,Gp.zero.arr,rfl,rfl,Z7.out,by rw [gp_row.2,ZG.out],by rw [ZG.out]; rfl,Gp.one _,?_⟩)
 obtain ⟨w8,hw8⟩:∃ w8,w8=(w7.alloc (.cells Tryz.zeroCells45 45)).setRow w7.heap.size g.arr:=⟨_,rfl⟩
 rw [← hw8]
 have B8':=Lib.hid (show RowKit.Below w6.heap.size w6 w8 from B7.out.trans ((hw8▸bel_row w7 _ _ _:RowKit.Below w7.heap.size w7 w8).mono B7.out.size))
 have G8:=Lib.hid (show w8.heap[w7.heap.size]?=some (.cells g.arr 45 (0,0)) from hw8▸setRow_heap _ _ _ _ _ _ Z7.out)
 have B8:=Lib.hid (show RowKit.Below w3.heap.size w3 w8 from B6.out.trans (B8'.out.mono B6.out.size))
 have HS8:=Lib.hid (show StR w8 t.k.s a5 from HS6.out.below B8'.out)
 have V8:=Lib.hid ((B8'.out.block V (Array.getElem?_eq_some_iff.1 V6.out).1).trans V6.out)
 have LU:=Lib.hid (show w3.heap.size≤w7.heap.size from Nat.le_trans B6.out.size B7.out.size)
 obtain ⟨U,hU⟩:∃ U,w7.heap.size=U:=⟨_,rfl⟩
 rw [hU] at G8 LU ⊢
 clear hw8 hU Z7 B7 V6 HS6 B6 B8'
 have FL:=Lib.hid (show t.fly.length≤1000 from by have:=J3.out.ti.fl; omega)
 have FLY:=Lib.hid (tflying_any w2 w8 10 D T t _ (H3.out.over B8.out) FL.out)
 go_wp2_with fail
 refine FLY.out.mono ?_
 rintro e w9 ⟨v9,rfl,o9,b9⟩
 obtain ⟨fa,fc,rfl⟩:=o9.shape
 have O9:=Lib.hid o9
 have B9:=Lib.hid (show RowKit.Below w3.heap.size w3 w9 from B8.out.trans (b9.mono B8.out.size))
 have HS9:=Lib.hid (show StR w9 t.k.s a5 from HS8.out.below b9)
 have V9:=Lib.hid ((b9.block V (Array.getElem?_eq_some_iff.1 V8.out).1).trans V8.out)
 have G9:=Lib.hid ((b9.block U (Array.getElem?_eq_some_iff.1 G8.out).1).trans G8.out)
 have OL:=Lib.hid (show ∀ b,(Value.slice fa t.fly.length fc).ownBlock=some b→w3.heap.size≤b∧b<w9.heap.size from fun b e=>by
  have:=World.ownsRow.lt o9 b e
  have:=B8.out.size
  omega)
 have R9:=Lib.hid ((B9.out.block A (Nat.lt_of_lt_of_le LA.out H3.out.below.size)).trans R3.out)
 clear o9 b9 FLY V8 G8 HS8 B8 R3
 obtain ⟨Z,hZ⟩:∃ Z:Nat→Prop,Z=fun c=>(fun _=>False) c∨(w3.heap.size≤c∧c<w9.heap.size):=⟨_,rfl⟩
 have H9:=Lib.hid (show TgR w2 10 D T t Z w9 from hZ▸H3.out.more B9.out)
 have ZN:=Lib.hid (show ∀ b,w3.heap.size≤b→b<w9.heap.size→Z b from fun b h1 h2=>hZ▸Or.inr ⟨h1,h2⟩)
 clear hZ
 have ASK:=Lib.hid (task_any w2 w9 10 D T t Z S _ c H9.out J3.out (by omega) HS.out (TT.out.on B2.out))
 have LAW:=Lib.hid (fun h=>first_law J3.out.ti HF.out h)
 obtain ⟨r,hr⟩:∃ r,t.ask 10 c=r:=⟨_,rfl⟩
 rw [hr] at ASK LAW
 clear hr
 obtain ⟨q0,q1,q2,q3,q4,q5,q6,q7,q8⟩:=cells9 R9.out
 go_wp2_with fail
 refine ASK.out.mono ?_
 rintro e w10 ⟨rfl,h10,s10⟩
 dsimp only
 have H10:=Lib.hid h10
 have S10:=Lib.hid s10
 clear h10 s10 ASK q0 q1 q2 q3 q4 q5 q6 q7 q8
 have BW:=Lib.hid (show RowKit.Below w.heap.size w w10 from B2.out.trans (H10.out.below.mono B2.out.size))
 by_cases hw:r.2.what=0
 ·go_wp2
  go_ret
  exact ⟨rfl,BW.out⟩
 obtain ⟨x,bl,rfl,hx1,hx4⟩:=LAW.out hw
 clear hw LAW
 dsimp only at H10 ⊢
 rw [errV_nil]
 have LVV:=Lib.hid (Array.getElem?_eq_some_iff.1 V9.out).1
 have V10:=Lib.hid ((S10.out V (ZN.out V LV.out (Array.getElem?_eq_some_iff.1 V9.out).1)).trans V9.out)
 have G10:=Lib.hid ((S10.out U (ZN.out U LU.out (Array.getElem?_eq_some_iff.1 G9.out).1)).trans G9.out)
 have HS10:=Lib.hid (show StR w10 t.k.s a5 from HS9.out.same S10.out (fun b hb=>H10.out.lt_y b hb) (fun b o e hne=>ZN.out b (FR5.out b o e) (by
  have hs:=HS9.out
  rw [e] at hs
  exact StR.blt hs hne)))
 have O10:=Lib.hid (show OwnM w8.heap.size w10 (.slice fa t.fly.length fc) t.fly from ownsRow_same O9.out (fun b e=>S10.out b (ZN.out b (OL.out b e).1 (OL.out b e).2)))
 obtain ⟨t',ht'⟩:∃ t',({ t with b:=t.b.set c.who bl }:Tg)=t':=⟨_,rfl⟩
 have T':=Lib.hid (show t'.k=t.k∧t'.g=g∧t'.fly=t.fly from by rw [← ht']; exact ⟨rfl,HG.out,rfl⟩)
 rw [ht'] at H10
 have STA:=Lib.hid (fun w' (b:RowKit.Below w10.heap.size w10 w')=>tstate_any w2 w' 10 D T t' Z (H10.out.over b) (by rw [T'.out.1]; exact RL.out))
 have GRP:=Lib.hid (fun w' (b:RowKit.Below w10.heap.size w10 w')=>tgroup_any w2 w' 10 D T t' Z (H10.out.over b))
 have FLY:=Lib.hid (fun w' (b:RowKit.Below w10.heap.size w10 w')=>tflying_any w2 w' 10 D T t' Z (H10.out.over b) (by rw [T'.out.2.2]; exact FL.out))
 rw [T'.out.1] at STA
 rw [T'.out.2.1] at GRP
 rw [T'.out.2.2] at FLY
 have SAME:=Lib.hid (show ∀ w' x y,RowKit.Below w10.heap.size w10 w'→StR w' t.k.s x→Calls Tryz.prog 12 #[stV t.k.s x y,stV t.k.s a5 c5] w' fun e w''=>e=.returned (.bool true)∧RowKit.Below w'.heap.size w' w'' from fun w' x y b h=>samestate_true t.k.s x a5 y c5 w' h (HS10.out.below b))
 have VC:=Lib.hid (fun w' (b:RowKit.Below w10.heap.size w10 w')=>(cells5 ((b.block V (Array.getElem?_eq_some_iff.1 V10.out).1).trans V10.out)).1)
 have GR:=Lib.hid (fun w' (b:RowKit.Below w10.heap.size w10 w')=>range_of ((b.block U (Array.getElem?_eq_some_iff.1 G10.out).1).trans G10.out))
 have OKG:=Lib.hid (show g.ok from HG.out▸GOK.out)
 have EQG:=Lib.hid (show ∀ w,(binOp .eql 45 (.agg g.arr) (.agg g.arr)).run Tryz.prog w=.ok (.bool true) w from fun w=>(eql_gp OKG.out OKG.out w).trans (by rw [decide_eq_true rfl]))
 have OB:=Lib.hid (fun w' (b:RowKit.Below w10.heap.size w10 w')=>show OwnM w8.heap.size w' (.slice fa t.fly.length fc) t.fly from ownsRow_same O10.out (fun c e=>b.block c (Nat.lt_of_lt_of_le (OL.out c e).2 (by
  rcases Nat.lt_or_ge w10.heap.size w9.heap.size with h | h
  ·exact absurd (H10.out.lt_y (w9.heap.size - 1) (ZN.out _ (by have:=(OL.out c e); omega) (by have:=(OL.out c e).2; omega))) (by omega)
  ·exact h))))
 have t1:decide ((1:Int)≤x)=true:=decide_eq_true hx1
 have t2:decide (x≤(4:Int))=true:=decide_eq_true hx4
 clear ht' V10 G10 HS10 O10 V9 G9 HS9 O9 OL LVV R9 H9 J3 H3 B9 B4
 go_upto_region 13 with fail
 obtain ⟨S',hS⟩:∃ S':World→Prop,S'=fun w'=>RowKit.Below w10.heap.size w10 w':=⟨_,rfl⟩
 have S3:∀ w',RowKit.Below w10.heap.size w10 w'→S' w':=fun w' h=>by rw [hS]; exact h
 have S4:∀ w',S' w'→RowKit.Below w10.heap.size w10 w':=fun w' h=>by rw [hS] at h; exact h
 clear hS
 refine wp_region_held_drew (S:=S') (by kernel_rfl) (S3 _ (Below.refl _ _).drew) (fun hHeld=>?_)
 obtain ⟨wd,hwd⟩:∃ wd,wd=w10.drew:=⟨_,rfl⟩
 rw [← hwd] at hHeld ⊢
 clear hwd
 refine wpAnyH_take (i:=0) (oi:=_) (v:=.nilIface) rfl (by kernel_rfl) (by kernel_rfl) (by kernel_rfl) (fun _ _ _ h=>h) (Or.inl ⟨by rfl,fun w' hSw=>by go_simp⟩) hHeld ?_
 simp only [Act.put,List.getElem_toArray,List.getElem_cons_zero,List.setIfInBounds_toArray,List.set_cons_zero,List.set_cons_succ]
 refine wpAnyH_take (i:=1) (oi:=_) (v:=.bool true) rfl (by kernel_rfl) (by kernel_rfl) (by kernel_rfl) (fun _ _ _ h=>h) (Or.inl ⟨by rfl,fun w' hSw=>by go_simp⟩) hHeld ?_
 simp only [Act.put,List.getElem_toArray,List.getElem_cons_zero,List.getElem_cons_succ,List.setIfInBounds_toArray,List.set_cons_zero,List.set_cons_succ]
 refine wpAnyH_take (i:=2) (oi:=_) (v:=.bool true) rfl (by kernel_rfl) (by kernel_rfl) (by kernel_rfl) (fun _ _ _ h=>h) (Or.inl ⟨by rfl,fun w' hSw=>by go_simp⟩) hHeld ?_
 simp only [Act.put,List.getElem_toArray,List.getElem_cons_zero,List.getElem_cons_succ,List.setIfInBounds_toArray,List.set_cons_zero,List.set_cons_succ]
 refine wpAnyH_take (i:=3) (oi:=_) (v:=.string ⟨#[]⟩) rfl (by kernel_rfl) (by kernel_rfl) (by kernel_rfl) (fun _ _ _ h=>h) (Or.inl ⟨by rfl,fun w' hSw=>by go_simp⟩) hHeld ?_
 simp only [Act.put,List.getElem_toArray,List.getElem_cons_zero,List.getElem_cons_succ,List.setIfInBounds_toArray,List.set_cons_zero,List.set_cons_succ]
 refine wpAnyH_take (i:=4) (oi:=_) (v:=.bool true) rfl (by kernel_rfl) (by kernel_rfl) (by kernel_rfl) (fun _ _ _ h=>h) (Or.inl ⟨by rfl,fun w' hSw=>by go_simp⟩) hHeld ?_
 simp only [Act.put,List.getElem_toArray,List.getElem_cons_zero,List.getElem_cons_succ,List.setIfInBounds_toArray,List.set_cons_zero,List.set_cons_succ]
 refine wpAnyH_take (i:=5) (oi:=_) (v:=.bool true) rfl (by kernel_rfl) (by kernel_rfl) (by kernel_rfl) (fun _ _ _ h=>h) (Or.inl ⟨by rfl,fun w' hSw=>by go_simp⟩) hHeld ?_
 simp only [Act.put,List.getElem_toArray,List.getElem_cons_zero,List.getElem_cons_succ,List.setIfInBounds_toArray,List.set_cons_zero,List.set_cons_succ]
 refine wpAnyH_take (i:=6) (oi:=_) (v:=.bool true) rfl (by kernel_rfl) (by kernel_rfl) (by kernel_rfl) (fun _ _ _ h=>h) (Or.inl ⟨by rfl,fun w' hSw=>by go_simp⟩) hHeld ?_
 simp only [Act.put,List.getElem_toArray,List.getElem_cons_zero,List.getElem_cons_succ,List.setIfInBounds_toArray,List.set_cons_zero,List.set_cons_succ]
 refine wpAnyH_take (i:=7) (oi:=_) (v:=.int .i64 0) rfl (by kernel_rfl) (by kernel_rfl) (by kernel_rfl) (fun _ _ _ h=>h) (Or.inl ⟨by rfl,fun w' hSw=>by go_simp⟩) hHeld ?_
 simp only [Act.put,List.getElem_toArray,List.getElem_cons_zero,List.getElem_cons_succ,List.setIfInBounds_toArray,List.set_cons_zero,List.set_cons_succ]
 refine wpAnyH_take (i:=8) (oi:=_) (v:=.bool true) rfl (by kernel_rfl) (by kernel_rfl) (by kernel_rfl) (fun _ _ _ h=>h) (Or.inl ⟨by rfl,fun w' hSw=>by go_simp⟩) hHeld ?_
 simp only [Act.put,List.getElem_toArray,List.getElem_cons_zero,List.getElem_cons_succ,List.setIfInBounds_toArray,List.set_cons_zero,List.set_cons_succ]
 refine wpAnyH_take (i:=9) (oi:=_) (v:=.bool true) rfl (by kernel_rfl) (by kernel_rfl) (by kernel_rfl) (fun _ _ _ h=>h) (Or.inl ⟨by rfl,fun w' hSw=>by go_simp⟩) hHeld ?_
 simp only [Act.put,List.getElem_toArray,List.getElem_cons_zero,List.getElem_cons_succ,List.setIfInBounds_toArray,List.set_cons_zero,List.set_cons_succ]
 refine wpAnyH_take (i:=10) (oi:=_) (v:=.bool true) rfl (by kernel_rfl) (by kernel_rfl) (by kernel_rfl) (fun _ _ _ h=>h) (Or.inl ⟨by rfl,fun w' hSw=>by go_simp⟩) hHeld ?_
 simp only [Act.put,List.getElem_toArray,List.getElem_cons_zero,List.getElem_cons_succ,List.setIfInBounds_toArray,List.set_cons_zero,List.set_cons_succ]
 refine wpAnyH_take (i:=11) (oi:=_) (v:=.int .i64 x) rfl (by kernel_rfl) (by kernel_rfl) (by kernel_rfl) (fun _ _ _ h=>h) (Or.inl ⟨by rfl,fun w' hSw=>by go_simp⟩) hHeld ?_
 simp only [Act.put,List.getElem_toArray,List.getElem_cons_zero,List.getElem_cons_succ,List.setIfInBounds_toArray,List.set_cons_zero,List.set_cons_succ]
 refine wpAnyH_take (i:=12) (oi:=_) (v:=.bool true) rfl (by kernel_rfl) (by kernel_rfl) (by kernel_rfl) (fun _ _ _ h=>h) (Or.inl ⟨by rfl,fun w' hSw=>by go_simp⟩) hHeld ?_
 simp only [Act.put,List.getElem_toArray,List.getElem_cons_zero,List.getElem_cons_succ,List.setIfInBounds_toArray,List.set_cons_zero,List.set_cons_succ]
 refine wpAnyH_take (i:=13) (oi:=_) (v:=.bool true) rfl (by kernel_rfl) (by kernel_rfl) (by kernel_rfl) (fun _ _ _ h=>h) (Or.inl ⟨by rfl,fun w' hSw=>by go_simp⟩) hHeld ?_
 simp only [Act.put,List.getElem_toArray,List.getElem_cons_zero,List.getElem_cons_succ,List.setIfInBounds_toArray,List.set_cons_zero,List.set_cons_succ]
 refine wpAnyH_take (i:=14) (oi:=_) (v:=.bool true) rfl (by kernel_rfl) (by kernel_rfl) (by kernel_rfl) (fun _ _ _ h=>h) (Or.inl ⟨by rfl,fun w' hSw=>by go_simp⟩) hHeld ?_
 simp only [Act.put,List.getElem_toArray,List.getElem_cons_zero,List.getElem_cons_succ,List.setIfInBounds_toArray,List.set_cons_zero,List.set_cons_succ]
 refine wpAnyH_take (i:=15) (oi:=_) (v:=.int .i64 x) rfl (by kernel_rfl) (by kernel_rfl) (by kernel_rfl) (fun _ _ _ h=>h) (Or.inl ⟨by rfl,fun w' hSw=>by go_simp⟩) hHeld ?_
 simp only [Act.put,List.getElem_toArray,List.getElem_cons_zero,List.getElem_cons_succ,List.setIfInBounds_toArray,List.set_cons_zero,List.set_cons_succ]
 refine wpAnyH_take (i:=16) (oi:=_) (v:=.bool true) rfl (by kernel_rfl) (by kernel_rfl) (by kernel_rfl) (fun _ _ _ h=>h) (Or.inl ⟨by rfl,fun w' hSw=>by go_simp⟩) hHeld ?_
 simp only [Act.put,List.getElem_toArray,List.getElem_cons_zero,List.getElem_cons_succ,List.setIfInBounds_toArray,List.set_cons_zero,List.set_cons_succ]
 refine wpAnyH_take (i:=17) (oi:=_) (v:=.bool true) rfl (by kernel_rfl) (by kernel_rfl) (by kernel_rfl) (fun _ _ _ h=>h) (Or.inl ⟨by rfl,fun w' hSw=>by go_simp⟩) hHeld ?_
 simp only [Act.put,List.getElem_toArray,List.getElem_cons_zero,List.getElem_cons_succ,List.setIfInBounds_toArray,List.set_cons_zero,List.set_cons_succ]
 refine wpAnyH_take (i:=18) (oi:=_) (v:=.bool true) rfl (by kernel_rfl) (by kernel_rfl) (by kernel_rfl) (fun _ _ _ h=>h) (Or.inl ⟨by rfl,fun w' hSw=>by go_simp⟩) hHeld ?_
 simp only [Act.put,List.getElem_toArray,List.getElem_cons_zero,List.getElem_cons_succ,List.setIfInBounds_toArray,List.set_cons_zero,List.set_cons_succ]
 refine wpAnyH_take (i:=19) (oi:=_) (v:=.pointer (some ⟨T,0,none⟩)) rfl (by kernel_rfl) (by kernel_rfl) (by kernel_rfl) (fun _ _ _ h=>h) (Or.inl ⟨by rfl,fun w' hSw=>by go_simp⟩) hHeld ?_
 simp only [Act.put,List.getElem_toArray,List.getElem_cons_zero,List.getElem_cons_succ,List.setIfInBounds_toArray,List.set_cons_zero,List.set_cons_succ]
 refine wpAnyH_take (i:=21) (oi:=_) (v:=stV t.k.s a5 c5) rfl (by kernel_rfl) (by kernel_rfl) (by kernel_rfl) (fun _ _ _ h=>h) (Or.inl ⟨by rfl,fun w' hSw=>by obtain ⟨q0,q1,q2,q3,q4⟩:=VC.out w' (S4 w' hSw); go_simp⟩) hHeld ?_
 simp only [Act.put,List.getElem_toArray,List.getElem_cons_zero,List.getElem_cons_succ,List.setIfInBounds_toArray,List.set_cons_zero,List.set_cons_succ]
 refine wpAnyH_ready (rs:=[20]) (by kernel_rfl) (by simp) ?_
 refine AllReadyH.cons (o:=_) rfl (fun Kx hK=>?_) AllReadyH.nil
 go_simp
 refine (STA.out _ (S4 _ hHeld)).mono ?_
 rintro e w1_ ⟨x1,y1,rfl,hs1,b1,fr1⟩
 have HS1:=Lib.hid hs1
 have HH1:=S3 _ ((S4 _ hHeld).trans (b1.mono (S4 _ hHeld).size))
 clear hs1 b1 fr1
 refine hK.out _ _ HH1 (fun hHeld1=>?_)
 clear hK Kx HH1
 refine wpAnyH_ready (rs:=[22]) (by kernel_rfl) (by simp) ?_
 refine AllReadyH.cons (o:=_) rfl (fun Kx hK=>?_) AllReadyH.nil
 go_simp
 refine (SAME.out _ _ _ (S4 _ hHeld1) HS1.out).mono ?_
 rintro e w2_ ⟨rfl,b2⟩
 have HH2:=S3 _ ((S4 _ hHeld1).trans (b2.mono (S4 _ hHeld1).size))
 clear b2
 refine hK.out _ _ HH2 (fun hHeld2=>?_)
 clear hK Kx HH2
 refine wpAnyH_take (i:=23) (oi:=_) (v:=.bool true) rfl (by kernel_rfl) (by kernel_rfl) (by kernel_rfl) (fun _ _ _ h=>h) (Or.inl ⟨by rfl,fun w' hSw=>by go_simp⟩) hHeld2 ?_
 simp only [Act.put,List.getElem_toArray,List.getElem_cons_zero,List.getElem_cons_succ,List.setIfInBounds_toArray,List.set_cons_zero,List.set_cons_succ]
 refine wpAnyH_take (i:=24) (oi:=_) (v:=.bool true) rfl (by kernel_rfl) (by kernel_rfl) (by kernel_rfl) (fun _ _ _ h=>h) (Or.inl ⟨by rfl,fun w' hSw=>by go_simp⟩) hHeld2 ?_
 simp only [Act.put,List.getElem_toArray,List.getElem_cons_zero,List.getElem_cons_succ,List.setIfInBounds_toArray,List.set_cons_zero,List.set_cons_succ]
 refine wpAnyH_take (i:=25) (oi:=_) (v:=.pointer (some ⟨T,0,none⟩)) rfl (by kernel_rfl) (by kernel_rfl) (by kernel_rfl) (fun _ _ _ h=>h) (Or.inl ⟨by rfl,fun w' hSw=>by go_simp⟩) hHeld2 ?_
 simp only [Act.put,List.getElem_toArray,List.getElem_cons_zero,List.getElem_cons_succ,List.setIfInBounds_toArray,List.set_cons_zero,List.set_cons_succ]
 refine wpAnyH_take (i:=27) (oi:=_) (v:=.agg g.arr) rfl (by kernel_rfl) (by kernel_rfl) (by kernel_rfl) (fun _ _ _ h=>h) (yieldsIf_load_midA (by rfl) 45 _ rfl U 0 rfl g.arr _ (fun w' h=>GR.out w' (S4 w' h)) gp_row.1 rfl (by rw [gp_row.2,ZG.out])) hHeld2 ?_
 simp only [Act.put,List.getElem_toArray,List.getElem_cons_zero,List.getElem_cons_succ,List.setIfInBounds_toArray,List.set_cons_zero,List.set_cons_succ]
 refine wpAnyH_ready (rs:=[26]) (by kernel_rfl) (by simp) ?_
 refine AllReadyH.cons (o:=_) rfl (fun Kx hK=>?_) AllReadyH.nil
 go_simp
 refine (GRP.out _ (S4 _ hHeld2)).mono ?_
 rintro e w3_ ⟨rfl,b3⟩
 have HH3:=S3 _ ((S4 _ hHeld2).trans (b3.mono (S4 _ hHeld2).size))
 clear b3
 refine hK.out _ _ HH3 (fun hHeld3=>?_)
 clear hK Kx HH3
 refine wpAnyH_take (i:=28) (oi:=_) (v:=.bool true) rfl (by kernel_rfl) (by kernel_rfl) (by kernel_rfl) (fun _ _ _ h=>h) (yieldsIf_bin (by rfl) .eql 45 _ _ _ rfl g.arr g.arr rfl rfl eqg_gp _ EQG.out) hHeld3 ?_
 simp only [Act.put,List.getElem_toArray,List.getElem_cons_zero,List.getElem_cons_succ,List.setIfInBounds_toArray,List.set_cons_zero,List.set_cons_succ]
 refine wpAnyH_take (i:=29) (oi:=_) (v:=.bool true) rfl (by kernel_rfl) (by kernel_rfl) (by kernel_rfl) (fun _ _ _ h=>h) (Or.inl ⟨by rfl,fun w' hSw=>by go_simp⟩) hHeld3 ?_
 simp only [Act.put,List.getElem_toArray,List.getElem_cons_zero,List.getElem_cons_succ,List.setIfInBounds_toArray,List.set_cons_zero,List.set_cons_succ]
 refine wpAnyH_take (i:=30) (oi:=_) (v:=.bool true) rfl (by kernel_rfl) (by kernel_rfl) (by kernel_rfl) (fun _ _ _ h=>h) (Or.inl ⟨by rfl,fun w' hSw=>by go_simp⟩) hHeld3 ?_
 simp only [Act.put,List.getElem_toArray,List.getElem_cons_zero,List.getElem_cons_succ,List.setIfInBounds_toArray,List.set_cons_zero,List.set_cons_succ]
 refine wpAnyH_take (i:=31) (oi:=_) (v:=.pointer (some ⟨T,0,none⟩)) rfl (by kernel_rfl) (by kernel_rfl) (by kernel_rfl) (fun _ _ _ h=>h) (Or.inl ⟨by rfl,fun w' hSw=>by go_simp⟩) hHeld3 ?_
 simp only [Act.put,List.getElem_toArray,List.getElem_cons_zero,List.getElem_cons_succ,List.setIfInBounds_toArray,List.set_cons_zero,List.set_cons_succ]
 refine wpAnyH_take (i:=33) (oi:=_) (v:=.slice fa t.fly.length fc) rfl (by kernel_rfl) (by kernel_rfl) (by kernel_rfl) (fun _ _ _ h=>h) (Or.inl ⟨by rfl,fun w' hSw=>by go_simp⟩) hHeld3 ?_
 simp only [Act.put,List.getElem_toArray,List.getElem_cons_zero,List.getElem_cons_succ,List.setIfInBounds_toArray,List.set_cons_zero,List.set_cons_succ]
 refine wpAnyH_ready (rs:=[32]) (by kernel_rfl) (by simp) ?_
 refine AllReadyH.cons (o:=_) rfl (fun Kx hK=>?_) AllReadyH.nil
 go_simp
 refine (FLY.out _ (S4 _ hHeld3)).mono ?_
 rintro e w4_ ⟨v4,rfl,o4,b4⟩
 obtain ⟨f4,k4,rfl⟩:=o4.shape
 have O4:=Lib.hid o4
 have OB4:=Lib.hid (S4 _ hHeld3).size
 have HH4:=S3 _ ((S4 _ hHeld3).trans (b4.mono (S4 _ hHeld3).size))
 clear o4 b4
 refine hK.out _ _ HH4 (fun hHeld4=>?_)
 clear hK Kx HH4
 refine wpAnyH_ready (rs:=[34]) (by kernel_rfl) (by simp) ?_
 refine AllReadyH.cons (o:=_) rfl (fun Kx hK=>?_) AllReadyH.nil
 go_simp
 refine (samemsgs_true _ _ t.fly _ _ _ _ _ FL.out O4.out (OB.out _ (S4 _ hHeld4))).mono ?_
 rintro e w5_ ⟨rfl,b5⟩
 have HH5:=S3 _ ((S4 _ hHeld4).trans (b5.mono (S4 _ hHeld4).size))
 clear b5
 refine hK.out _ _ HH5 (fun hHeld5=>?_)
 clear hK Kx HH5
 refine wpAnyH_take (i:=35) (oi:=_) (v:=.bool true) rfl (by kernel_rfl) (by kernel_rfl) (by kernel_rfl) (fun _ _ _ h=>h) (Or.inl ⟨by rfl,fun w' hSw=>by go_simp⟩) hHeld5 ?_
 simp only [Act.put,List.getElem_toArray,List.getElem_cons_zero,List.getElem_cons_succ,List.setIfInBounds_toArray,List.set_cons_zero,List.set_cons_succ]
 refine wpAnyH_ready (rs:=[36]) (by kernel_rfl) (by simp) ?_
 refine AllReadyH.cons (o:=_) rfl (fun Kx hK=>?_) AllReadyH.nil
 go_simp
 have HH6:=hHeld5
 refine hK.out _ _ HH6 (fun hHeld6=>?_)
 clear hK Kx HH6
 refine wpAnyH_done (by kernel_rfl) ?_ _
 have BE:=Lib.hid (show RowKit.Below w.heap.size w _ from BW.out.trans ((S4 _ hHeld6).mono BW.out.size))
 clear S3 S4
 go_wp2
 go_ret
 exact ⟨rfl,BE.out⟩
end Go.Proofs.YtbkmdmmgalmmaaaGreatDoor
