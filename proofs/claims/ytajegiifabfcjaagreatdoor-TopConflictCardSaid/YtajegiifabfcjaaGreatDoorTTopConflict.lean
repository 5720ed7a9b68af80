/-
  TopConflict: the walk. (Printed in part by gen_conf.py.)
-/
import Derived.Test.YtajegiifabfcjaaGreatDoorTTgK
import Derived.Test.YtajegiifabfcjaaGreatDoorTTgEq
import Derived.Test.YtajegiifabfcjaaGreatDoorQ10
import Derived.Test.YtajegiifabfcjaaGreatDoorTConfP
namespace Go.Proofs.YtajegiifabfcjaaGreatDoor
open List (getElem_toArray getElem_cons_zero getElem_cons_succ setIfInBounds_toArray set_cons_zero set_cons_succ)
open Go.RowKit Go.Sort
set_option maxRecDepth 100000 in
set_option maxHeartbeats 40000000 in
theorem topconflict_walk (l:List Ac) (a:Option Addr) (cap:Nat) (c:Cmd) (w:World) (hl:l.length≤maxLen) (hr:ActsAt w a l) (hs:c.data.size≤maxLen∧c.want.size≤maxLen) (tt:Tabs w) :
  Calls Tryz.prog 7 #[.slice a l.length cap,cmdV c] w fun e w'=>e=.returned (.bool true)∧Below w.heap.size w w':=by
 have TT:=Lib.hid tt
 have HS:=Lib.hid (show c.data.size≤9223372036854775807∧c.want.size≤9223372036854775807 from by unfold maxLen at hs; omega)
 obtain ⟨w1,hw1⟩:∃ w1,w1=w.alloc (.cells #[.int .i64 c.op,.int .i64 c.who,.int .i64 c.key,.int .i64 c.new,.int .i64 c.typ,.int .i64 c.at',.bool c.stays,.string c.data,.string c.want] 37):=⟨_,rfl⟩
 have B1:=Lib.hid (show RowKit.Below w.heap.size w w1 from hw1▸bal w _)
 have R1:=Lib.hid (show w1.heap[w.heap.size]?=some (.cells #[.int .i64 c.op,.int .i64 c.who,.int .i64 c.key,.int .i64 c.new,.int .i64 c.typ,.int .i64 c.at',.bool c.stays,.string c.data,.string c.want] 37 (0,0)) from hw1▸heap_alloc_new w _)
 have HA:=(Array.getElem?_eq_some_iff.1 R1.out).1
 have WK:=Lib.hid (works_any w1 (TT.out.on B1.out))
 have PLAYED:=Lib.hid (fun w' (b:RowKit.Below w.heap.size w w')=>played_any l a cap w' hl (hr.below b) (TT.out.on b))
 clear hr hs tt
 go_enter Tryz.func7,Tryz.ntmps7
 go_upto_region 1 with fail
 rw [← hw1]
 clear hw1
 go_wp2_with fail
 refine WK.out.mono ?_
 rintro e w2 ⟨rfl,b2⟩
 have B2:=Lib.hid (show RowKit.Below w.heap.size w w2 from B1.out.trans (b2.mono B1.out.size))
 have R2:=Lib.hid ((b2.block _ HA).trans R1.out)
 have PL:=Lib.hid (PLAYED.out w2 B2.out)
 obtain ⟨A,hA⟩:∃ A,w.heap.size=A:=⟨_,rfl⟩
 have LA:=Lib.hid (show A<w2.heap.size from by have:=b2.size; omega)
 rw [hA] at R2 ⊢
 clear b2 WK PLAYED R1 B1 HA hA
 go_wp2_with fail
 refine PL.out.mono ?_
 rintro e w3 (⟨rfl,b3⟩ | ⟨D,T,t,S,rfl,h3,j3⟩)
 ·have B3:=Lib.hid (show RowKit.Below w.heap.size w w3 from B2.out.trans (b3.mono B2.out.size))
  clear b3 PL
  go_wp2
  go_ret
  exact ⟨rfl,B3.out⟩
 have H3:=Lib.hid h3
 have J3:=Lib.hid j3
 have R3:=Lib.hid ((h3.below.block A LA.out).trans R2.out)
 have B3:=Lib.hid (show RowKit.Below w.heap.size w w3 from B2.out.trans (h3.below.mono B2.out.size))
 have CK:=Lib.hid (ccheck_any c w3 HS.out)
 clear h3 j3 PL
 obtain ⟨q0,q1,q2,q3,q4,q5,q6,q7,q8⟩:=cells9 R3.out
 go_wp2_with fail
 refine CK.out.mono ?_
 rintro e w4 ⟨rfl,b4⟩
 have B4:=Lib.hid b4
 have R4:=Lib.hid ((b4.block A (Nat.lt_of_lt_of_le LA.out H3.out.below.size)).trans R3.out)
 clear b4 CK
 clear q0 q1 q2 q3 q4 q5 q6 q7 q8 R3
 by_cases hf:cmdFault c=0
 case neg =>
  rw [errV_some hf]
  clear hf
  go_wp2
  go_ret
  exact ⟨rfl,B3.out.trans (B4.out.mono B3.out.size)⟩
 rw [hf,errV_nil]
 have HF:=Lib.hid hf
 clear hf
 obtain ⟨q0,q1,q2,q3,q4,q5,q6,q7,q8⟩:=cells9 R4.out
 by_cases hop:c.op<7
 ·go_wp2
  go_ret
  exact ⟨rfl,B3.out.trans (B4.out.mono B3.out.size)⟩
 have HOP:=Lib.hid (show 7≤c.op from by omega)
 have RL:=Lib.hid (show t.k.s.regs.length≤1000 from by have:=J3.out.ti.good.regs_len; omega)
 have STA:=Lib.hid (tstate_any w2 w4 10 D T t _ (H3.out.over B4.out) RL.out)
 go_wp2_with fail
 refine STA.out.mono ?_
 rintro e w5 ⟨a5,c5,rfl,hs5,b5,fr5⟩
 obtain ⟨w6,hw6⟩:∃ w6,w6=w5.alloc (.cells #[.int .i64 t.k.s.gen,.slice a5 t.k.s.regs.length c5,.int .i64 t.k.s.typ,.int .i64 t.k.s.holder,.bool t.k.s.stays] 35):=⟨_,rfl⟩
 have b45:RowKit.Below w3.heap.size w3 w5:=B4.out.trans (b5.mono B4.out.size)
 have B6:=Lib.hid (show RowKit.Below w3.heap.size w3 w6 from b45.trans ((hw6▸bal w5 _:RowKit.Below w5.heap.size w5 w6).mono b45.size))
 have HS6:=Lib.hid (show StR w6 t.k.s a5 from hw6▸hs5.below (bal w5 _))
 have V6:=Lib.hid (show w6.heap[w5.heap.size]?=some (.cells #[.int .i64 t.k.s.gen,.slice a5 t.k.s.regs.length c5,.int .i64 t.k.s.typ,.int .i64 t.k.s.holder,.bool t.k.s.stays] 35 (0,0)) from hw6▸heap_alloc_new w5 _)
 have LV:=Lib.hid (show w3.heap.size≤w5.heap.size from b45.size)
 have FR5:=Lib.hid (show ∀ b o,a5=some ⟨b,o,none⟩→w3.heap.size≤b from fun b o e=>Nat.le_trans B4.out.size (fr5 b o e))
 go_upto_region 8 with fail
 rw [← hw6]
 obtain ⟨V,hV⟩:∃ V,w5.heap.size=V:=⟨_,rfl⟩
 rw [hV] at V6 LV ⊢
 clear hw6 hV hs5 b5 fr5 b45 STA q0 q1 q2 q3 q4 q5 q6 q7 q8 hop
 have FL:=Lib.hid (show t.fly.length≤1000 from by have:=J3.out.ti.fl; omega)
 have FLY:=Lib.hid (tflying_any w2 w6 10 D T t _ (H3.out.over B6.out) FL.out)
 go_wp2_with fail
 refine FLY.out.mono ?_
 rintro e w9 ⟨v9,rfl,o9,b9⟩
 obtain ⟨fa,fc,rfl⟩:=o9.shape
 have O9:=Lib.hid o9
 have B9:=Lib.hid (show RowKit.Below w3.heap.size w3 w9 from B6.out.trans (b9.mono B6.out.size))
 have HS9:=Lib.hid (show StR w9 t.k.s a5 from HS6.out.below b9)
 have V9:=Lib.hid ((b9.block V (Array.getElem?_eq_some_iff.1 V6.out).1).trans V6.out)
 have OL9:=Lib.hid (show ∀ b,(Value.slice fa t.fly.length fc).ownBlock=some b→w3.heap.size≤b∧b<w9.heap.size from fun b e=>by
  have:=World.ownsRow.lt o9 b e
  have:=B6.out.size
  omega)
 have R9:=Lib.hid ((B9.out.block A (Nat.lt_of_lt_of_le LA.out H3.out.below.size)).trans ((H3.out.below.block A LA.out).trans R2.out))
 clear o9 b9 FLY V6 HS6 B6 R4
 obtain ⟨q0,q1,q2,q3,q4,q5,q6,q7,q8⟩:=cells9 R9.out
 obtain ⟨⟨v0,v1,v2,v3,v4⟩,-⟩:=cells5 V9.out
 have MAY:=Lib.hid (fun wb=>may_any t.k.s a5 c5 c.who wb w9 HS9.out)
 go_wp2_with fail
 refine (MAY.out _).mono ?_
 rintro e w10 ⟨rfl,b10⟩
 have B10:=Lib.hid (show RowKit.Below w3.heap.size w3 w10 from B9.out.trans (b10.mono B9.out.size))
 have HS10:=Lib.hid (show StR w10 t.k.s a5 from HS9.out.below b10)
 have V10:=Lib.hid ((b10.block V (Array.getElem?_eq_some_iff.1 V9.out).1).trans V9.out)
 have R10:=Lib.hid ((b10.block A (Array.getElem?_eq_some_iff.1 R9.out).1).trans R9.out)
 have O10:=Lib.hid (show OwnM _ w10 (.slice fa t.fly.length fc) t.fly from ownsRow_same O9.out (fun c e=>b10.block c (OL9.out c e).2))
 have OL:=Lib.hid (show ∀ b,(Value.slice fa t.fly.length fc).ownBlock=some b→w3.heap.size≤b∧b<w10.heap.size from fun b e=>⟨(OL9.out b e).1,Nat.lt_of_lt_of_le (OL9.out b e).2 b10.size⟩)
 clear b10 MAY V9 HS9 B9 R9 O9 OL9 q0 q1 q2 q3 q4 q5 q6 q7 q8 v0 v1 v2 v3 v4
 obtain ⟨Z,hZ⟩:∃ Z:Nat→Prop,Z=fun c=>(fun _=>False) c∨(w3.heap.size≤c∧c<w10.heap.size):=⟨_,rfl⟩
 have H10:=Lib.hid (show TgR w2 10 D T t Z w10 from hZ▸H3.out.more B10.out)
 have ZN:=Lib.hid (show ∀ b,w3.heap.size≤b→b<w10.heap.size→Z b from fun b h1 h2=>hZ▸Or.inr ⟨h1,h2⟩)
 clear hZ
 have ASK:=Lib.hid (tpask_any w2 w10 D T t Z S _ c H10.out J3.out (by omega) HS.out (TT.out.on B2.out))
 obtain ⟨r,hr⟩:∃ r,t.askN 10 c 6=r:=⟨_,rfl⟩
 have LAW:=Lib.hid (conflict_law J3.out.ti HF.out HOP.out hr)
 have ERR:=Lib.hid (six_err J3.out.ti HF.out HOP.out hr)
 rw [hr] at ASK
 clear hr
 obtain ⟨M,hM⟩:∃ M,pmay t.k.s c.who (decide (c.op≠7))=M:=⟨_,rfl⟩
 rw [hM] at LAW
 have EM:∀ X,X=decide (c.op≠7)→pmay t.k.s c.who X=M:=fun X e=>by rw [e]; exact hM
 rw [EM _ (by by_cases h:c.op=7 <;> simp [h])]
 clear hM EM
 obtain ⟨q0,q1,q2,q3,q4,q5,q6,q7,q8⟩:=cells9 R10.out
 go_wp2_with fail
 refine ASK.out.mono ?_
 rintro e w11 ⟨rfl,h11,s11⟩
 dsimp only
 have H11:=Lib.hid h11
 have S11:=Lib.hid s11
 clear h11 s11 ASK q0 q1 q2 q3 q4 q5 q6 q7 q8
 have BW:=Lib.hid (show RowKit.Below w.heap.size w w11 from B2.out.trans (H11.out.below.mono B2.out.size))
 have V11:=Lib.hid ((S11.out V (ZN.out V LV.out (Array.getElem?_eq_some_iff.1 V10.out).1)).trans V10.out)
 have HS11:=Lib.hid (show StR w11 t.k.s a5 from HS10.out.same S11.out (fun b hb=>H11.out.lt_y b hb) (fun b o e hne=>ZN.out b (FR5.out b o e) (by
  have hs:=HS10.out
  rw [e] at hs
  exact StR.blt hs hne)))
 have O11:=Lib.hid (show OwnM _ w11 (.slice fa t.fly.length fc) t.fly from ownsRow_same O10.out (fun b e=>S11.out b (ZN.out b (OL.out b e).1 (OL.out b e).2)))
 have OLT:=Lib.hid (show ∀ b,(Value.slice fa t.fly.length fc).ownBlock=some b→b<w11.heap.size from fun b e=>H11.out.lt_y b (ZN.out b (OL.out b e).1 (OL.out b e).2))
 obtain ⟨t',ht'⟩:∃ t',r.1=t':=⟨_,rfl⟩
 obtain ⟨tag,htag⟩:∃ g,r.2.2.1=g:=⟨_,rfl⟩
 obtain ⟨f,hff⟩:∃ f,r.2.2.2=f:=⟨_,rfl⟩
 rw [ht'] at H11 LAW
 rw [htag] at LAW ⊢
 rw [hff] at LAW ERR ⊢
 have KK:=Lib.hid LAW.out.1
 have STA:=Lib.hid (fun w' (b:RowKit.Below w11.heap.size w11 w')=>tstate_any w2 w' 10 D T t' Z (H11.out.over b) (by rw [KK.out]; exact RL.out))
 have FLY:=Lib.hid (fun w' (b:RowKit.Below w11.heap.size w11 w')=>tflying_any w2 w' 10 D T t' Z (H11.out.over b) (by have:=LAW.out.2.1; omega))
 rw [KK.out] at STA
 have SAME:=Lib.hid (show ∀ w' x y,RowKit.Below w11.heap.size w11 w'→StR w' t.k.s x→Calls Tryz.prog 34 #[stV t.k.s x y,stV t.k.s a5 c5] w' fun e w''=>e=.returned (.bool true)∧RowKit.Below w'.heap.size w' w'' from fun w' x y b h=>samestate_true t.k.s x a5 y c5 w' h (HS11.out.below b))
 have VC:=Lib.hid (fun w' (b:RowKit.Below w11.heap.size w11 w')=>(cells5 ((b.block V (Array.getElem?_eq_some_iff.1 V11.out).1).trans V11.out)).1)
 have OB:=Lib.hid (fun w' (b:RowKit.Below w11.heap.size w11 w')=>show OwnM _ w' (.slice fa t.fly.length fc) t.fly from ownsRow_same O11.out (fun c e=>b.block c (OLT.out c e)))
 clear ht' htag hff V11 HS11 O11 OLT V10 HS10 O10 OL R10 H10 J3 H3 B10 B4 R2 S11 ZN
 go_upto_region 11 with fail
 obtain ⟨S',hS⟩:∃ S':World→Prop,S'=fun w'=>RowKit.Below w11.heap.size w11 w':=⟨_,rfl⟩
 have S3:∀ w',RowKit.Below w11.heap.size w11 w'→S' w':=fun w' h=>by rw [hS]; exact h
 have S4:∀ w',S' w'→RowKit.Below w11.heap.size w11 w':=fun w' h=>by rw [hS] at h; exact h
 clear hS
 refine wp_region_held_drew (S:=S') (by kernel_rfl) (S3 _ (Below.refl _ _).drew) (fun hHeld=>?_)
 obtain ⟨wd,hwd⟩:∃ wd,wd=w11.drew:=⟨_,rfl⟩
 rw [← hwd] at hHeld ⊢
 clear hwd
 refine wt 0 (.pointer (some ⟨T,0,none⟩)) rfl (by kernel_rfl) (Or.inl ⟨by rfl,fun w' hSw=>by go_simp⟩) hHeld ?_
 simp only [Act.put,getElem_toArray,getElem_cons_zero,setIfInBounds_toArray,set_cons_zero,set_cons_succ]
 refine wt 2 (stV t.k.s a5 c5) rfl (by kernel_rfl) (Or.inl ⟨by rfl,fun w' hSw=>by obtain ⟨q0,q1,q2,q3,q4⟩:=VC.out w' (S4 w' hSw); go_simp⟩) hHeld ?_
 simp only [Act.put,getElem_toArray,getElem_cons_zero,getElem_cons_succ,setIfInBounds_toArray,set_cons_zero,set_cons_succ]
 refine wpAnyH_ready (rs:=[1]) (by kernel_rfl) (by simp) ?_
 refine AllReadyH.cons (o:=_) rfl (fun Kx hK=>?_) AllReadyH.nil
 go_simp
 refine (STA.out _ (S4 _ hHeld)).mono ?_
 rintro e w1_ ⟨x1,y1,rfl,hs1,b1,fr1⟩
 have HS1:=Lib.hid hs1
 have HH1:=S3 _ ((S4 _ hHeld).trans (b1.mono (S4 _ hHeld).size))
 clear hs1 b1 fr1
 refine hK.out _ _ HH1 (fun hHeld1=>?_)
 clear hK Kx HH1
 refine wpAnyH_ready (rs:=[3]) (by kernel_rfl) (by simp) ?_
 refine AllReadyH.cons (o:=_) rfl (fun Kx hK=>?_) AllReadyH.nil
 go_simp
 refine (SAME.out _ _ _ (S4 _ hHeld1) HS1.out).mono ?_
 rintro e w2_ ⟨rfl,b2⟩
 have HH2:=S3 _ ((S4 _ hHeld1).trans (b2.mono (S4 _ hHeld1).size))
 clear b2
 refine hK.out _ _ HH2 (fun hHeld2=>?_)
 clear hK Kx HH2
 refine wt 4 (.bool false) rfl (by kernel_rfl) (Or.inl ⟨by rfl,fun w' hSw=>by go_simp⟩) hHeld2 ?_
 simp only [Act.put,getElem_toArray,getElem_cons_zero,getElem_cons_succ,setIfInBounds_toArray,set_cons_zero,set_cons_succ]
 refine wpAnyH_done (by kernel_rfl) ?_ _
 obtain ⟨we,hwe⟩:∃ we,we=w2_:=⟨_,rfl⟩
 have BE:=Lib.hid (show RowKit.Below w11.heap.size w11 we from hwe▸S4 _ hHeld2)
 rw [← hwe]
 clear hwe S3 S4
 have NUM:=Lib.hid (fun w'=>number_err f ERR.out w')
 cases M
 ·obtain ⟨hf4,ht0,hfly⟩:=LAW.out.2.2.1 rfl
  have FLY2:=Lib.hid (fun w' (b:RowKit.Below we.heap.size we w')=>FLY.out w' (BE.out.trans (b.mono BE.out.size)))
  rw [hfly] at FLY2
  rw [hf4] at NUM ⊢
  rw [ht0]
  clear hf4 ht0 hfly
  go_wp2_with fail
  refine (NUM.out _).mono ?_
  rintro e wn ⟨rfl,bn⟩
  have BN:=Lib.hid bn
  clear bn
  go_wp2_with fail
  refine (FLY2.out _ BN.out).mono ?_
  rintro e wf ⟨v4,rfl,o4,b4⟩
  obtain ⟨f4,k4,rfl⟩:=o4.shape
  have BF:=Lib.hid (show RowKit.Below w11.heap.size w11 wf from BE.out.trans ((BN.out.trans (b4.mono BN.out.size)).mono BE.out.size))
  have SM:=Lib.hid (samemsgs_true _ _ t.fly _ _ _ _ _ FL.out o4 (OB.out _ BF.out))
  clear o4 b4
  go_wp2_with fail
  refine SM.out.mono ?_
  rintro e wz ⟨rfl,bz⟩
  have BZ:=Lib.hid (show RowKit.Below w.heap.size w wz from BW.out.trans ((BF.out.trans (bz.mono BF.out.size)).mono BW.out.size))
  clear bz
  go_wp2
  go_ret
  exact ⟨rfl,BZ.out⟩
 ·have hf4:(f != 4)=true:=by simpa using LAW.out.2.2.2 rfl
  go_wp2_with fail
  refine (NUM.out _).mono ?_
  rintro e wn ⟨rfl,bn⟩
  have BZ:=Lib.hid (show RowKit.Below w.heap.size w wn from BW.out.trans ((BE.out.trans (bn.mono BE.out.size)).mono BW.out.size))
  clear bn
  go_wp2
  go_ret
  exact ⟨rfl,BZ.out⟩
end Go.Proofs.YtajegiifabfcjaaGreatDoor
