/-
  A target that another one was made over: its state and its epoch, by the keeper's own blocks alone.
-/
import Derived.Test.YtajegiifabfcjaaGreatDoorQ31
import Derived.Test.YtajegiifabfcjaaGreatDoorQ26
namespace Go.Proofs.YtajegiifabfcjaaGreatDoor
open Go.RowKit Go.Sort
structure OldT (w:World) (T K D:Nat) (a:Option Addr) (cap:Nat) (k:Kp):Prop where
 c0:w.cell? ⟨T,0,none⟩=some (.pointer (some ⟨K,0,none⟩))
 lt:T<w.heap.size
 kb:w.heap[K]?=some (.cells #[.pointer (some ⟨D,0,none⟩),.int .i64 k.num,.int .i64 k.ep,.int .i64 k.s.gen,.slice a k.s.regs.length cap,.int .i64 k.s.typ,.int .i64 k.s.holder,.bool k.s.stays] 149 (0,0))
 str:StR w k.s a
set_option maxRecDepth 100000 in
set_option maxHeartbeats 4000000 in
theorem kstate_blk (w:World) (K D:Nat) (a:Option Addr) (cap:Nat) (k:Kp) (hb:w.heap[K]?=some (.cells #[.pointer (some ⟨D,0,none⟩),.int .i64 k.num,.int .i64 k.ep,.int .i64 k.s.gen,.slice a k.s.regs.length cap,.int .i64 k.s.typ,.int .i64 k.s.holder,.bool k.s.stays] 149 (0,0))) (hs:StR w k.s a) (hl:k.s.regs.length≤1000) :
  Calls Tryz.prog 56 #[.pointer (some ⟨K,0,none⟩)] w fun e w'=>∃ a2 cap2,e=.returned (stV k.s a2 cap2)∧StR w' k.s a2∧Below w.heap.size w w'∧∀ b o,a2=some ⟨b,o,none⟩→w.heap.size≤b∧b<w'.heap.size:=by
 have HH:=Lib.hid hs
 have hK:=(Array.getElem?_eq_some_iff.1 hb).1
 clear hs
 obtain ⟨y3,y4,y5,y6,y7⟩:w.cell? ⟨K,3,none⟩=some (.int .i64 k.s.gen)∧w.cell? ⟨K,4,none⟩=some (.slice a k.s.regs.length cap)∧w.cell? ⟨K,5,none⟩=some (.int .i64 k.s.typ)∧w.cell? ⟨K,6,none⟩=some (.int .i64 k.s.holder)∧w.cell? ⟨K,7,none⟩=some (.bool k.s.stays):=by simp [World.cell?,hb]
 clear hb
 go_enter Tryz.func56,Tryz.ntmps56
 go_upto_region 2 with fail
 obtain ⟨w1,hw1⟩:∃ w1,(w.alloc (.cells #[.int .i64 0,.slice none 0 0,.int .i64 0,.int .i64 0,.bool false] 35)).alloc (.cells #[.int .i64 k.s.gen,.slice a k.s.regs.length cap,.int .i64 k.s.typ,.int .i64 k.s.holder,.bool k.s.stays] 35)=w1:=⟨_,rfl⟩
 rw [hw1]
 have B1:=Lib.hid (show RowKit.Below w.heap.size w w1 from hw1▸(bal w _).trans ((bal _ _).mono (by simp)))
 have hz1:w1.heap.size=w.heap.size+2:=by rw [← hw1]; simp
 have R1:=Lib.hid (show w1.heap[w.heap.size]?=some (.cells #[.int .i64 0,.slice none 0 0,.int .i64 0,.int .i64 0,.bool false] 35 (0,0)) from hw1▸heap_alloc2_old w _ _)
 have N1:=Lib.hid (show w1.heap[w.heap.size+1]?=some (.cells #[.int .i64 k.s.gen,.slice a k.s.regs.length cap,.int .i64 k.s.typ,.int .i64 k.s.holder,.bool k.s.stays] 35 (0,0)) from hw1▸heap_alloc2_new w _ _)
 clear hw1
 obtain ⟨v,w2,hrun,hown,b2⟩:=append_pairs k.s.regs a cap 33 w1 hl ((HH.out.below B1.out).rep)
 obtain ⟨a2,cap2,rfl,hpa,-⟩:=OwnP.shape hown
 have LO:=Lib.hid (show ∀ q o,a2=some ⟨q,o,none⟩→w1.heap.size≤q∧q<w2.heap.size from fun q o e=>World.ownsRow.lt hown q (by rw [e]; rfl))
 have B2:=Lib.hid (B1.out.trans (b2.mono B1.out.size))
 have R2:=Lib.hid ((b2.block w.heap.size (by omega)).trans R1.out)
 have N2:=Lib.hid ((b2.block (w.heap.size+1) (by omega)).trans N1.out)
 have S2:=Lib.hid (show StR w2 k.s a2 from ⟨by unfold maxLen; omega,hpa⟩)
 obtain ⟨⟨c0,c1,c2,c3,c4⟩,f0,f1,f2,f3,f4⟩:=cells5 N1.out
 obtain ⟨⟨d0,d1,d2,d3,d4⟩,g0,g1,g2,g3,g4⟩:=cells5 N2.out
 obtain ⟨⟨r0,r1,r2,r3,r4⟩,t0,t1,t2,t3,t4⟩:=cells5 R2.out
 clear y3 y4 y5 y6 y7 hpa hown b2
 go_wp2_with (at_builtin; refine Lib.wpList_append_run _ rfl _ _ 33 33 rfl _ _ rfl rfl _ _ hrun ?_)
 have N3:=one_setCell (o:=1) N2.out (.slice a2 k.s.regs.length cap2)
 have R3:=(Below.heap_setCell w2 ⟨w.heap.size+1,1,none⟩ (.slice a2 k.s.regs.length cap2) w.heap.size (by show w.heap.size≠w.heap.size+1; omega)).trans R2.out
 refine bodyPost_ret (v:=stV k.s a2 cap2) (results_r1 Tryz.results56 _ _ w.heap.size 35 #[.int .i64 k.s.gen,.slice a2 k.s.regs.length cap2,.int .i64 k.s.typ,.int .i64 k.s.holder,.bool k.s.stays] _ rfl (five_at R3 _ _ _ _ _) state_row.1 rfl state_row.2) rfl ?_
 exact ⟨a2,cap2,rfl,(S2.out.keeps (kset (Keeps.refl (·=w.heap.size+1) w2) 1 (.slice a2 k.s.regs.length cap2)) (fun b o e _=>by have:=(LO.out b o e).1; omega)).five (fun b o e=>by have:=(LO.out b o e).1; omega) _ _ _ _ _,
  five_below (B2.out.setCell (p:=⟨w.heap.size+1,1,none⟩) (by show w.heap.size≤w.heap.size+1; omega) _) (Nat.le_refl _) _ _ _ _ _,fun b o e=>⟨by have:=(LO.out b o e).1; omega,by have:=(LO.out b o e).2; simpa [World.setCell] using this⟩⟩
set_option maxRecDepth 100000 in
theorem tstate_old (w:World) (T K D:Nat) (a:Option Addr) (cap:Nat) (k:Kp) (h:OldT w T K D a cap k) (hl:k.s.regs.length≤1000) :
  Calls Tryz.prog 23 #[.pointer (some ⟨T,0,none⟩)] w fun e w'=>∃ a2 cap2,e=.returned (stV k.s a2 cap2)∧StR w' k.s a2∧Below w.heap.size w w'∧∀ b o,a2=some ⟨b,o,none⟩→w.heap.size≤b:=by
 have c0:=h.c0
 have hK:=(Array.getElem?_eq_some_iff.1 h.kb).1
 have hT:T<w.heap.size:=h.lt
 have ST:=Lib.hid (kstate_blk (w.alloc (.cells #[.int .i64 0,.slice none 0 0,.int .i64 0,.int .i64 0,.bool false] 35)) K D a cap k (((bal w _).block K hK).trans h.kb) (h.str.below (bal w _)) hl)
 clear h
 go_enter Tryz.func23,Tryz.ntmps23
 go_wp2_with fail
 refine ST.out.mono ?_
 rintro e w2 ⟨a2,c2,rfl,hs,b2,fr⟩
 have B2:=Lib.hid ((bal w _).trans (b2.mono (by simp:w.heap.size≤(w.alloc (.cells #[.int .i64 0,.slice none 0 0,.int .i64 0,.int .i64 0,.bool false] 35)).heap.size)))
 have R2:=Lib.hid ((b2.block w.heap.size (by simp)).trans (heap_alloc_new w _))
 have HS:=Lib.hid hs
 have FR:=Lib.hid (show ∀ b o,a2=some ⟨b,o,none⟩→w.heap.size+1≤b from fun b o e=>by have:=(fr b o e).1; simpa using this)
 clear hs b2 fr ST
 obtain ⟨⟨r0,r1,r2,r3,r4⟩,g0,g1,g2,g3,g4⟩:=cells5 R2.out
 unfold stV
 go_wp2
 refine bodyPost_ret (v:=stV k.s a2 c2) (results_r1 Tryz.results23 _ _ w.heap.size 35 #[.int .i64 k.s.gen,.slice a2 k.s.regs.length c2,.int .i64 k.s.typ,.int .i64 k.s.holder,.bool k.s.stays] _ rfl (five_at R2.out _ _ _ _ _) state_row.1 rfl state_row.2) rfl ?_
 exact ⟨a2,c2,rfl,HS.out.five (T:=w.heap.size) (fun b o e=>by have:=FR.out b o e; omega) _ _ _ _ _,five_below B2.out (Nat.le_refl _) _ _ _ _ _,fun b o e=>by have:=FR.out b o e; omega⟩
set_option maxRecDepth 100000 in
theorem tepoch_old (w:World) (T K D:Nat) (a:Option Addr) (cap:Nat) (k:Kp) (h:OldT w T K D a cap k) :
  Calls Tryz.prog 26 #[.pointer (some ⟨T,0,none⟩)] w fun e w'=>e=.returned (.int .i64 k.ep)∧w'=w:=by
 have c0:=h.c0
 have c2:w.cell? ⟨K,2,none⟩=some (.int .i64 k.ep):=by
  have hb:=h.kb
  simp [World.cell?,hb]
 have KE:=Lib.hid (show Calls Tryz.prog 62 #[.pointer (some ⟨K,0,none⟩)] w fun e w'=>e=.returned (.int .i64 k.ep)∧w'=w from by
  clear h c0
  go_enter Tryz.func62,Tryz.ntmps62
  go_wp2
  go_ret
  exact ⟨rfl,rfl⟩)
 clear h c2
 go_enter Tryz.func26,Tryz.ntmps26
 go_wp2_with fail
 refine KE.out.mono ?_
 rintro e w1 ⟨rfl,rfl⟩
 go_wp2
 go_ret
 exact ⟨rfl,rfl⟩
theorem OldT.over {w w':World} {T K D:Nat} {a:Option Addr} {cap:Nat} {k:Kp} (h:OldT w T K D a cap k) (b:Below w.heap.size w w'):OldT w' T K D a cap k :=
 ⟨(b.cell (p:=⟨T,0,none⟩) h.lt).trans h.c0,Nat.lt_of_lt_of_le h.lt b.size,(b.block K (Array.getElem?_eq_some_iff.1 h.kb).1).trans h.kb,h.str.below b⟩
theorem TgR.old {w0 w:World} {n D T:Nat} {t:Tg} {Y:Nat→Prop} (h:TgR w0 n D T t Y w):∃ K a cap Y',OldT w T K D a cap t.k∧DKI n w0 D t.k.d Y' w∧(∀ b,Y' b→w0.heap.size≤b)∧(∀ b,Y b→Y' b)∧Below w0.heap.size w0 w ∧
  (∀ w',Same Y' w w'→Below w0.heap.size w0 w'→OldT w' T K D a cap t.k):=by
 obtain ⟨X,m,⟨S,a,cap,kr,lo,kb,bl,hx,ax⟩,tb,lo2,hy⟩:=h
 have hT:=(Array.getElem?_eq_some_iff.1 tb.blk).1
 have hK:=(Array.getElem?_eq_some_iff.1 kr.blk).1
 refine ⟨m.K,a,cap,fun b=>(b=T∨b=m.K∨(w0.heap.size≤b∧t.k.s.regs≠[]∧∃ o,a=some ⟨b,o,none⟩))∨Y b,⟨(tg_cells tb.blk tb.ok).1.1,hT,kr.blk,kr.str⟩,⟨S,kr.dk,kr.lt,lo,bl,fun b hb=>?_⟩,fun b hb=>?_,fun b hb=>.inr hb,bl,fun w' sm b'=>?_⟩
 ·rcases hb with (rfl | rfl | ⟨-,hne,o,e⟩) | hb
  ·exact ⟨hT,(hx _ tb.xt).2.1⟩
  ·exact ⟨hK,kr.nk⟩
  ·refine ⟨?_,(kr.ap b o e hne).1⟩
   have hs:=kr.str
   rw [e] at hs
   exact StR.blt hs hne
  ·exact ⟨(hx b (hy b hb).1).1,(hx b (hy b hb).1).2.1⟩
 ·rcases hb with (rfl | rfl | ⟨h1,-⟩) | hb
  ·exact lo2 _ tb.xt
  ·exact kb
  ·exact h1
  ·exact lo2 _ (hy b hb).1
 ·have eT:=sm T (.inl (.inl rfl))
  have eK:=sm m.K (.inl (.inr (.inl rfl)))
  refine ⟨(World.cell?_of_block (w:=w) (a:=⟨T,0,none⟩) eT).trans (tg_cells tb.blk tb.ok).1.1,?_,eK.trans kr.blk,?_⟩
  ·exact (Array.getElem?_eq_some_iff.1 (eT.trans tb.blk)).1
  ·refine kr.str.same (Y:=fun b=>∃ o,a=some ⟨b,o,none⟩∧t.k.s.regs≠[]) (fun b hb=>?_) (fun b hb=>?_) (fun b o e hne=>⟨o,e,hne⟩)
   ·obtain ⟨o,e,hne⟩:=hb
    by_cases hlo:w0.heap.size≤b
    ·exact sm b (.inl (.inr (.inr ⟨hlo,hne,o,e⟩)))
    ·exact (b'.block b (by omega)).trans (bl.block b (by omega)).symm
   ·obtain ⟨o,e,hne⟩:=hb
    have hs:=kr.str
    rw [e] at hs
    have hlt:=StR.blt hs hne
    by_cases hlo:w0.heap.size≤b
    ·have hq:=sm b (.inl (.inr (.inr ⟨hlo,hne,o,e⟩)))
     rcases Nat.lt_or_ge b w'.heap.size with h | h
     ·exact h
     ·rw [Array.getElem?_eq_none h] at hq
      have:=Array.getElem?_eq_none_iff.1 hq.symm
      omega
    ·have:=b'.size
     omega
end Go.Proofs.YtajegiifabfcjaaGreatDoor
