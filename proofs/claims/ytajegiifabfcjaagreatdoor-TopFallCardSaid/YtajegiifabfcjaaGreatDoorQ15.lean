/-
  RTake, RAdd, Power, Release, Register, Out
-/
import Derived.Test.YtajegiifabfcjaaGreatDoorQ14
import Derived.Deep.RegionHeld3
import Derived.Deep.AppendLies
namespace Go.Proofs.YtajegiifabfcjaaGreatDoor
open Go.RowKit
def PowerPost2 (w:World) (e:Ending) (w':World):Prop :=
 ∃ b:Bx,e=.returned (.agg b.cells)∧b.ok w'∧(b.s1.l=[4]∧b.s2.l=[4]∧b.s3.l=[4]∧b.s4.l=[4])∧Below w.heap.size w w'∧∀ k,HiI w.heap.size w' (b.get k).a (b.get k).l
theorem hi_one {B:Nat} {w:World} {b:Nat} {x:Int} {T:TypeId} (h:w.heap[b]?=some (.cells #[.int .i64 x] T (0,0))) (hB:B≤b):HiI B w (some ⟨b,0,none⟩) [x]:=by
 intro i hi
 obtain rfl:i=0:=by simp at hi; omega
 exact ⟨b,0,rfl,hB,(Array.getElem?_eq_some_iff.1 h).1,by simp [World.cell?,h]⟩
theorem bx_all {b:Bx} {p:Sl→Prop} (h1:p b.s1) (h2:p b.s2) (h3:p b.s3) (h4:p b.s4) (k:Int):p (b.get k):=by
 unfold Bx.get
 split
 ·exact h1
 split
 ·exact h2
 split
 ·exact h3
 ·exact h4
theorem ints_four {w:World} {b:Nat} {x:Int} {T:TypeId} (h:w.heap[b]?=some (.cells #[.int .i64 x] T (0,0))):Ints w.heap.size w (some ⟨b,0,none⟩) [x]:=by
 intro i hi
 obtain rfl:i=0:=by simp at hi; omega
 exact ⟨b,0,rfl,(Array.getElem?_eq_some_iff.1 h).1,by simp [World.cell?,h]⟩
theorem one_ok {w:World} {b:Nat} {x:Int} {T:TypeId} (h:w.heap[b]?=some (.cells #[.int .i64 x] T (0,0))):Sl.ok ⟨some ⟨b,0,none⟩,[x],1⟩ w:=⟨ints_four h,by simp,by simp⟩
set_option maxRecDepth 100000 in
set_option maxHeartbeats 4000000 in
theorem power_any2 (w:World):Calls Tryz.prog 77 #[] w (PowerPost2 w):=by
 go_enter Tryz.func77,Tryz.ntmps77
 go_wp2
 refine wp_loop_rounds 5 ?_
 rw [rounds_succ]
 go_wp2
 rw [rounds_succ]
 go_wp2
 rw [rounds_succ]
 go_wp2
 rw [rounds_succ]
 go_wp2
 rw [rounds_succ]
 go_wp2
 refine bodyPost_ret (v:=.agg #[.slice (some ⟨w.heap.size+1+1,0,none⟩) 1 1,.slice (some ⟨w.heap.size+1+1+1,0,none⟩) 1 1,.slice (some ⟨w.heap.size+1+1+1+1,0,none⟩) 1 1,.slice (some ⟨w.heap.size+1+1+1+1+1,0,none⟩) 1 1]) (by simp [results,Tryz.results77,go_sem]) rfl ?_
 refine ⟨⟨⟨_,[4],1⟩,⟨_,[4],1⟩,⟨_,[4],1⟩,⟨_,[4],1⟩⟩,rfl,⟨one_ok (T:=3) ?_,one_ok (T:=3) ?_,one_ok (T:=3) ?_,one_ok (T:=3) ?_⟩,⟨rfl,rfl,rfl,rfl⟩,?_,bx_all (p:=fun s:Sl=>HiI w.heap.size _ s.a s.l) (hi_one (T:=3) (at_old _ (at_old _ (at_old _ (at_end _ _ (by simp))))) (by omega)) (hi_one (T:=3) (at_old _ (at_old _ (at_end _ _ (by simp)))) (by omega)) (hi_one (T:=3) (at_old _ (at_end _ _ (by simp))) (by omega)) (hi_one (T:=3) (at_end _ _ (by simp)) (by omega))⟩
 ·exact at_old _ (at_old _ (at_old _ (at_end _ _ (by simp))))
 ·exact at_old _ (at_old _ (at_end _ _ (by simp)))
 ·exact at_old _ (at_end _ _ (by simp))
 ·exact at_end _ _ (by simp)
 ·exact ((((((Below.refl _ _).alloc (Nat.le_refl _) _).alloc (by simp) _).alloc (by simp; omega) _).alloc (by simp; omega) _).alloc (by simp; omega) _).alloc (by simp; omega) _
end Go.Proofs.YtajegiifabfcjaaGreatDoor
namespace Go.Proofs.YtajegiifabfcjaaGreatDoor
open Go.RowKit Go.Sort
def RelPost (s:St) (a:Option Addr) (cap:Nat) (r:St × List (Int × Int) × Int) (w:World) (e:Ending) (w':World):Prop :=
 ∃ v,e=.returned (.tuple #[stT s a cap r.1.typ r.1.holder,v,errV r.2.2])∧OwnT w.heap.size w' v r.2.1∧Below w.heap.size w w'
theorem RelPost.mk {s:St} {a:Option Addr} {cap:Nat} {r:St × List (Int × Int) × Int} {w w':World} {e:Ending} {t:St} {l:List (Int × Int)} {f:Int} {v:Value} (hp:r=(t,l,f)) (he:e=.returned (.tuple #[stT s a cap t.typ t.holder,v,errV f])) (ho:OwnT w.heap.size w' v l) (hb:Below w.heap.size w w'):RelPost s a cap r w e w':=by
 subst hp; exact ⟨v,he,ho,hb⟩
theorem own_none (B:Nat) (w:World):OwnT B w (.slice none 0 0) []:=⟨rfl,.inl ⟨rfl,rfl⟩⟩
theorem OwnT.keeps {S:Nat→Prop} {B:Nat} {w w':World} {v:Value} {l:List (Int × Int)} (h:OwnT B w v l) (k:Keeps S w w') (hS:∀ k,S k→k<B):OwnT B w' v l:=by
 obtain ⟨h1,h2⟩:=h
 refine ⟨h1,?_⟩
 rcases h2 with h2 | ⟨g,cap,cur,e1,e2,e3,e4⟩
 ·exact .inl h2
 ·refine .inr ⟨g,cap,cur,e1,e2,?_,e4⟩
  rw [k.block g (fun e=>by have:=hS g e; omega) (Array.getElem?_eq_some_iff.1 e3).1]
  exact e3
theorem keep_rel {W:World} {b b' N:Nat} {v0 v1 v2 v3 v4 u:Value} {T:TypeId} {cs:Array Value} {T':TypeId} (hb:b<N) (hb':b'<N) (h:W.heap[b]?=some (.cells #[v0,v1,v2,v3,v4] T (0,0))) (h':W.heap[b']?=some (.cells cs T' (0,0))) (hu:cs[1]?=some u) :
  ∀ w',Below N W w'→Below N W w'∧w'.cell? ⟨b,0,none⟩=some v0∧w'.cell? ⟨b,1,none⟩=some v1∧w'.cell? ⟨b,2,none⟩=some v2∧w'.cell? ⟨b,3,none⟩=some v3∧w'.cell? ⟨b,4,none⟩=some v4∧w'.cell? ⟨b',1,none⟩=some u:=by
 intro w' hw
 obtain ⟨⟨d0,d1,d2,d3,d4⟩,-⟩:=box5 hw hb h
 refine ⟨hw,d0,d1,d2,d3,d4,?_⟩
 have:=(hw.block b' hb').trans h'
 simp [World.cell?,this,hu]
set_option maxRecDepth 100000 in
set_option maxHeartbeats 4000000 in
theorem release_any (s:St) (a:Option Addr) (cap:Nat) (c:Cmd) (w:World) (hr:StR w s a) (hl:s.regs.length≤50) :
  Calls Tryz.prog 119 #[stV s a cap,cmdV c] w (RelPost s a cap (prelease s c) w):=by
 have hr3:∀ o p q,StR (((w.alloc o).alloc p).alloc q) s a:=fun o p q=>((hr.below (bal w o)).below (bal _ p)).below (bal _ q)
 have HR:=Lib.hid hr3
 have HR0:=Lib.hid hr
 clear hr3 hr
 cases hh:holds s c.who
 ·have P1:=Lib.hid (show prelease s c=(s,[],0) from by unfold prelease; rw [if_pos hh])
  go_enter Tryz.func119,Tryz.ntmps119
  go_wp2_with fail
  refine (holds_any s a cap c.who _ (HR.out _ _ _)).mono ?_
  rintro e w1 ⟨rfl,b1⟩
  rw [hh]
  clear hh
  obtain ⟨hcc,hf⟩:=bcell b1
  go_wp2
  refine bodyPost_ret (v:=.tuple #[.agg #[.int .i64 s.gen,.slice a s.regs.length cap,.int .i64 s.typ,.int .i64 s.holder,.bool s.stays],.slice none 0 0,.nilIface]) (by simp [results,Tryz.results119,go_sem, *]) rfl ?_
  refine RelPost.mk P1.out rfl (own_none _ _) ?_
  repeat (first | with_reducible refine Below.setCell ?_ (by simp <;> omega) _ | exact (bal3' w _ _ _).trans (b1.mono (by simp; omega)))
 by_cases ht:s.typ=c.typ
 ·have htb:(s.typ != c.typ)=false:=by simp [ht]
  by_cases h5:5≤s.typ
  ·have P1:=Lib.hid (show prelease s c=(s.free,toldL (othersL c.who s.regs) 2,0) from by unfold prelease; rw [if_neg (by rw [hh]; simp),if_neg (by simpa using ht),if_pos h5])
   clear ht
   go_enter Tryz.func119,Tryz.ntmps119
   go_wp2_with fail
   refine (holds_any s a cap c.who _ (HR.out _ _ _)).mono ?_
   rintro e w1 ⟨rfl,b1⟩
   rw [hh]
   clear hh
   have hr1:StR w1 s a:=(HR.out _ _ _).below b1
   have hN:w.heap.size+1+1<w1.heap.size:=by have:=b1.size; simp at this; omega
   have HR1:=Lib.hid hr1
   have KEEP:=Lib.hid (keep_rel (W:=w1) (b:=w.heap.size) (b':=w.heap.size+1) (N:=w.heap.size+1+1) (by omega) (by omega) ((b1.block _ (by simp <;> omega)).trans (heap3 w _ _ _).1) ((b1.block _ (by simp <;> omega)).trans (heap3 w _ _ _).2.1) rfl)
   obtain ⟨⟨d0,d1,d2,d3,d4⟩,f0,f1,f2,f3,f4⟩:=box5 b1 (b:=w.heap.size) (by simp; omega) (heap3 w _ _ _).1
   obtain ⟨⟨e0,e1,e2,e3,e4⟩,g0,g1,g2,g3,g4⟩:=box5 b1 (b:=w.heap.size+1+1) (by simp) (heap3 w _ _ _).2.2
   have u4:w1.cell? ⟨w.heap.size+1,4,none⟩=some (.int .i64 c.typ):=by
    have:=(b1.block (w.heap.size+1) (by simp <;> omega)).trans (heap3 w _ _ _).2.1
    simp [World.cell?,this]
   have u1:w1.cell? ⟨w.heap.size+1,1,none⟩=some (.int .i64 c.who):=by
    have:=(b1.block (w.heap.size+1) (by simp <;> omega)).trans (heap3 w _ _ _).2.1
    simp [World.cell?,this]
   have OT:=Lib.hid (fun (w':World) (hw:StR w' s a)=>others_x s.gen s.regs s.typ s.holder s.stays a cap c.who w' hw (by omega) _ rfl)
   have ol:(othersL c.who s.regs).length≤50:=by have:=others_len c.who s.regs s.regs.length; rw [List.take_length] at this; omega
   have B1:=Lib.hid ((bal3' w _ _ _).trans (b1.mono (bal3' w _ _ _).size))
   have HE:=Lib.hid ((b1.block (w.heap.size+1+1) (by simp)).trans (heap3 w _ _ _).2.2)
   clear hr1 b1
   have HRN:=Lib.hid (fun (w':World) (hb:Below (w.heap.size+1+1) w1 w')=>HR0.out.below (B1.out.trans (hb.mono (by omega))))
   go_wp2
   go_region_held3 (fun w'=>Below (w.heap.size+1+1) w1 w'∧w'.cell? ⟨w.heap.size,0,none⟩=some (.int .i64 s.gen)∧w'.cell? ⟨w.heap.size,1,none⟩=some (.slice a s.regs.length cap)∧w'.cell? ⟨w.heap.size,2,none⟩=some (.int .i64 s.typ)∧w'.cell? ⟨w.heap.size,3,none⟩=some (.int .i64 s.holder)∧w'.cell? ⟨w.heap.size,4,none⟩=some (.bool s.stays)∧w'.cell? ⟨w.heap.size+1,1,none⟩=some (.int .i64 c.who))
    ((refine KEEP.out _ ?_; repeat (first | with_reducible exact And.left (by with_reducible assumption) | exact (Below.refl _ _).drew | (with_reducible refine Below.setCell ?_ (by simp <;> omega) _) | exact Below.trans (And.left (by assumption)) (Below.mono (by assumption) (Nat.le_trans (Nat.le_of_lt hN) (Below.size (And.left (by assumption))))))))
    (first
     | (go_at_call 122; (with_reducible refine (free_any s.gen s.regs s.typ s.holder s.stays a cap _).mono ?_); rintro e w2 ⟨rfl,hb2⟩)
     | (go_at_call 121; (with_reducible refine (OT.out _ (HRN.out _ (And.left (by assumption)))).mono ?_); rintro e w3 ⟨a3,c3,rfl,hi3,hb3⟩)
     | (go_at_call 120; (with_reducible refine (told_any _ a3 c3 2 _ (Nat.le_trans ol (by omega)) hi3).mono ?_); rintro e w4 ⟨v4,rfl,ho4,hb4⟩; have H14:Below w1.heap.size w1 w4:=(((Below.refl w1.heap.size w1).drew.trans hb2).trans (hb3.mono hb2.size)).trans (hb4.mono (Nat.le_trans hb2.size hb3.size)); obtain ⟨⟨p0,p1,p2,p3,p4⟩,q0,q1,q2,q3,q4⟩:=box5 H14 (b:=w.heap.size+1+1) hN HE.out))
   go_wp2
   refine bodyPost_ret (v:=.tuple #[.agg #[.int .i64 s.gen,.slice a s.regs.length cap,.int .i64 0,.int .i64 0,.bool s.stays],v4,.nilIface]) (by simp [results,Tryz.results119,go_sem, *]) rfl ?_
   have z2:w.heap.size+1+1<w3.heap.size:=Nat.lt_of_lt_of_le hN (Nat.le_trans hb2.size hb3.size)
   have kp:∀ w',Keeps (·=w.heap.size+1+1) w4 w'→RelPost s a cap (prelease s c) w (.returned (.tuple #[.agg #[.int .i64 s.gen,.slice a s.regs.length cap,.int .i64 0,.int .i64 0,.bool s.stays],v4,.nilIface])) w':=by
    intro w' k
    have hb:=B1.out.trans (H14.mono B1.out.size)
    exact RelPost.mk P1.out rfl ((ho4.keeps k (fun m hm=>by omega)).mono (Nat.le_trans B1.out.size (Nat.le_trans hb2.size hb3.size))) (hb.trans (k.below hb.size (fun m hm=>by omega)))
   refine kp _ ?_
   exact Keeps.setCell (S:=(·=w.heap.size+1+1)) (Keeps.setCell (S:=(·=w.heap.size+1+1)) (Keeps.setCell (S:=(·=w.heap.size+1+1)) (Keeps.setCell (S:=(·=w.heap.size+1+1)) (Keeps.setCell (S:=(·=w.heap.size+1+1)) (Keeps.refl _ _) rfl _) rfl _) rfl _) rfl _) rfl _
  ·have P1:=Lib.hid (show prelease s c=(s.free,[],0) from by unfold prelease; rw [if_neg (by rw [hh]; simp),if_neg (by simpa using ht),if_neg h5])
   clear ht
   go_enter Tryz.func119,Tryz.ntmps119
   go_wp2_with fail
   refine (holds_any s a cap c.who _ (HR.out _ _ _)).mono ?_
   rintro e w1 ⟨rfl,b1⟩
   rw [hh]
   clear hh
   obtain ⟨hcc,hf⟩:=bcell b1
   have hN:w.heap.size+1+1<w1.heap.size:=by have:=b1.size; simp at this; omega
   have HE:=Lib.hid ((b1.block (w.heap.size+1+1) (by simp)).trans (heap3 w _ _ _).2.2)
   have B1:=Lib.hid ((bal3' w _ _ _).trans (b1.mono (bal3' w _ _ _).size))
   go_wp2_with fail
   refine (free_any s.gen s.regs s.typ s.holder s.stays a cap _).mono ?_
   rintro e w2 ⟨rfl,hb2⟩
   obtain ⟨⟨p0,p1,p2,p3,p4⟩,q0,q1,q2,q3,q4⟩:=box5 hb2 (b:=w.heap.size+1+1) hN HE.out
   go_wp2
   refine bodyPost_ret (v:=.tuple #[.agg #[.int .i64 s.gen,.slice a s.regs.length cap,.int .i64 0,.int .i64 0,.bool s.stays],.slice none 0 0,.nilIface]) (by simp [results,Tryz.results119,go_sem, *]) rfl ?_
   refine RelPost.mk P1.out rfl (own_none _ _) ?_
   repeat (first | with_reducible refine Below.setCell ?_ (by simp <;> omega) _ | exact B1.out.trans (hb2.mono B1.out.size))
 ·have htb:(s.typ != c.typ)=true:=by simp [ht]
  have P1:=Lib.hid (show prelease s c=(s,[],5) from by unfold prelease; rw [if_neg (by rw [hh]; simp),if_pos ht])
  clear ht
  go_enter Tryz.func119,Tryz.ntmps119
  go_wp2_with fail
  refine (holds_any s a cap c.who _ (HR.out _ _ _)).mono ?_
  rintro e w1 ⟨rfl,b1⟩
  rw [hh]
  clear hh
  obtain ⟨hcc,hf⟩:=bcell b1
  go_wp2
  refine bodyPost_ret (v:=.tuple #[.agg #[.int .i64 s.gen,.slice a s.regs.length cap,.int .i64 s.typ,.int .i64 s.holder,.bool s.stays],.slice none 0 0,.iface 95 (.int .i64 5)]) (by simp [results,Tryz.results119,go_sem, *]) rfl ?_
  refine RelPost.mk P1.out rfl (own_none _ _) ?_
  repeat (first | with_reducible refine Below.setCell ?_ (by simp <;> omega) _ | exact (bal3' w _ _ _).trans (b1.mono (by simp; omega)))
def StepPost (r:St × List (Int × Int)) (w:World) (e:Ending) (w':World):Prop :=
 ∃ a cap v,e=.returned (.tuple #[.agg #[.int .i64 r.1.gen,.slice a r.1.regs.length cap,.int .i64 r.1.typ,.int .i64 r.1.holder,.bool r.1.stays],v])∧StR w' r.1 a∧(∀ b o,a=some ⟨b,o,none⟩→w.heap.size≤b)∧OwnT w.heap.size w' v r.2∧Below w.heap.size w w'
theorem StepPost.mk {r:St × List (Int × Int)} {w w':World} {e:Ending} {t:St} {l:List (Int × Int)} {a:Option Addr} {cap:Nat} {v:Value} (hp:r=(t,l)) (he:e=.returned (.tuple #[.agg #[.int .i64 t.gen,.slice a t.regs.length cap,.int .i64 t.typ,.int .i64 t.holder,.bool t.stays],v])) (hs:StR w' t a) (lo:∀ b o,a=some ⟨b,o,none⟩→w.heap.size≤b) (ho:OwnT w.heap.size w' v l) (hb:Below w.heap.size w w'):StepPost r w e w':=by
 subst hp; exact ⟨a,cap,v,he,hs,lo,ho,hb⟩
theorem with_xlo (g:Int) (l:List (Int × Int)) (t h:Int) (st:Bool) (a:Option Addr) (cap:Nat) (who key:Int) (w:World) (hr:StR w ⟨g,l,t,h,st⟩ a) (hl:l.length≤50) (hw:0≤who∧who≤1000) (hb:∀ r∈l,0≤r.1∧r.1≤1000) (hs:l.Pairwise (fun a b=>a.1<b.1)) (L:List (Int × Int)) (hL:withL l who key=L) :
  Calls Tryz.prog 148 #[.agg #[.int .i64 g,.slice a l.length cap,.int .i64 t,.int .i64 h,.bool st],.int .i64 who,.int .i64 key] w fun e w'=>∃ a' cap',e=.returned (.agg #[.int .i64 g,.slice a' L.length cap',.int .i64 t,.int .i64 h,.bool st])∧StR w' ⟨g,L,t,h,st⟩ a'∧(∀ b o,a'=some ⟨b,o,none⟩→w.heap.size≤b)∧Below w.heap.size w w':=by
 subst hL
 exact (with_lo ⟨g,l,t,h,st⟩ a cap who key w hr hl hw hb hs).mono fun e w' ⟨a',cap',h1,h2,h3,h4⟩=>⟨a',cap',h1,h2,h4,h3⟩
theorem str_keeps {S:Nat→Prop} {w w':World} {s:St} {a:Option Addr} {B:Nat} (h:StR w s a) (lo:∀ b o,a=some ⟨b,o,none⟩→B≤b) (k:Keeps S w w') (hS:∀ m,S m→m<B):StR w' s a:=by
 refine ⟨h.len,fun i hi=>?_⟩
 obtain ⟨b,o,e,hb,c1,c2⟩:=h.rep i hi
 have hB:=lo b o e
 have hn:¬ S b:=fun x=>by have:=hS b x; omega
 exact ⟨b,o,e,Nat.lt_of_lt_of_le hb k.size,by rw [k.cell hn hb]; exact c1,by rw [k.cell hn hb]; exact c2⟩
theorem str_any {w:World} {s:St} {a:Option Addr} (h:StR w s a) (t:St) (e:t.regs=s.regs):StR w t a:=⟨by rw [e]; exact h.len,by rw [e]; exact h.rep⟩
theorem keeps_set {N:Nat} {a w:World} (h:Keeps (·=N) a w) (o:Nat) (u:Value):Keeps (·=N) a (w.setCell ⟨N,o,none⟩ u):=Keeps.setCell (S:=(·=N)) h rfl u
theorem keep_reg {w7:World} {o:Obj} {b' N:Nat} {v0 v1 v2 v3 v4 u:Value} {T:TypeId} (ho:o=.cells #[v0,v1,v2,v3,v4] T (0,0)) (hN:N<w7.heap.size) (hb:b'≠N) (hb':b'<w7.heap.size) (hu:w7.cell? ⟨b',1,none⟩=some u) :
  ∀ w',Keeps (·=N) (w7.alloc o) w'→Keeps (·=N) (w7.alloc o) w'∧w'.cell? ⟨w7.heap.size,0,none⟩=some v0∧w'.cell? ⟨w7.heap.size,1,none⟩=some v1∧w'.cell? ⟨w7.heap.size,2,none⟩=some v2∧w'.cell? ⟨w7.heap.size,3,none⟩=some v3∧w'.cell? ⟨w7.heap.size,4,none⟩=some v4∧w'.cell? ⟨b',1,none⟩=some u:=by
 subst ho
 intro w' k
 have hX:w'.heap[w7.heap.size]?=some (.cells #[v0,v1,v2,v3,v4] T (0,0)):=(k.block _ (by omega) (by simp)).trans (heap_alloc_new _ _)
 obtain ⟨⟨d0,d1,d2,d3,d4⟩,-⟩:=box5 (Below.refl (w7.heap.size+1) w') (by omega) hX
 refine ⟨k,d0,d1,d2,d3,d4,?_⟩
 rw [k.cell hb (by simp; omega),(bal w7 _).cell (p:=⟨b',1,none⟩) hb']
 exact hu
theorem reg_fin (s:St) (a7:Option Addr) (c7:Nat) (c:Cmd) (w w7:World) (L:List (Int × Int)) (B7:Below w.heap.size w w7) (hs7:StR w7 ⟨s.gen,L,s.typ,s.holder,s.stays⟩ a7) {n1:Nat} (lo7:∀ b o,a7=some ⟨b,o,none⟩→n1≤b) (z1:w.heap.size+1+1<n1) :
  ∀ (t h:Int) (l:List (Int × Int)) (v:Value),pregister s c=(⟨s.gen,L,t,h,c.stays⟩,l)→OwnT w.heap.size w7 v l→∀ w',Keeps (·=w.heap.size+1+1) w7 w'→(v=.slice none 0 0) →
   StepPost (pregister s c) w (.returned (.tuple #[.agg #[.int .i64 s.gen,.slice a7 L.length c7,.int .i64 t,.int .i64 h,.bool c.stays],v])) w':=by
 intro t h l v hp ho w' k hv
 subst hv
 have hl:l=[]:=by
  have:=ho.2
  rcases this with ⟨_,h⟩ | ⟨_,_,_,e,_⟩
  ·exact List.length_eq_zero_iff.1 h
  ·cases e
 subst hl
 exact StepPost.mk (a:=a7) (cap:=c7) hp rfl (str_any (str_keeps hs7 lo7 k (fun m hm=>by omega)) _ rfl) (fun b o e=>by have:=lo7 b o e; omega) (own_none _ _) (B7.trans (k.below B7.size (fun m hm=>by omega)))
theorem reg_told {s:St} {a7:Option Addr} {c7:Nat} {c:Cmd} {w w7 w4 w':World} {L:List (Int × Int)} {l:List (Int × Int)} {v:Value} {n1 n3:Nat} (hp:pregister s c=(⟨s.gen,L,0,0,c.stays⟩,l)) (B7:Below w.heap.size w w7) (hs7:StR w7 ⟨s.gen,L,s.typ,s.holder,s.stays⟩ a7) (lo7:∀ b o,a7=some ⟨b,o,none⟩→n1≤b) (z1:w.heap.size+1+1<n1)
  (k4:Keeps (·=w.heap.size+1+1) w7 w4) (ho:OwnT n3 w4 v l) (z2:w.heap.size+1+1<n3) (zw:w.heap.size≤n3) (k:Keeps (·=w.heap.size+1+1) w4 w') :
  StepPost (pregister s c) w (.returned (.tuple #[.agg #[.int .i64 s.gen,.slice a7 L.length c7,.int .i64 0,.int .i64 0,.bool c.stays],v])) w' :=
 StepPost.mk (a:=a7) (cap:=c7) hp rfl (str_any (str_keeps hs7 lo7 (k4.trans k) (fun m hm=>by omega)) _ rfl) (fun b o e=>by have:=lo7 b o e; omega) ((ho.keeps k (fun m hm=>by omega)).mono zw) (B7.trans ((k4.trans k).below B7.size (fun m hm=>by omega)))
set_option maxRecDepth 100000 in
set_option maxHeartbeats 4000000 in
theorem register_any (s:St) (a:Option Addr) (cap:Nat) (c:Cmd) (w:World) (hr:StR w s a) (hl:s.regs.length≤40) (hw:0≤c.who∧c.who≤1000) (hb0:∀ r∈s.regs,0≤r.1∧r.1≤1000) (hs0:s.regs.Pairwise (fun a b=>a.1<b.1)) :
  Calls Tryz.prog 117 #[stV s a cap,cmdV c] w (StepPost (pregister s c) w):=by
 have hq:=fun (o p q:Obj)=>bregrown (Below.refl (((w.alloc o).alloc p).alloc q).heap.size (((w.alloc o).alloc p).alloc q))
 have hqr:∀ o p q d os,StR (Sort.grow (redrawn (((w.alloc o).alloc p).alloc q) d) os) s a:=fun o p q d os=>(hr.below (bal3' w o p q)).below (below_regrown _ d os)
 obtain ⟨L,hL⟩:∃ L,withL s.regs c.who c.new=L:=⟨_,rfl⟩
 have HLS:=Lib.hid hL
 have hLl:L.length≤41:=by have:=with_len s.regs c.who c.new; rw [hL] at this; omega
 have HR0:=Lib.hid hr
 have HB0:=Lib.hid hb0
 have HS0:=Lib.hid hs0
 have PR:=Lib.hid (show pregister s c=(if 0<c.new∨holds s c.who=false then (⟨s.gen,L,s.typ,s.holder,c.stays⟩,[])
  else if allT s.typ=true∧0<L.length then (⟨s.gen,L,s.typ,s.holder,c.stays⟩,[])
  else if s.typ=5∨s.typ=6 then (⟨s.gen,L,0,0,c.stays⟩,toldL (othersL c.who L) 2)
  else (⟨s.gen,L,0,0,c.stays⟩,[])) from by rw [← hL]; rfl)
 clear hL hr hb0 hs0
 go_enter Tryz.func117,Tryz.ntmps117
 go_wp2
 refine wp_region_quiet_below (by kernel_rfl) (by kernel_rfl) ?_
 repeat (go_big_quiet_step (first | exact Calls.regrown_of (holds_any s a cap c.who _ (hqr _ _ _ _ _)) | exact Calls.regrown_of (all_any s a cap _)))
 refine wpQuiet_nil ?_
 rintro w1 ⟨⟨dq,osq⟩,hw1⟩
 have b1:=hw1▸below_regrown _ dq osq
 clear hq hqr
 have hr1:StR w1 s a:=HR0.out.below ((bal3' w _ _ _).trans (b1.mono (bal3' w _ _ _).size))
 obtain ⟨hcc,hf⟩:=bcell b1
 clear hw1
 go_wp2_with fail
 refine (with_xlo s.gen s.regs s.typ s.holder s.stays a cap c.who c.new _ hr1 (by omega) hw HB0.out HS0.out L HLS.out).mono ?_
 rintro e w7 ⟨a7,c7,rfl,hs7,lo7,h7⟩
 have b7:=b1.trans (h7.mono b1.size)
 have z7:w.heap.size+1+1<w7.heap.size:=by have:=b7.size; simp at this; omega
 have z71:w.heap.size+1+1<w1.heap.size:=by have:=b1.size; simp at this; omega
 have z72:w.heap.size+1<w7.heap.size:=by omega
 have z73:w.heap.size<w7.heap.size:=by omega
 obtain ⟨⟨d0,d1,d2,d3,d4⟩,-⟩:=box5 b7 (b:=w.heap.size) (by simp <;> omega) (heap3 w _ _ _).1
 obtain ⟨⟨e0,e1,e2,e3,e4⟩,g0,g1,g2,g3,g4⟩:=box5 b7 (b:=w.heap.size+1+1) (by simp <;> omega) (heap3 w _ _ _).2.2
 have hcm:=(b7.block (w.heap.size+1) (by simp <;> omega)).trans (heap3 w _ _ _).2.1
 have k1:w7.cell? ⟨w.heap.size+1,1,none⟩=some (.int .i64 c.who):=by simp [World.cell?,hcm]
 have k3:w7.cell? ⟨w.heap.size+1,3,none⟩=some (.int .i64 c.new):=by simp [World.cell?,hcm]
 have k6:w7.cell? ⟨w.heap.size+1,6,none⟩=some (.bool c.stays):=by simp [World.cell?,hcm]
 have B7:=Lib.hid ((bal3' w _ _ _).trans (b7.mono (bal3' w _ _ _).size))
 have HS7:=Lib.hid hs7
 have LO7:=Lib.hid lo7
 have HE:=Lib.hid ((b7.block (w.heap.size+1+1) (by simp <;> omega)).trans (heap3 w _ _ _).2.2)
 clear hcc hf b1 b7 h7 hr1 hs7 lo7 hcm
 have FIN:=Lib.hid (reg_fin s a7 c7 c w w7 L B7.out HS7.out LO7.out z71)
 by_cases hn:0<c.new
 ·have P1:=Lib.hid (PR.out.trans (if_pos (.inl hn)))
  clear PR
  go_wp2
  refine bodyPost_ret (v:=.tuple #[.agg #[.int .i64 s.gen,.slice a7 L.length c7,.int .i64 s.typ,.int .i64 s.holder,.bool c.stays],.slice none 0 0]) (by simp [results,Tryz.results117,go_sem, *]) rfl ?_
  refine FIN.out _ _ _ _ P1.out (own_none _ _) _ ?_ rfl
  repeat (first | with_reducible exact Keeps.refl _ _ | (with_reducible refine Keeps.drew ?_) | (with_reducible refine Keeps.alloc ?_ _) | (with_reducible refine keeps_set ?_ _ _))
 cases hh:holds s c.who
 ·have P1:=Lib.hid (PR.out.trans (if_pos (.inr hh)))
  clear PR
  go_wp2
  refine bodyPost_ret (v:=.tuple #[.agg #[.int .i64 s.gen,.slice a7 L.length c7,.int .i64 s.typ,.int .i64 s.holder,.bool c.stays],.slice none 0 0]) (by simp [results,Tryz.results117,go_sem, *]) rfl ?_
  refine FIN.out _ _ _ _ P1.out (own_none _ _) _ ?_ rfl
  repeat (first | with_reducible exact Keeps.refl _ _ | (with_reducible refine Keeps.drew ?_) | (with_reducible refine Keeps.alloc ?_ _) | (with_reducible refine keeps_set ?_ _ _))
 have PR2:=Lib.hid (PR.out.trans (if_neg (by rw [hh]; simp; omega)))
 clear PR
 cases ha:allT s.typ
 ·by_cases h56:s.typ=5∨s.typ=6
  ·have P1:=Lib.hid (PR2.out.trans ((if_neg (by rw [ha]; simp)).trans (if_pos h56)))
   have hEN:=at_old (.cells #[.int .i64 s.gen,.slice a7 L.length c7,.int .i64 s.typ,.int .i64 s.holder,.bool c.stays] 35) HE.out
   have HEN:=Lib.hid hEN
   have HRN:=Lib.hid (fun (w':World) (k:Keeps (·=w.heap.size+1+1) (w7.alloc (.cells #[.int .i64 s.gen,.slice a7 L.length c7,.int .i64 s.typ,.int .i64 s.holder,.bool c.stays] 35)) w')=>str_any (str_keeps HS7.out LO7.out ((Keeps.alloc (Keeps.refl (·=w.heap.size+1+1) w7) _).trans k) (fun m hm=>by omega)) ⟨s.gen,L,s.typ,s.holder,c.stays⟩ rfl)
   have OT:=Lib.hid (fun (w':World) (hw:StR w' ⟨s.gen,L,s.typ,s.holder,c.stays⟩ a7)=>others_x s.gen L s.typ s.holder c.stays a7 c7 c.who w' hw (by omega) _ rfl)
   have ol:(othersL c.who L).length≤50:=by have:=others_len c.who L L.length; rw [List.take_length] at this; omega
   have KEEP:=Lib.hid (keep_reg (N:=w.heap.size+1+1) (b':=w.heap.size+1) (o:=.cells #[.int .i64 s.gen,.slice a7 L.length c7,.int .i64 s.typ,.int .i64 s.holder,.bool c.stays] 35) (w7:=w7) rfl z7 (by omega) z72 k1)
   have hN8:w.heap.size+1+1<(w7.alloc (.cells #[.int .i64 s.gen,.slice a7 L.length c7,.int .i64 s.typ,.int .i64 s.holder,.bool c.stays] 35)).heap.size:=by simp; omega
   clear PR2 hEN
   rcases h56 with h5 | h6
   ·have t5:(s.typ == 5)=true:=by simp [h5]
    clear h5
    go_wp2
    go_region_held3 (fun w'=>Keeps (·=w.heap.size+1+1) (w7.alloc (.cells #[.int .i64 s.gen,.slice a7 L.length c7,.int .i64 s.typ,.int .i64 s.holder,.bool c.stays] 35)) w'∧w'.cell? ⟨w7.heap.size,0,none⟩=some (.int .i64 s.gen)∧w'.cell? ⟨w7.heap.size,1,none⟩=some (.slice a7 L.length c7)∧w'.cell? ⟨w7.heap.size,2,none⟩=some (.int .i64 s.typ)∧w'.cell? ⟨w7.heap.size,3,none⟩=some (.int .i64 s.holder)∧w'.cell? ⟨w7.heap.size,4,none⟩=some (.bool c.stays)∧w'.cell? ⟨w.heap.size+1,1,none⟩=some (.int .i64 c.who))
     ((refine KEEP.out _ ?_; repeat (first | with_reducible exact And.left (by with_reducible assumption) | exact (Keeps.refl _ _).drew | (with_reducible refine keeps_set ?_ _ _) | exact Keeps.trans (And.left (by assumption)) (Keeps.of_below (by assumption)))))
     (first
      | (go_at_call 122; (with_reducible refine (free_any s.gen L s.typ s.holder c.stays a7 c7 _).mono ?_); rintro e w2 ⟨rfl,hb2⟩)
      | (go_at_call 121; (with_reducible refine (OT.out _ (HRN.out _ (And.left (by assumption)))).mono ?_); rintro e w3 ⟨a3,c3,rfl,hi3,hb3⟩)
      | (go_at_call 120; (with_reducible refine (told_any _ a3 c3 2 _ (Nat.le_trans ol (by omega)) hi3).mono ?_); rintro e w4 ⟨v4,rfl,ho4,hb4⟩; have H14:Below (w7.alloc (.cells #[.int .i64 s.gen,.slice a7 L.length c7,.int .i64 s.typ,.int .i64 s.holder,.bool c.stays] 35)).heap.size (w7.alloc (.cells #[.int .i64 s.gen,.slice a7 L.length c7,.int .i64 s.typ,.int .i64 s.holder,.bool c.stays] 35)) w4:=(((Below.refl _ _).drew.trans hb2).trans (hb3.mono hb2.size)).trans (hb4.mono (Nat.le_trans hb2.size hb3.size)); obtain ⟨⟨p0,p1,p2,p3,p4⟩,q0,q1,q2,q3,q4⟩:=box5 H14 (b:=w.heap.size+1+1) hN8 HEN.out))
    go_wp2
    refine bodyPost_ret (v:=.tuple #[.agg #[.int .i64 s.gen,.slice a7 L.length c7,.int .i64 0,.int .i64 0,.bool c.stays],v4]) (by simp [results,Tryz.results117,go_sem, *]) rfl ?_
    have z2:w.heap.size+1+1<w3.heap.size:=Nat.lt_of_lt_of_le hN8 (Nat.le_trans hb2.size hb3.size)
    have zw:w.heap.size≤w3.heap.size:=by omega
    refine reg_told P1.out B7.out HS7.out LO7.out z71 ((Keeps.alloc (Keeps.refl (·=w.heap.size+1+1) w7) _).trans (Keeps.of_below H14)) ho4 z2 zw ?_
    exact Keeps.setCell (S:=(·=w.heap.size+1+1)) (Keeps.setCell (S:=(·=w.heap.size+1+1)) (Keeps.setCell (S:=(·=w.heap.size+1+1)) (Keeps.setCell (S:=(·=w.heap.size+1+1)) (Keeps.setCell (S:=(·=w.heap.size+1+1)) (Keeps.refl _ _) rfl _) rfl _) rfl _) rfl _) rfl _
   ·have t5:(s.typ == 5)=false:=by simp; omega
    have t6:(s.typ == 6)=true:=by simp [h6]
    clear h6
    go_wp2
    go_region_held3 (fun w'=>Keeps (·=w.heap.size+1+1) (w7.alloc (.cells #[.int .i64 s.gen,.slice a7 L.length c7,.int .i64 s.typ,.int .i64 s.holder,.bool c.stays] 35)) w'∧w'.cell? ⟨w7.heap.size,0,none⟩=some (.int .i64 s.gen)∧w'.cell? ⟨w7.heap.size,1,none⟩=some (.slice a7 L.length c7)∧w'.cell? ⟨w7.heap.size,2,none⟩=some (.int .i64 s.typ)∧w'.cell? ⟨w7.heap.size,3,none⟩=some (.int .i64 s.holder)∧w'.cell? ⟨w7.heap.size,4,none⟩=some (.bool c.stays)∧w'.cell? ⟨w.heap.size+1,1,none⟩=some (.int .i64 c.who))
     ((refine KEEP.out _ ?_; repeat (first | with_reducible exact And.left (by with_reducible assumption) | exact (Keeps.refl _ _).drew | (with_reducible refine keeps_set ?_ _ _) | exact Keeps.trans (And.left (by assumption)) (Keeps.of_below (by assumption)))))
     (first
      | (go_at_call 122; (with_reducible refine (free_any s.gen L s.typ s.holder c.stays a7 c7 _).mono ?_); rintro e w2 ⟨rfl,hb2⟩)
      | (go_at_call 121; (with_reducible refine (OT.out _ (HRN.out _ (And.left (by assumption)))).mono ?_); rintro e w3 ⟨a3,c3,rfl,hi3,hb3⟩)
      | (go_at_call 120; (with_reducible refine (told_any _ a3 c3 2 _ (Nat.le_trans ol (by omega)) hi3).mono ?_); rintro e w4 ⟨v4,rfl,ho4,hb4⟩; have H14:Below (w7.alloc (.cells #[.int .i64 s.gen,.slice a7 L.length c7,.int .i64 s.typ,.int .i64 s.holder,.bool c.stays] 35)).heap.size (w7.alloc (.cells #[.int .i64 s.gen,.slice a7 L.length c7,.int .i64 s.typ,.int .i64 s.holder,.bool c.stays] 35)) w4:=(((Below.refl _ _).drew.trans hb2).trans (hb3.mono hb2.size)).trans (hb4.mono (Nat.le_trans hb2.size hb3.size)); obtain ⟨⟨p0,p1,p2,p3,p4⟩,q0,q1,q2,q3,q4⟩:=box5 H14 (b:=w.heap.size+1+1) hN8 HEN.out))
    go_wp2
    refine bodyPost_ret (v:=.tuple #[.agg #[.int .i64 s.gen,.slice a7 L.length c7,.int .i64 0,.int .i64 0,.bool c.stays],v4]) (by simp [results,Tryz.results117,go_sem, *]) rfl ?_
    have z2:w.heap.size+1+1<w3.heap.size:=Nat.lt_of_lt_of_le hN8 (Nat.le_trans hb2.size hb3.size)
    have zw:w.heap.size≤w3.heap.size:=by omega
    refine reg_told P1.out B7.out HS7.out LO7.out z71 ((Keeps.alloc (Keeps.refl (·=w.heap.size+1+1) w7) _).trans (Keeps.of_below H14)) ho4 z2 zw ?_
    exact Keeps.setCell (S:=(·=w.heap.size+1+1)) (Keeps.setCell (S:=(·=w.heap.size+1+1)) (Keeps.setCell (S:=(·=w.heap.size+1+1)) (Keeps.setCell (S:=(·=w.heap.size+1+1)) (Keeps.setCell (S:=(·=w.heap.size+1+1)) (Keeps.refl _ _) rfl _) rfl _) rfl _) rfl _) rfl _
  ·have P1:=Lib.hid (PR2.out.trans ((if_neg (by rw [ha]; simp)).trans (if_neg h56)))
   have t5:(s.typ == 5)=false:=by simp; omega
   have t6:(s.typ == 6)=false:=by simp; omega
   clear PR2 h56
   go_wp2_with fail
   refine (free_any s.gen L s.typ s.holder c.stays a7 c7 _).mono ?_
   rintro e w8 ⟨rfl,hb8⟩
   obtain ⟨⟨p0,p1,p2,p3,p4⟩,q0,q1,q2,q3,q4⟩:=box5 hb8 (b:=w.heap.size+1+1) (by simp; omega) (at_old _ HE.out)
   go_wp2
   refine bodyPost_ret (v:=.tuple #[.agg #[.int .i64 s.gen,.slice a7 L.length c7,.int .i64 0,.int .i64 0,.bool c.stays],.slice none 0 0]) (by simp [results,Tryz.results117,go_sem, *]) rfl ?_
   refine FIN.out _ _ _ _ P1.out (own_none _ _) _ ?_ rfl
   repeat (first | with_reducible exact Keeps.refl _ _ | (with_reducible refine Keeps.drew ?_) | exact (Keeps.alloc (Keeps.refl _ _) _).trans (Keeps.of_below hb8) | (with_reducible refine keeps_set ?_ _ _))
 ·have hty:s.typ=7∨s.typ=8:=by simpa [allT] using ha
  by_cases hL0:0<L.length
  ·have P1:=Lib.hid (PR2.out.trans (if_pos ⟨ha,hL0⟩))
   clear PR2 hty
   go_wp2
   refine bodyPost_ret (v:=.tuple #[.agg #[.int .i64 s.gen,.slice a7 L.length c7,.int .i64 s.typ,.int .i64 s.holder,.bool c.stays],.slice none 0 0]) (by simp [results,Tryz.results117,go_sem, *]) rfl ?_
   refine FIN.out _ _ _ _ P1.out (own_none _ _) _ ?_ rfl
   repeat (first | with_reducible exact Keeps.refl _ _ | (with_reducible refine Keeps.drew ?_) | (with_reducible refine Keeps.alloc ?_ _) | (with_reducible refine keeps_set ?_ _ _))
  ·have P1:=Lib.hid (PR2.out.trans ((if_neg (fun x=>hL0 x.2)).trans (if_neg (by omega))))
   have t5:(s.typ == 5)=false:=by simp; omega
   have t6:(s.typ == 6)=false:=by simp; omega
   clear PR2 hty
   go_wp2_with fail
   refine (free_any s.gen L s.typ s.holder c.stays a7 c7 _).mono ?_
   rintro e w8 ⟨rfl,hb8⟩
   obtain ⟨⟨p0,p1,p2,p3,p4⟩,q0,q1,q2,q3,q4⟩:=box5 hb8 (b:=w.heap.size+1+1) (by simp; omega) (at_old _ HE.out)
   go_wp2
   refine bodyPost_ret (v:=.tuple #[.agg #[.int .i64 s.gen,.slice a7 L.length c7,.int .i64 0,.int .i64 0,.bool c.stays],.slice none 0 0]) (by simp [results,Tryz.results117,go_sem, *]) rfl ?_
   refine FIN.out _ _ _ _ P1.out (own_none _ _) _ ?_ rfl
   repeat (first | with_reducible exact Keeps.refl _ _ | (with_reducible refine Keeps.drew ?_) | exact (Keeps.alloc (Keeps.refl _ _) _).trans (Keeps.of_below hb8) | (with_reducible refine keeps_set ?_ _ _))
theorem gone_hit (who key:Int) (l:List (Int × Int)) (k:Nat) (h:k<l.length) (e:outB who key l[k]=false):goneL who key (l.take (k+1))=goneL who key (l.take k):=by
 unfold goneL
 rw [List.take_succ_eq_append_getElem h,List.filter_append,List.filter_cons_of_neg (by simp [e])]
 simp
theorem gone_miss (who key:Int) (l:List (Int × Int)) (k:Nat) (h:k<l.length) (e:outB who key l[k]=true):goneL who key (l.take (k+1))=goneL who key (l.take k) ++ [l[k].1]:=by
 unfold goneL
 rw [List.take_succ_eq_append_getElem h,List.filter_append,List.filter_cons_of_pos (by simp [e])]
 simp
theorem gone_len (who key:Int) (l:List (Int × Int)):(goneL who key l).length≤l.length:=by
 unfold goneL
 rw [List.length_map]
 exact List.length_filter_le _ _
theorem gone_mem (who key:Int) (l:List (Int × Int)) (P:Int→Prop) (h:∀ r∈l,P r.1):∀ x∈goneL who key l,P x:=by
 intro x hx
 unfold goneL at hx
 obtain ⟨r,hr,rfl⟩:=List.mem_map.1 hx
 exact h r (List.mem_filter.1 hr).1
theorem putOut_step (L:List (Int × Int)) (G:List Int) (j:Nat) (h:j<G.length):putOut (withL L G[j] 0) (G.drop (j+1))=putOut L (G.drop j):=by
 rw [List.drop_eq_getElem_cons h]; rfl
theorem putOut_end (L:List (Int × Int)) (G:List Int) (j:Nat) (h:G.length≤j):putOut L (G.drop j)=L:=by
 rw [List.drop_of_length_le h]; rfl
structure LFo (l:List (Int × Int)) (n:Nat):Prop where
 len:l.length≤n
 bound:∀ r∈l,0≤r.1∧r.1≤1000
 sort:l.Pairwise (fun a b=>a.1<b.1)
theorem LFo.without {l:List (Int × Int)} {n:Nat} (h:LFo l n) (who:Int):LFo (withL l who 0) n:=by
 have e:withL l who 0=l.filter (fun r=>decide (r.1≠who)):=by
  unfold withL; rw [if_neg (by omega)]; unfold Go.Proofs.YtajegiifabfcjaaGreatDoor.without
  congr 1; funext r; by_cases hr:r.1=who <;> simp [hr]
 rw [e]
 exact ⟨Nat.le_trans (List.length_filter_le _ _) h.len,fun r hr=>h.bound r (List.mem_filter.1 hr).1,h.sort.sublist List.filter_sublist⟩
def OutPost (s:St) (a:Option Addr) (who key:Int) (w:World) (e:Ending) (w':World):Prop :=
 ∃ a' cap' v,e=.returned (.tuple #[.agg #[.int .i64 s.gen,.slice a' (putOut s.regs (goneL who key s.regs)).length cap',.int .i64 s.typ,.int .i64 s.holder,.bool s.stays],v]) ∧
  StR w' ⟨s.gen,putOut s.regs (goneL who key s.regs),s.typ,s.holder,s.stays⟩ a'∧(a'=a∨∀ b o,a'=some ⟨b,o,none⟩→w.heap.size≤b)∧OwnI w.heap.size w' v (goneL who key s.regs)∧Below w.heap.size w w'
def OutRel (g:Int) (t h:Int) (st:Bool) (a:Option Addr) (F:List (Int × Int)) (G:List Int) (N:Nat) (w0:World) (i:Value) (wz:World):Prop :=
 ∃ (j:Nat) (L:List (Int × Int)) (a2:Option Addr) (c2:Nat),j≤G.length∧i=.int .i64 j∧putOut L (G.drop j)=F∧LFo L 40∧StR wz ⟨g,L,t,h,st⟩ a2∧(a2=a∨∀ b o,a2=some ⟨b,o,none⟩→N+2≤b) ∧
  wz.heap[N]?=some (.cells #[.int .i64 g,.slice a2 L.length c2,.int .i64 t,.int .i64 h,.bool st] 35 (0,0))∧Keeps (·=N) w0 wz
theorem out_fin {g:Int} {l L:List (Int × Int)} {t h who key:Int} {st:Bool} {a a2 ag:Option Addr} {cz cg:Nat} {G:List Int} {w wo wr w':World} (hG:G=goneL who key l) (hL:L=putOut l G) (hS:StR wr ⟨g,L,t,h,st⟩ a2) (hA:a2=a∨∀ b o,a2=some ⟨b,o,none⟩→w.heap.size+2≤b)
  (ho:OwnI (w.heap.size+2) wo (.slice ag G.length cg) G) (hw:Below w.heap.size w wo) (k:Keeps (·=w.heap.size) wo wr) (k2:Keeps (·=w.heap.size+1) wr w') (hR:StR w ⟨g,l,t,h,st⟩ a) :
  OutPost ⟨g,l,t,h,st⟩ a who key w (.returned (.tuple #[.agg #[.int .i64 g,.slice a2 L.length cz,.int .i64 t,.int .i64 h,.bool st],.slice ag G.length cg])) w':=by
 subst hG hL
 have hbr:Below w.heap.size w wr:=hw.trans (k.below hw.size (fun m hm=>by omega))
 have hb:Below w.heap.size w w':=hbr.trans (k2.below hbr.size (fun m hm=>by omega))
 refine ⟨a2,cz,_,rfl,?_,hA.imp id (fun h b o e=>by have:=h b o e; omega),?_,hb⟩
 ·refine ⟨hS.len,fun i hi=>?_⟩
  obtain ⟨b,o,e,hb1,c1,c2⟩:=hS.rep i hi
  have hn:b≠w.heap.size+1:=by
   rcases hA with rfl | hA
   ·have hl:0<l.length:=by
     have hi':i<(putOut l (goneL who key l)).length:=hi
     rw [putOut_filter] at hi'
     have:=List.length_filter_le (fun r=>!(goneL who key l).contains r.1) l
     omega
    obtain ⟨b',o',e',hb',-⟩:=hR.rep 0 hl
    rw [e] at e'
    cases e'
    omega
   ·have:=hA b o e; omega
  exact ⟨b,o,e,Nat.lt_of_lt_of_le hb1 k2.size,by rw [k2.cell hn hb1]; exact c1,by rw [k2.cell hn hb1]; exact c2⟩
 ·exact ((ho.keeps k (fun m hm=>by omega)).keeps k2 (fun m hm=>by omega)).mono (by omega)
set_option maxRecDepth 100000 in
set_option maxHeartbeats 4000000 in
theorem out_any (s:St) (a:Option Addr) (cap:Nat) (who key:Int) (w:World) (hr:StR w s a) (hl:LFo s.regs 40) :
  Calls Tryz.prog 149 #[stV s a cap,.int .i64 who,.int .i64 key] w (OutPost s a who key w):=by
 obtain ⟨g,l,t,h,st⟩:=s
 have HR:=Lib.hid hr
 obtain ⟨_,hp⟩:=hr
 have hlen:=hl.len
 dsimp only at hl hp hlen
 have HL:=Lib.hid hl
 have HP:=Lib.hid hp
 clear hl
 obtain ⟨i0,hi,hz0,hz1,hz2⟩:=info_parts Tryz.infoInt
 go_enter Tryz.func149,Tryz.ntmps149
 go_wp2
 go_loopw [8,16] (fun v i wr=>∃ k:Nat,k≤l.length∧i=.int .i64 k∧OwnI (w.heap.size+2) wr v (goneL who key (l.take k))∧Below (w.heap.size+2) ((w.alloc (.cells #[.int .i64 g,.slice a l.length cap,.int .i64 t,.int .i64 h,.bool st] 35)).alloc (.cells #[.int .i64 0,.slice none 0 0,.int .i64 0,.int .i64 0,.bool false] 35)) wr) (fun _ i _=>l.length - (intOf i).toNat)
 case atStart=>exact ⟨0,by omega,rfl,⟨rfl,.inl ⟨rfl,rfl⟩⟩,Below.refl _ _⟩
 case round =>
  obtain ⟨k,hk,rfl,hown,hb⟩:=hrel
  have HOWN:=Lib.hid hown
  have HBLK:=Lib.hid hown.blk
  clear hown
  have hs:w.heap.size+2≤wr.heap.size:=by have:=hb.size; simp at this; omega
  have hb0:Below w.heap.size w wr:=(((bal w _).alloc (by simp) _)).trans (hb.mono (by omega))
  have hol:(goneL who key (l.take k)).length≤k:=Nat.le_trans (gone_len who key _) (by simp; omega)
  by_cases hlt:k<l.length
  ·obtain ⟨b,o,rfl,hbs,h1,h2⟩:=HP.out k hlt
   have c1:=(hb0.cell (p:=⟨b,o+k*2,none⟩) hbs).trans h1
   have c2:=(hb0.cell (p:=⟨b,o+k*2+1,none⟩) hbs).trans h2
   clear h1 h2 hp
   by_cases hw:l[k].1=who
   ·have hwb:(l[k].1 != who)=false:=by simp [hw]
    have HE:=Lib.hid (gone_hit who key l k hlt (by simp [outB,hw]))
    clear hw
    go_wp2
    go_roundw
    case rel=>exact ⟨k+1,by omega,by go_num,by rw [HE.out]; exact HOWN.out.below (bal _ _),hb.alloc (by omega) _⟩
    case measure=>simp [intOf]; omega
   have hwb:(l[k].1 != who)=true:=by simp [hw]
   by_cases hz:key=0
   ·have hzb:(key == 0)=true:=by simp [hz]
    have HE:=Lib.hid (gone_miss who key l k hlt (by simp [outB,hw,hz]))
    clear hw hz
    go_wp2_with (at_builtin; refine wpList_append_own _ rfl _ _ 65 rfl (w.heap.size+2) 3 i0 (.int .i64 0) 1 8 Tryz.underlying65 hi hz0 hz1 hz2 rfl (by decide) _ _ _ rfl ((HOWN.out.alloc _).alloc _) ⟨wr.heap.size+1,0,none⟩ 1 1 [.int .i64 l[k].1] rfl rfl ?c1 ?c2 ?c3 ?c4 ?c5 ?_)
    case c1 =>
     intro j u hj
     match j,hj with
     | 0,hj=>simp at hj; subst hj; simp [Addr.add]
    case c2=>intro u hu; simp at hu; subst hu; rfl
    case c3=>unfold maxLen; omega
    case c4=>omega
    case c5=>simp; omega
    intro v' w1 hown1 hg1 _
    have hb1:Below (w.heap.size+2) ((w.alloc (.cells #[.int .i64 g,.slice (some ⟨b,o,none⟩) l.length cap,.int .i64 t,.int .i64 h,.bool st] 35)).alloc (.cells #[.int .i64 0,.slice none 0 0,.int .i64 0,.int .i64 0,.bool false] 35)) w1:=((hb.alloc (by omega) _).alloc (by simp; omega) _).grown hg1 (by simp; omega) HBLK.out
    have HO1:=Lib.hid hown1
    clear hown1 hg1
    go_wp2
    go_roundw
    case rel=>exact ⟨k+1,by omega,by go_num,by rw [HE.out]; simpa [OwnI] using HO1.out,hb1⟩
    case measure=>simp [intOf]; omega
   have hzb:(key == 0)=false:=by simp [hz]
   by_cases hk2:l[k].2=key
   ·have hkb:(l[k].2 == key)=true:=by simp [hk2]
    have HE:=Lib.hid (gone_miss who key l k hlt (by simp [outB,hw,hk2]))
    clear hw hz hk2
    go_wp2_with (at_builtin; refine wpList_append_own _ rfl _ _ 65 rfl (w.heap.size+2) 3 i0 (.int .i64 0) 1 8 Tryz.underlying65 hi hz0 hz1 hz2 rfl (by decide) _ _ _ rfl ((HOWN.out.alloc _).alloc _) ⟨wr.heap.size+1,0,none⟩ 1 1 [.int .i64 l[k].1] rfl rfl ?c1 ?c2 ?c3 ?c4 ?c5 ?_)
    case c1 =>
     intro j u hj
     match j,hj with
     | 0,hj=>simp at hj; subst hj; simp [Addr.add]
    case c2=>intro u hu; simp at hu; subst hu; rfl
    case c3=>unfold maxLen; omega
    case c4=>omega
    case c5=>simp; omega
    intro v' w1 hown1 hg1 _
    have hb1:Below (w.heap.size+2) ((w.alloc (.cells #[.int .i64 g,.slice (some ⟨b,o,none⟩) l.length cap,.int .i64 t,.int .i64 h,.bool st] 35)).alloc (.cells #[.int .i64 0,.slice none 0 0,.int .i64 0,.int .i64 0,.bool false] 35)) w1:=((hb.alloc (by omega) _).alloc (by simp; omega) _).grown hg1 (by simp; omega) HBLK.out
    have HO1:=Lib.hid hown1
    clear hown1 hg1
    go_wp2
    go_roundw
    case rel=>exact ⟨k+1,by omega,by go_num,by rw [HE.out]; simpa [OwnI] using HO1.out,hb1⟩
    case measure=>simp [intOf]; omega
   ·have hkb:(l[k].2 == key)=false:=by simp [hk2]
    have HE:=Lib.hid (gone_hit who key l k hlt (by simp [outB,hz,hk2]))
    clear hw hz hk2
    go_wp2
    go_roundw
    case rel=>exact ⟨k+1,by omega,by go_num,by rw [HE.out]; exact HOWN.out.below (bal _ _),hb.alloc (by omega) _⟩
    case measure=>simp [intOf]; omega
  ·have HKL:=Lib.hid (show goneL who key (l.take k)=goneL who key l from by rw [List.take_of_length_le (by omega)])
   obtain ⟨ag,cg,rfl,-⟩:=HOWN.out.shape
   have HG:=Lib.hid HOWN.out.hi
   have HB0:=Lib.hid ((hb.block w.heap.size (by omega)).trans (heap_alloc2_old w _ _))
   have HBZ:=Lib.hid ((hb.block (w.heap.size+1) (by omega)).trans (heap_alloc2_new w _ _))
   have HS0:=Lib.hid (show StR wr ⟨g,l,t,h,st⟩ a from ⟨HR.out.len,(HP.out.below hb0 (Nat.le_refl _)).mono hb0.size⟩)
   have HW0:=Lib.hid hb0
   obtain ⟨wo,rfl⟩:∃ wo:World,wo=wr:=⟨_,rfl⟩
   obtain ⟨G,hG⟩:∃ G,goneL who key (l.take k)=G:=⟨_,rfl⟩
   rw [hG] at HKL HOWN HG hol
   have GB:=Lib.hid (show ∀ x∈G,0≤x∧x≤1000 from hG▸gone_mem who key (l.take k) _ (fun r hr=>HL.out.bound r (List.mem_of_mem_take hr)))
   have gl:G.length≤40:=by omega
   clear hb hb0 hp HBLK
   rw [hG]
   clear hG
   go_wp2
   go_loopw [42] (fun i wz=>OutRel g t h st a (putOut l G) G w.heap.size wo i wz) (fun i _=>G.length - (intOf i).toNat)
   case atStart=>exact ⟨0,l,a,cap,by omega,rfl,rfl,HL.out,HS0.out,.inl rfl,HB0.out,Keeps.refl _ _⟩
   case round =>
    obtain ⟨j,L,a2,cz,hj,rfl,hF,hLF,hS,hA,hB,hk⟩:=hrel
    have HF:=Lib.hid hF
    have HLF:=Lib.hid hLF
    have HS:=Lib.hid hS
    have HA:=Lib.hid hA
    have HB:=Lib.hid hB
    have HK:=Lib.hid hk
    clear hF hLF hS hA hB hk
    have hsz:wo.heap.size≤wr.heap.size:=HK.out.size
    have hlt0:w.heap.size<wr.heap.size:=by omega
    obtain ⟨⟨d0,d1,d2,d3,d4⟩,f0,f1,f2,f3,f4⟩:=box5 (Below.refl wr.heap.size wr) hlt0 HB.out
    by_cases hgt:j<G.length
    ·obtain ⟨b,o,rfl,hb1,hb2,c1⟩:=HG.out j hgt
     have c2:=(HK.out.cell (b:=b) (o:=o+j) (by omega) hb2).trans c1
     clear c1
     go_wp2_with fail
     refine (with_xlo g L t h st a2 cz G[j] 0 _ HS.out (by have:=HLF.out.len; omega) (GB.out _ (List.getElem_mem _)) HLF.out.bound HLF.out.sort _ rfl).mono ?_
     rintro e w7 ⟨a7,c7,rfl,hs7,lo7,h7⟩
     have hz7:w.heap.size<w7.heap.size:=Nat.lt_of_lt_of_le hlt0 h7.size
     obtain ⟨⟨e0,e1,e2,e3,e4⟩,g0,g1,g2,g3,g4⟩:=box5 h7 hlt0 HB.out
     have HS7:=Lib.hid hs7
     have LO7:=Lib.hid lo7
     have H7:=Lib.hid h7
     clear hs7 lo7 h7
     go_wp2
     go_roundw
     case rel =>
      have kp:Keeps (·=w.heap.size) w7 (((((w7.setCell ⟨w.heap.size,0,none⟩ (.int .i64 g)).setCell ⟨w.heap.size,1,none⟩ (.slice a7 (withL L G[j] 0).length c7)).setCell ⟨w.heap.size,2,none⟩ (.int .i64 t)).setCell ⟨w.heap.size,3,none⟩ (.int .i64 h)).setCell ⟨w.heap.size,4,none⟩ (.bool st)):=keeps_set (keeps_set (keeps_set (keeps_set (keeps_set (Keeps.refl _ _) _ _) _ _) _ _) _ _) _ _
      refine ⟨j+1,withL L G[j] 0,a7,c7,by omega,by go_num,by rw [putOut_step L G j hgt]; exact HF.out,HLF.out.without _,str_keeps HS7.out LO7.out kp (fun m hm=>by omega),.inr (fun b o e=>by have:=LO7.out b o e; omega),?_,(HK.out.trans (Keeps.of_below H7.out)).trans kp⟩
      have hb7:=(H7.out.block w.heap.size hlt0).trans HB.out
      exact block_setCell (block_setCell (block_setCell (block_setCell (block_setCell hb7 _) _) _) _) _
     case measure=>simp [intOf]; omega
    ·have hjG:j=G.length:=by omega
     have HE:=Lib.hid (show L=putOut l G from by rw [← HF.out,putOut_end L G j (by omega)])
     have hBZ:=(HK.out.block (w.heap.size+1) (by omega) (by omega)).trans HBZ.out
     obtain ⟨⟨e0,e1,e2,e3,e4⟩,g0,g1,g2,g3,g4⟩:=box5 (Below.refl wr.heap.size wr) (b:=w.heap.size+1) (by omega) hBZ
     clear hBZ hjG HF
     go_wp2
     refine bodyPost_ret (v:=.tuple #[.agg #[.int .i64 g,.slice a2 L.length cz,.int .i64 t,.int .i64 h,.bool st],.slice ag G.length cg]) (by simp [results,Tryz.results149,go_sem, *]) rfl ?_
     exact out_fin HKL.out HE.out HS.out HA.out HOWN.out HW0.out HK.out (keeps_set (keeps_set (keeps_set (keeps_set (keeps_set (Keeps.refl _ _) _ _) _ _) _ _) _ _) _ _) HR.out
end Go.Proofs.YtajegiifabfcjaaGreatDoor
