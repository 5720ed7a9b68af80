/-
  Take, Tg, MapReg, Chain, WordsL
-/
import Derived.Test.YtajegiifabfcjaaGreatDoorQ11
import Derived.RegionTactic
import Derived.ChangeAlike
import Derived.Deep.RegionHeld
import Derived.MapKept
import Derived.WalkKit
namespace Go.Proofs.YtajegiifabfcjaaGreatDoor
open Go.RowKit
def takeN (l:List Int):Int:=l.headD 0
theorem clone_int_n (l:List Int) (a:Option Addr) (cap n:Nat) (w:World) (hn:n=l.length) (hl:l.length*8≤140737488355328) (hr:Ints w.heap.size w a l) :
  Calls Tryz.prog 93 #[.slice a n cap] w fun e w'=>∃ s:Sl,e=.returned s.v∧s.l=l∧Ints w'.heap.size w' s.a s.l∧OwnI w.heap.size w' s.v l∧s.l.length≤s.c∧Below w.heap.size w w':=by
 subst hn
 refine (clone_int l a cap w hl hr).mono ?_
 rintro e w' ⟨v,rfl,hown,hb⟩
 obtain ⟨a',c',rfl,hi⟩:=hown.shape
 exact ⟨⟨a',l,c'⟩,rfl,rfl,hi,hown,hown.cap,hb⟩
theorem ints_tail {B:Nat} {w:World} {b o:Nat} {x:Int} {t:List Int} (h:Ints B w (some ⟨b,o,none⟩) (x :: t)):Ints B w (some ⟨b,o+1,none⟩) t:=by
 intro i hi
 obtain ⟨b',o',e,hb,c1⟩:=h (i+1) (by simp; omega)
 obtain ⟨rfl,rfl⟩:b=b'∧o=o':=by simpa using e
 exact ⟨b,o+1,rfl,hb,by rw [show o+1+i=o+(i+1) from by omega,c1]; rfl⟩
theorem bal2 (w:World) (o p:Obj):Below w.heap.size w ((w.alloc o).alloc p):=(bal w o).alloc (by simp) _
theorem box4 {W w1:World} {n:Nat} (hb:Below n W w1) {b:Nat} (hbn:b<n) {v0 v1 v2 v3:Value} {T:TypeId} (h:W.heap[b]?=some (.cells #[v0,v1,v2,v3] T (0,0))) :
  (w1.cell? ⟨b,0,none⟩=some v0∧w1.cell? ⟨b,1,none⟩=some v1∧w1.cell? ⟨b,2,none⟩=some v2∧w1.cell? ⟨b,3,none⟩=some v3) ∧
  (w1.frozen? ⟨b,0,none⟩=false∧w1.frozen? ⟨b,1,none⟩=false∧w1.frozen? ⟨b,2,none⟩=false∧w1.frozen? ⟨b,3,none⟩=false):=by
 have h1:w1.heap[b]?=some (.cells #[v0,v1,v2,v3] T (0,0)):=(hb.block b hbn).trans h
 simp [World.cell?,World.frozen?,h1]
theorem clone_own (l:List Int) (a:Option Addr) (cap n:Nat) (w:World) (hn:n=l.length) (hl:l.length*8≤140737488355328) (hr:Ints w.heap.size w a l) :
  Calls Tryz.prog 93 #[.slice a n cap] w fun e w'=>∃ a' c',e=.returned (.slice a' n c')∧OwnI w.heap.size w' (.slice a' n c') l∧Below w.heap.size w w':=by
 subst hn
 refine (clone_int l a cap w hl hr).mono ?_
 rintro e w' ⟨v,rfl,hown,hb⟩
 obtain ⟨a',c',rfl,hi⟩:=hown.shape
 exact ⟨a',c',rfl,hown,hb⟩
def TakePost2 (b:Bx) (who:Int) (w:World) (e:Ending) (w':World):Prop :=
 ∃ s:Sl,e=.returned (.tuple #[.agg (b.set who s).cells,.int .i64 (takeN (b.get who).l)])∧s.ok w'∧s.l=(b.get who).l.tail∧Below w.heap.size w w'∧HiI w.heap.size w' s.a s.l
theorem take_end {b:Bx} {who:Int} {w W1 w1 w':World} {a':Option Addr} {l' t:List Int} {c':Nat} {e:Ending} (hl:l'=t) (hown:OwnI W1.heap.size w1 (.slice a' l'.length c') t) (hcap:l'.length≤c') (hlen:t.length+1≤5)
  (hb:Below W1.heap.size W1 w1) (hW:Below w.heap.size w W1∧w.heap.size+2=W1.heap.size) (kp:Keeps (fun k=>k=w.heap.size∨k=w.heap.size+1) w1 w')
  (he:e=.returned (.tuple #[.agg (b.set who ⟨a',l',c'⟩).cells,.int .i64 (takeN (b.get who).l)])) (ht:t=(b.get who).l.tail):TakePost2 b who w e w':=by
 subst hl
 have hk:∀ k,(k=w.heap.size∨k=w.heap.size+1)→k<W1.heap.size:=fun k hk=>by have:=hW.2; omega
 have hz:=hb.size
 have h0:=hW.2
 refine ⟨⟨a',l',c'⟩,he,⟨(hown.keeps kp hk).ints,by show l'.length≤5; omega,hcap⟩,ht,?_,((hown.keeps kp hk).hi).mono (by omega)⟩
 exact (hW.1.trans (hb.mono (by omega))).trans (kp.below (by omega) (fun k hk=>by omega))
set_option maxRecDepth 100000 in
set_option maxHeartbeats 1000000 in
theorem take_any2 (b:Bx) (who:Int) (w:World) (hr:b.ok w) (hw:1≤who∧who≤4) :
  Calls Tryz.prog 54 #[.agg b.cells,.int .i64 who] w (TakePost2 b who w):=by
 obtain ⟨⟨a1,l1,c1⟩,⟨a2,l2,c2⟩,⟨a3,l3,c3⟩,⟨a4,l4,c4⟩⟩:=b
 have hok:=hr
 obtain ⟨o1,o2,o3,o4⟩:=hr
 have h4:who=1∨who=2∨who=3∨who=4:=by omega
 dsimp only [Bx.cells,Sl.v]
 rcases h4 with rfl | rfl | rfl | rfl
 ·cases l1 with
  | nil =>
   dsimp only [List.length_nil]
   go_enter Tryz.func54,Tryz.ntmps54
   go_wp2
   exact bodyPost_ret (v:=.tuple #[.agg #[.slice a1 0 c1,.slice a2 l2.length c2,.slice a3 l3.length c3,.slice a4 l4.length c4],.int .i64 0]) (by simp [results,Tryz.results54,go_sem]) rfl ⟨⟨a1,[],c1⟩,rfl,o1.below (bal2 w _ _),rfl,bal2 w _ _,HiI.nil _ _ _⟩
  | cons x t =>
   obtain ⟨bb,oo,rfl,hbs,hc0⟩:=o1.ints 0 (by simp)
   have hlen:t.length+1≤5:=o1.len
   have CAP:=Lib.hid (show t.length+1≤c1 from o1.cap)
   have TL:=Lib.hid (ints_tail o1.ints)
   clear o1 o2 o3 o4 hok hw
   dsimp only [List.length_cons]
   simp only [Nat.add_zero,List.getElem_cons_zero] at hc0
   go_enter Tryz.func54,Tryz.ntmps54
   go_wp2_with fail
   ·obtain rfl:t=[]:=List.length_eq_zero_iff.1 (by have:=CAP.out; omega)
    refine (clone_int_n [] _ _ _ _ rfl (by simp) (Ints.nil _ _ _)).mono ?_
    rintro e w1 ⟨⟨a',l',c'⟩,rfl,hsl,hi,hown,hcap,hb⟩
    dsimp only at hsl hi hown hcap
    obtain ⟨⟨d0,d1,d2,d3⟩,f0,f1,f2,f3⟩:=box4 hb (b:=w.heap.size) (by simp; omega) (heap_alloc2_old w _ _)
    obtain ⟨⟨x0,x1,x2,x3⟩,y0,y1,y2,y3⟩:=box4 hb (b:=w.heap.size+1) (by simp) (heap_alloc2_new w _ _)
    have b0:Below w.heap.size w w1:=(bal2 w _ _).trans (hb.mono (by simp; omega))
    have cx:=(b0.cell (p:=⟨bb,oo,none⟩) hbs).trans hc0
    go_wp2
    go_region
    all_goals
     go_wp2
     refine bodyPost_ret (v:=.tuple #[.agg #[.slice a' l'.length c',.slice a2 l2.length c2,.slice a3 l3.length c3,.slice a4 l4.length c4],.int .i64 x]) (by simp [results,Tryz.results54,go_sem, *]) rfl ?_
     refine take_end hsl hown hcap hlen hb ⟨bal2 w _ _,by simp⟩ ?_ (by simp [Bx.set,Bx.get,takeN]) (by simp [Bx.get])
     repeat (first | with_reducible exact Keeps.refl _ _ | (with_reducible refine Keeps.drew ?_) | (with_reducible refine Keeps.setCell ?_ (.inl rfl) _) | (with_reducible refine Keeps.setCell ?_ (.inr rfl) _))
   ·refine (clone_int_n t _ _ _ _ rfl (by omega) ((TL.out.below (bal2 _ _ _) (Nat.le_refl _)).mono (by simp; omega))).mono ?_
    rintro e w1 ⟨⟨a',l',c'⟩,rfl,hsl,hi,hown,hcap,hb⟩
    dsimp only at hsl hi hown hcap
    obtain ⟨⟨d0,d1,d2,d3⟩,f0,f1,f2,f3⟩:=box4 hb (b:=w.heap.size) (by simp; omega) (heap_alloc2_old w _ _)
    obtain ⟨⟨x0,x1,x2,x3⟩,y0,y1,y2,y3⟩:=box4 hb (b:=w.heap.size+1) (by simp) (heap_alloc2_new w _ _)
    have b0:Below w.heap.size w w1:=(bal2 w _ _).trans (hb.mono (by simp; omega))
    have cx:=(b0.cell (p:=⟨bb,oo,none⟩) hbs).trans hc0
    go_wp2
    go_region
    all_goals
     go_wp2
     refine bodyPost_ret (v:=.tuple #[.agg #[.slice a' l'.length c',.slice a2 l2.length c2,.slice a3 l3.length c3,.slice a4 l4.length c4],.int .i64 x]) (by simp [results,Tryz.results54,go_sem, *]) rfl ?_
     refine take_end hsl hown hcap hlen hb ⟨bal2 w _ _,by simp⟩ ?_ (by simp [Bx.set,Bx.get,takeN]) (by simp [Bx.get])
     repeat (first | with_reducible exact Keeps.refl _ _ | (with_reducible refine Keeps.drew ?_) | (with_reducible refine Keeps.setCell ?_ (.inl rfl) _) | (with_reducible refine Keeps.setCell ?_ (.inr rfl) _))
 ·cases l2 with
  | nil =>
   dsimp only [List.length_nil]
   go_enter Tryz.func54,Tryz.ntmps54
   go_wp2
   exact bodyPost_ret (v:=.tuple #[.agg #[.slice a1 l1.length c1,.slice a2 0 c2,.slice a3 l3.length c3,.slice a4 l4.length c4],.int .i64 0]) (by simp [results,Tryz.results54,go_sem]) rfl ⟨⟨a2,[],c2⟩,rfl,o2.below (bal2 w _ _),rfl,bal2 w _ _,HiI.nil _ _ _⟩
  | cons x t =>
   obtain ⟨bb,oo,rfl,hbs,hc0⟩:=o2.ints 0 (by simp)
   have hlen:t.length+1≤5:=o2.len
   have CAP:=Lib.hid (show t.length+1≤c2 from o2.cap)
   have TL:=Lib.hid (ints_tail o2.ints)
   clear o1 o2 o3 o4 hok hw
   dsimp only [List.length_cons]
   simp only [Nat.add_zero,List.getElem_cons_zero] at hc0
   go_enter Tryz.func54,Tryz.ntmps54
   go_wp2_with fail
   ·obtain rfl:t=[]:=List.length_eq_zero_iff.1 (by have:=CAP.out; omega)
    refine (clone_int_n [] _ _ _ _ rfl (by simp) (Ints.nil _ _ _)).mono ?_
    rintro e w1 ⟨⟨a',l',c'⟩,rfl,hsl,hi,hown,hcap,hb⟩
    dsimp only at hsl hi hown hcap
    obtain ⟨⟨d0,d1,d2,d3⟩,f0,f1,f2,f3⟩:=box4 hb (b:=w.heap.size) (by simp; omega) (heap_alloc2_old w _ _)
    obtain ⟨⟨x0,x1,x2,x3⟩,y0,y1,y2,y3⟩:=box4 hb (b:=w.heap.size+1) (by simp) (heap_alloc2_new w _ _)
    have b0:Below w.heap.size w w1:=(bal2 w _ _).trans (hb.mono (by simp; omega))
    have cx:=(b0.cell (p:=⟨bb,oo,none⟩) hbs).trans hc0
    go_wp2
    go_region
    all_goals
     go_wp2
     refine bodyPost_ret (v:=.tuple #[.agg #[.slice a1 l1.length c1,.slice a' l'.length c',.slice a3 l3.length c3,.slice a4 l4.length c4],.int .i64 x]) (by simp [results,Tryz.results54,go_sem, *]) rfl ?_
     refine take_end hsl hown hcap hlen hb ⟨bal2 w _ _,by simp⟩ ?_ (by simp [Bx.set,Bx.get,takeN]) (by simp [Bx.get])
     repeat (first | with_reducible exact Keeps.refl _ _ | (with_reducible refine Keeps.drew ?_) | (with_reducible refine Keeps.setCell ?_ (.inl rfl) _) | (with_reducible refine Keeps.setCell ?_ (.inr rfl) _))
   ·refine (clone_int_n t _ _ _ _ rfl (by omega) ((TL.out.below (bal2 _ _ _) (Nat.le_refl _)).mono (by simp; omega))).mono ?_
    rintro e w1 ⟨⟨a',l',c'⟩,rfl,hsl,hi,hown,hcap,hb⟩
    dsimp only at hsl hi hown hcap
    obtain ⟨⟨d0,d1,d2,d3⟩,f0,f1,f2,f3⟩:=box4 hb (b:=w.heap.size) (by simp; omega) (heap_alloc2_old w _ _)
    obtain ⟨⟨x0,x1,x2,x3⟩,y0,y1,y2,y3⟩:=box4 hb (b:=w.heap.size+1) (by simp) (heap_alloc2_new w _ _)
    have b0:Below w.heap.size w w1:=(bal2 w _ _).trans (hb.mono (by simp; omega))
    have cx:=(b0.cell (p:=⟨bb,oo,none⟩) hbs).trans hc0
    go_wp2
    go_region
    all_goals
     go_wp2
     refine bodyPost_ret (v:=.tuple #[.agg #[.slice a1 l1.length c1,.slice a' l'.length c',.slice a3 l3.length c3,.slice a4 l4.length c4],.int .i64 x]) (by simp [results,Tryz.results54,go_sem, *]) rfl ?_
     refine take_end hsl hown hcap hlen hb ⟨bal2 w _ _,by simp⟩ ?_ (by simp [Bx.set,Bx.get,takeN]) (by simp [Bx.get])
     repeat (first | with_reducible exact Keeps.refl _ _ | (with_reducible refine Keeps.drew ?_) | (with_reducible refine Keeps.setCell ?_ (.inl rfl) _) | (with_reducible refine Keeps.setCell ?_ (.inr rfl) _))
 ·cases l3 with
  | nil =>
   dsimp only [List.length_nil]
   go_enter Tryz.func54,Tryz.ntmps54
   go_wp2
   exact bodyPost_ret (v:=.tuple #[.agg #[.slice a1 l1.length c1,.slice a2 l2.length c2,.slice a3 0 c3,.slice a4 l4.length c4],.int .i64 0]) (by simp [results,Tryz.results54,go_sem]) rfl ⟨⟨a3,[],c3⟩,rfl,o3.below (bal2 w _ _),rfl,bal2 w _ _,HiI.nil _ _ _⟩
  | cons x t =>
   obtain ⟨bb,oo,rfl,hbs,hc0⟩:=o3.ints 0 (by simp)
   have hlen:t.length+1≤5:=o3.len
   have CAP:=Lib.hid (show t.length+1≤c3 from o3.cap)
   have TL:=Lib.hid (ints_tail o3.ints)
   clear o1 o2 o3 o4 hok hw
   dsimp only [List.length_cons]
   simp only [Nat.add_zero,List.getElem_cons_zero] at hc0
   go_enter Tryz.func54,Tryz.ntmps54
   go_wp2_with fail
   ·obtain rfl:t=[]:=List.length_eq_zero_iff.1 (by have:=CAP.out; omega)
    refine (clone_int_n [] _ _ _ _ rfl (by simp) (Ints.nil _ _ _)).mono ?_
    rintro e w1 ⟨⟨a',l',c'⟩,rfl,hsl,hi,hown,hcap,hb⟩
    dsimp only at hsl hi hown hcap
    obtain ⟨⟨d0,d1,d2,d3⟩,f0,f1,f2,f3⟩:=box4 hb (b:=w.heap.size) (by simp; omega) (heap_alloc2_old w _ _)
    obtain ⟨⟨x0,x1,x2,x3⟩,y0,y1,y2,y3⟩:=box4 hb (b:=w.heap.size+1) (by simp) (heap_alloc2_new w _ _)
    have b0:Below w.heap.size w w1:=(bal2 w _ _).trans (hb.mono (by simp; omega))
    have cx:=(b0.cell (p:=⟨bb,oo,none⟩) hbs).trans hc0
    go_wp2
    go_region
    all_goals
     go_wp2
     refine bodyPost_ret (v:=.tuple #[.agg #[.slice a1 l1.length c1,.slice a2 l2.length c2,.slice a' l'.length c',.slice a4 l4.length c4],.int .i64 x]) (by simp [results,Tryz.results54,go_sem, *]) rfl ?_
     refine take_end hsl hown hcap hlen hb ⟨bal2 w _ _,by simp⟩ ?_ (by simp [Bx.set,Bx.get,takeN]) (by simp [Bx.get])
     repeat (first | with_reducible exact Keeps.refl _ _ | (with_reducible refine Keeps.drew ?_) | (with_reducible refine Keeps.setCell ?_ (.inl rfl) _) | (with_reducible refine Keeps.setCell ?_ (.inr rfl) _))
   ·refine (clone_int_n t _ _ _ _ rfl (by omega) ((TL.out.below (bal2 _ _ _) (Nat.le_refl _)).mono (by simp; omega))).mono ?_
    rintro e w1 ⟨⟨a',l',c'⟩,rfl,hsl,hi,hown,hcap,hb⟩
    dsimp only at hsl hi hown hcap
    obtain ⟨⟨d0,d1,d2,d3⟩,f0,f1,f2,f3⟩:=box4 hb (b:=w.heap.size) (by simp; omega) (heap_alloc2_old w _ _)
    obtain ⟨⟨x0,x1,x2,x3⟩,y0,y1,y2,y3⟩:=box4 hb (b:=w.heap.size+1) (by simp) (heap_alloc2_new w _ _)
    have b0:Below w.heap.size w w1:=(bal2 w _ _).trans (hb.mono (by simp; omega))
    have cx:=(b0.cell (p:=⟨bb,oo,none⟩) hbs).trans hc0
    go_wp2
    go_region
    all_goals
     go_wp2
     refine bodyPost_ret (v:=.tuple #[.agg #[.slice a1 l1.length c1,.slice a2 l2.length c2,.slice a' l'.length c',.slice a4 l4.length c4],.int .i64 x]) (by simp [results,Tryz.results54,go_sem, *]) rfl ?_
     refine take_end hsl hown hcap hlen hb ⟨bal2 w _ _,by simp⟩ ?_ (by simp [Bx.set,Bx.get,takeN]) (by simp [Bx.get])
     repeat (first | with_reducible exact Keeps.refl _ _ | (with_reducible refine Keeps.drew ?_) | (with_reducible refine Keeps.setCell ?_ (.inl rfl) _) | (with_reducible refine Keeps.setCell ?_ (.inr rfl) _))
 ·cases l4 with
  | nil =>
   dsimp only [List.length_nil]
   go_enter Tryz.func54,Tryz.ntmps54
   go_wp2
   exact bodyPost_ret (v:=.tuple #[.agg #[.slice a1 l1.length c1,.slice a2 l2.length c2,.slice a3 l3.length c3,.slice a4 0 c4],.int .i64 0]) (by simp [results,Tryz.results54,go_sem]) rfl ⟨⟨a4,[],c4⟩,rfl,o4.below (bal2 w _ _),rfl,bal2 w _ _,HiI.nil _ _ _⟩
  | cons x t =>
   obtain ⟨bb,oo,rfl,hbs,hc0⟩:=o4.ints 0 (by simp)
   have hlen:t.length+1≤5:=o4.len
   have CAP:=Lib.hid (show t.length+1≤c4 from o4.cap)
   have TL:=Lib.hid (ints_tail o4.ints)
   clear o1 o2 o3 o4 hok hw
   dsimp only [List.length_cons]
   simp only [Nat.add_zero,List.getElem_cons_zero] at hc0
   go_enter Tryz.func54,Tryz.ntmps54
   go_wp2_with fail
   ·obtain rfl:t=[]:=List.length_eq_zero_iff.1 (by have:=CAP.out; omega)
    refine (clone_int_n [] _ _ _ _ rfl (by simp) (Ints.nil _ _ _)).mono ?_
    rintro e w1 ⟨⟨a',l',c'⟩,rfl,hsl,hi,hown,hcap,hb⟩
    dsimp only at hsl hi hown hcap
    obtain ⟨⟨d0,d1,d2,d3⟩,f0,f1,f2,f3⟩:=box4 hb (b:=w.heap.size) (by simp; omega) (heap_alloc2_old w _ _)
    obtain ⟨⟨x0,x1,x2,x3⟩,y0,y1,y2,y3⟩:=box4 hb (b:=w.heap.size+1) (by simp) (heap_alloc2_new w _ _)
    have b0:Below w.heap.size w w1:=(bal2 w _ _).trans (hb.mono (by simp; omega))
    have cx:=(b0.cell (p:=⟨bb,oo,none⟩) hbs).trans hc0
    go_wp2
    go_region
    all_goals
     go_wp2
     refine bodyPost_ret (v:=.tuple #[.agg #[.slice a1 l1.length c1,.slice a2 l2.length c2,.slice a3 l3.length c3,.slice a' l'.length c'],.int .i64 x]) (by simp [results,Tryz.results54,go_sem, *]) rfl ?_
     refine take_end hsl hown hcap hlen hb ⟨bal2 w _ _,by simp⟩ ?_ (by simp [Bx.set,Bx.get,takeN]) (by simp [Bx.get])
     repeat (first | with_reducible exact Keeps.refl _ _ | (with_reducible refine Keeps.drew ?_) | (with_reducible refine Keeps.setCell ?_ (.inl rfl) _) | (with_reducible refine Keeps.setCell ?_ (.inr rfl) _))
   ·refine (clone_int_n t _ _ _ _ rfl (by omega) ((TL.out.below (bal2 _ _ _) (Nat.le_refl _)).mono (by simp; omega))).mono ?_
    rintro e w1 ⟨⟨a',l',c'⟩,rfl,hsl,hi,hown,hcap,hb⟩
    dsimp only at hsl hi hown hcap
    obtain ⟨⟨d0,d1,d2,d3⟩,f0,f1,f2,f3⟩:=box4 hb (b:=w.heap.size) (by simp; omega) (heap_alloc2_old w _ _)
    obtain ⟨⟨x0,x1,x2,x3⟩,y0,y1,y2,y3⟩:=box4 hb (b:=w.heap.size+1) (by simp) (heap_alloc2_new w _ _)
    have b0:Below w.heap.size w w1:=(bal2 w _ _).trans (hb.mono (by simp; omega))
    have cx:=(b0.cell (p:=⟨bb,oo,none⟩) hbs).trans hc0
    go_wp2
    go_region
    all_goals
     go_wp2
     refine bodyPost_ret (v:=.tuple #[.agg #[.slice a1 l1.length c1,.slice a2 l2.length c2,.slice a3 l3.length c3,.slice a' l'.length c'],.int .i64 x]) (by simp [results,Tryz.results54,go_sem, *]) rfl ?_
     refine take_end hsl hown hcap hlen hb ⟨bal2 w _ _,by simp⟩ ?_ (by simp [Bx.set,Bx.get,takeN]) (by simp [Bx.get])
     repeat (first | with_reducible exact Keeps.refl _ _ | (with_reducible refine Keeps.drew ?_) | (with_reducible refine Keeps.setCell ?_ (.inl rfl) _) | (with_reducible refine Keeps.setCell ?_ (.inr rfl) _))
end Go.Proofs.YtajegiifabfcjaaGreatDoor
namespace Go.Proofs.YtajegiifabfcjaaGreatDoor
open Go.RowKit Go.Lib
structure Bl where
 b1:List Int
 b2:List Int
 b3:List Int
 b4:List Int
def Bl.zero:Bl:=⟨[],[],[],[]⟩
def Bl.pow:Bl:=⟨[4],[4],[4],[4]⟩
def Bl.get (b:Bl) (k:Int):List Int:=if k=1 then b.b1 else if k=2 then b.b2 else if k=3 then b.b3 else b.b4
def Bl.set (b:Bl) (k:Int) (l:List Int):Bl:=if k=1 then { b with b1:=l } else if k=2 then { b with b2:=l } else if k=3 then { b with b3:=l } else { b with b4:=l }
def Bl.add (b:Bl) (x:Int × Int):Bl:=b.set x.1 (addL (b.get x.1) x.2)
def Bl.adds (b:Bl) (l:List (Int × Int)):Bl:=l.foldl Bl.add b
structure Bl.ok (b:Bl):Prop where
 len:∀ k,(b.get k).length≤5
 num:∀ k,∀ x∈b.get k,1≤x∧x≤4
structure Wt where
 tag:Int
 who:Int
 num:Int
 hv:List Int
structure Tg where
 k:Kp
 g:Gp
 b:Bl
 num:Int
 tag:Int
 wait:List Wt
 fly:List Ms
 done:List Int
def Tg.ready (t:Tg):Tg:={ t with g:=t.g.fence t.k.ep }
def Tg.isReady (t:Tg):Bool:=decide (2≤((t.g.fence t.k.ep).mem t.k.ep).length)
def Tg.keep (n:Nat) (t:Tg) (ep:Int) (s:St):Tg × Int:=({ t with k:=(t.k.keep n ep s).1 },(t.k.keep n ep s).2)
def Tg.fresh (t:Tg):Tg:={ t with num:=0,wait:=[] }
def Tg.next (n:Nat) (t:Tg) (s:St):Tg × Int :=
 if t.isReady=false then (t.ready,7)
 else if t.k.ep=1000000 then (t.ready,6)
 else if (t.ready.keep n (t.k.ep+1) t.k.s).2≠0 then t.ready.keep n (t.k.ep+1) t.k.s
 else
  let t2:=(t.ready.keep n (t.k.ep+1) t.k.s).1.fresh
  if t2.isReady=false then (t2.ready,7) else t2.ready.keep n t2.k.ep s
def Tg.order (n:Nat) (t:Tg) (c:Cmd):Tg × Int :=
 if (pdo t.k.s c).2.2≠0 then (t,(pdo t.k.s c).2.2)
 else
  let x:=if lessB pmay t.k.s (pdo t.k.s c).1 then t.next n (pdo t.k.s c).1 else t.keep n t.k.ep (pdo t.k.s c).1
  if x.2≠0 then x else ({ x.1 with b:=x.1.b.adds (pdo t.k.s c).2.1 },0)
def Tg.read (t:Tg) (at':Nat):Tg × ByteArray × Int :=
 if t.isReady=false then (t.ready,⟨#[]⟩,7) else ({ t.ready with g:=t.ready.g.read t.k.ep at' },(t.ready.g.readC t.k.ep at').d,0)
def Tg.msg (t:Tg) (c:Cmd) (i:Int):Ms:=⟨i,c.at',⟨t.k.ep,t.num+1,c.data⟩,t.tag+1⟩
def Tg.write (t:Tg) (c:Cmd):Tg × Int × Int :=
 if t.wait.length=6∨40<t.fly.length+3 then (t,0,6)
 else ({ t with num:=t.num+1,tag:=t.tag+1,fly:=t.fly ++ [t.msg c 0,t.msg c 1,t.msg c 2],wait:=t.wait ++ [⟨t.tag+1,c.who,t.num+1,[]⟩] },t.tag+1,0)
def Tg.busy (t:Tg) (at':Int):Bool:=t.fly.any fun m=>decide (m.at'=at') && decide (m.c.e=t.k.ep)
def Tg.refuse (t:Tg) (bad:Int) (at':Int):Int:=if bad≠0 then bad else if t.busy at' then 7 else 9
structure Ans where
 data:ByteArray
 tag:Int
 what:Int
 err:Int
def Ans.bad (f:Int):Ans:=⟨⟨#[]⟩,0,0,f⟩
def Tg.doWrite (t:Tg) (c:Cmd):Tg × Ans:=((t.write c).1,⟨⟨#[]⟩,(t.write c).2.1,0,(t.write c).2.2⟩)
def Tg.doComp (t:Tg) (c:Cmd):Tg × Ans :=
 let r:=t.read c.at'.toNat
 if r.2.2≠0∨r.2.1≠c.want∨r.1.busy c.at'=true then (r.1,Ans.bad (r.1.refuse r.2.2 c.at')) else r.1.doWrite c
def Tg.ask (n:Nat) (t:Tg) (c:Cmd):Tg × Ans :=
 if cmdFault c≠0 then (t,Ans.bad (cmdFault c))
 else if 0<takeN (t.b.get c.who) then ({ t with b:=t.b.set c.who (t.b.get c.who).tail },⟨⟨#[]⟩,0,takeN (t.b.get c.who),0⟩)
 else if c.op≤6 then ((t.order n c).1,Ans.bad (t.order n c).2)
 else if pmay t.k.s c.who (decide (c.op≠7))=false then (t,Ans.bad 4)
 else if c.op=7 then ((t.read c.at'.toNat).1,⟨(t.read c.at'.toNat).2.1,0,0,(t.read c.at'.toNat).2.2⟩)
 else if t.isReady=false then (t.ready,Ans.bad 7)
 else if c.op=9 then t.ready.doComp c
 else t.ready.doWrite c
def Wt.put (w:Wt) (i:Int):Wt:={ w with hv:=if i∈w.hv then w.hv else w.hv ++ [i] }
def Tg.came (t:Tg) (m:Ms):Tg :=
 match t.wait.find? (fun w=>decide (w.tag=m.tag)) with
 | none=>t
 | some w =>
  if 2≤(w.put m.tt).hv.length then { t with wait:=t.wait.filter (fun w=>decide (w.tag≠m.tag)),done:=if m.tag∈t.done then t.done else t.done ++ [m.tag] }
  else { t with wait:=t.wait.map fun w=>if w.tag=m.tag then w.put m.tt else w }
def Tg.deliver (t:Tg) (i:Int) (stays:Bool):Tg × Bool × Int :=
 if i<0∨(t.fly.length:Int)≤i then (t,false,8)
 else
  let m:=t.fly.getD i.toNat ⟨0,0,Cel.zero,0⟩
  let t1:={ t with fly:=if stays then t.fly else t.fly.eraseIdx i.toNat,g:=t.g.deliver m.tt.toNat m.at'.toNat m.c }
  if t.g.delivers m.tt.toNat m.c then (t1.came m,true,0) else (t1,false,0)
def Tg.lose (t:Tg) (i:Int):Tg × Int :=
 if i<0∨(t.fly.length:Int)≤i then (t,8) else ({ t with fly:=t.fly.eraseIdx i.toNat },0)
def Tg.up (t:Tg) (i:Int) (up:Bool):Tg × Int:=if i<0∨3≤i then (t,8) else ({ t with g:=t.g.setU i.toNat up },0)
def Tg.sync (t:Tg) (i:Int):Tg × Int :=
 if i<0∨3≤i then (t,8) else if t.g.syncs t.k.ep i.toNat then ({ t with g:=t.g.sync t.k.ep i.toNat },0) else (t,7)
def St.lost (s:St):St:=if s.stays then { s with gen:=0 } else St.zero
def Tg.power (n:Nat) (t:Tg):Tg × Int :=
 let x:=t.next n t.k.s.lost
 if x.2≠0 then x else ({ x.1 with b:=Bl.pow },0)
def Tg.start (k:Kp) (g:Gp):Tg:=⟨k,g,Bl.zero,0,0,[],[],[]⟩
def Tg.new (n:Nat) (k:Kp) (g:Gp):Tg × Int:=(Tg.start k g).next n k.s
end Go.Proofs.YtajegiifabfcjaaGreatDoor
namespace Go.Proofs.YtajegiifabfcjaaGreatDoor
open Go.RowKit Go.Sort
def setO (w:World) (b:Nat) (o:Obj):World:={ w with heap:=w.heap.setIfInBounds b o }
theorem setO_at {w:World} {b:Nat} {o p:Obj} (h:w.heap[b]?=some p):(setO w b o).heap[b]?=some o:=(MapKept.heap_set h).1
theorem setO_ne {w:World} {b k:Nat} {o:Obj} (h:k≠b):(setO w b o).heap[k]?=w.heap[k]?:=by
 unfold setO; simp [Ne.symm h]
theorem setO_size (w:World) (b:Nat) (o:Obj):(setO w b o).heap.size=w.heap.size:=by simp [setO]
theorem Below.setO {B:Nat} {a w:World} (h:Below B a w) {b:Nat} (hb:B≤b) (o:Obj):Below B a (setO w b o) :=
 h.trans ⟨rfl,rfl,rfl,by rw [setO_size]; exact Nat.le_refl _,fun k hk=>setO_ne (by omega)⟩
section
variable {P:Program} {ops:Array Oper} {Q:Exit→Act→World→Prop} {md:Region.Mode} {S:World→Prop}
theorem grid (B:Nat) (c:Nat→Nat) (m a b:Nat) (F:Nat→Option Nat→Act) (L:Nat→Nat→Array Bool) (ka va kb vb:Value)
  (hc:∀ i j,i<3→j<4→(L i j).setIfInBounds (c i) true=L (i+1) j) (h01:∀ i,i≤3→(L i 0).setIfInBounds m true=L i 1)
  (h12:∀ i,i≤3→(L i 1).setIfInBounds a true=L i 2) (h13:∀ i,i≤3→(L i 1).setIfInBounds b true=L i 3) (h24:∀ i,i≤3→(L i 2).setIfInBounds b true=L i 4) (h34:∀ i,i≤3→(L i 3).setIfInBounds a true=L i 4)
  (hrB:((List.range 4).all fun i=>(List.range 4).all fun j=>!(Region.ready md ops (L i j)).isEmpty && (Region.ready md ops (L i j)).all fun x=>(x == c i && decide (i<3)) || (x == m && j == 0) || (x == a && (j == 1 || j == 3)) || (x == b && (j == 1 || j == 2)))=true)
  (hcall:∀ i blk w (K:Act→World→Prop),i<3→S w→(∀ w',S w'→Below w.heap.size w w'→K (F (i+1) blk) w')→wpOp P ops Q (c i) K (F i blk) w)
  (hmake:∀ i w (K:Act→World→Prop),i≤3→S w→K (F i (some w.heap.size)) (w.alloc (.map #[] 0))→wpOp P ops Q m K (F i none) w)
  (ha:∀ i blk w (K:Act→World→Prop) es cl,i≤3→S w→w.heap[blk]?=some (.map es cl)→(es=#[]∨es=#[⟨kb,vb,0⟩])→K (F i (some blk)) (setO w blk (.map (es.push ⟨ka,va,cl⟩) (cl+1)))→wpOp P ops Q a K (F i (some blk)) w)
  (hb:∀ i blk w (K:Act→World→Prop) es cl,i≤3→S w→w.heap[blk]?=some (.map es cl)→(es=#[]∨es=#[⟨ka,va,0⟩])→K (F i (some blk)) (setO w blk (.map (es.push ⟨kb,vb,cl⟩) (cl+1)))→wpOp P ops Q b K (F i (some blk)) w)
  (hSm:∀ w,S w→S (w.alloc (.map #[] 0))) (hSs:∀ w blk o,S w→B≤blk→S (setO w blk o)) (hSB:∀ w,S w→B≤w.heap.size) (fuel:Nat)
  (hfin:∀ i blk w es,i≤3→S w→B≤blk→w.heap[blk]?=some (.map es 2)→(es=#[⟨ka,va,0⟩,⟨kb,vb,1⟩]∨es=#[⟨kb,vb,0⟩,⟨ka,va,1⟩])→wpAnyH P md ops Q S (fuel+(3 - i)) (L i 4) (F i (some blk)) w) :
  ∀ w,S w→wpAnyH P md ops Q S (fuel+6) (L 0 0) (F 0 none) w:=by
 have hrA:∀ i j,i≤3→j<4→(!(Region.ready md ops (L i j)).isEmpty && (Region.ready md ops (L i j)).all fun x=>(x == c i && decide (i<3)) || (x == m && j == 0) || (x == a && (j == 1 || j == 3)) || (x == b && (j == 1 || j == 2)))=true:=fun i j hi hj =>
  List.all_eq_true.1 (List.all_eq_true.1 hrB i (List.mem_range.2 (by omega))) j (List.mem_range.2 hj)
 have hne:∀ i j,i≤3→j<4→Region.ready md ops (L i j)≠[]:=fun i j hi hj e=>by
  have:=hrA i j hi hj
  rw [e] at this
  cases this
 have hr:∀ i j,i≤3→j<4→∀ x∈Region.ready md ops (L i j),(x=c i∧i<3)∨(x=m∧j=0)∨(x=a∧(j=1∨j=3))∨(x=b∧(j=1∨j=2)):=fun i j hi hj x hx=>by
  have:=hrA i j hi hj
  rw [Bool.and_eq_true,List.all_eq_true] at this
  have:=this.2 x hx
  simp only [Bool.or_eq_true,Bool.and_eq_true,beq_iff_eq,decide_eq_true_eq] at this
  omega
 have lt_of:∀ {w:World} {blk:Nat} {o:Obj},w.heap[blk]?=some o→blk<w.heap.size:=fun h=>(Array.getElem?_eq_some_iff.1 h).1
 have T2:∀ n i,i+n=3→∀ blk w,S w→B≤blk→w.heap[blk]?=some (.map #[⟨ka,va,0⟩] 1)→wpAnyH P md ops Q S (fuel+(3 - i)+1) (L i 2) (F i (some blk)) w:=by
  intro n
  induction n with
  | zero =>
   intro i hi blk w hS hB hh
   refine ⟨fun h0=>absurd h0 (hne i 2 (by omega) (by omega)),fun x hx=>?_⟩
   rcases hr i 2 (by omega) (by omega) x hx with ⟨_,h⟩ | ⟨_,h⟩ | ⟨_,h⟩ | ⟨rfl,_⟩
   ·omega
   ·omega
   ·omega
   ·refine hb i blk w _ _ _ (by omega) hS hh (.inr rfl) ⟨hSs _ _ _ hS hB,?_⟩
    rw [h24 i (by omega)]
    exact hfin i blk _ _ (by omega) (hSs _ _ _ hS hB) hB (setO_at hh) (.inl rfl)
  | succ n ih =>
   intro i hi blk w hS hB hh
   refine ⟨fun h0=>absurd h0 (hne i 2 (by omega) (by omega)),fun x hx=>?_⟩
   rcases hr i 2 (by omega) (by omega) x hx with ⟨rfl,h⟩ | ⟨_,h⟩ | ⟨_,h⟩ | ⟨rfl,_⟩
   ·refine hcall i (some blk) w _ h hS (fun w' hS' hb'=>⟨hS',?_⟩)
    rw [hc i 2 h (by omega),show fuel+(3 - i)=fuel+(3 - (i+1))+1 by omega]
    exact ih (i+1) (by omega) blk w' hS' hB ((hb'.block _ (lt_of hh)).trans hh)
   ·omega
   ·omega
   ·refine hb i blk w _ _ _ (by omega) hS hh (.inr rfl) ⟨hSs _ _ _ hS hB,?_⟩
    rw [h24 i (by omega)]
    exact hfin i blk _ _ (by omega) (hSs _ _ _ hS hB) hB (setO_at hh) (.inl rfl)
 have T3:∀ n i,i+n=3→∀ blk w,S w→B≤blk→w.heap[blk]?=some (.map #[⟨kb,vb,0⟩] 1)→wpAnyH P md ops Q S (fuel+(3 - i)+1) (L i 3) (F i (some blk)) w:=by
  intro n
  induction n with
  | zero =>
   intro i hi blk w hS hB hh
   refine ⟨fun h0=>absurd h0 (hne i 3 (by omega) (by omega)),fun x hx=>?_⟩
   rcases hr i 3 (by omega) (by omega) x hx with ⟨_,h⟩ | ⟨_,h⟩ | ⟨rfl,_⟩ | ⟨_,h⟩
   ·omega
   ·omega
   ·refine ha i blk w _ _ _ (by omega) hS hh (.inr rfl) ⟨hSs _ _ _ hS hB,?_⟩
    rw [h34 i (by omega)]
    exact hfin i blk _ _ (by omega) (hSs _ _ _ hS hB) hB (setO_at hh) (.inr rfl)
   ·omega
  | succ n ih =>
   intro i hi blk w hS hB hh
   refine ⟨fun h0=>absurd h0 (hne i 3 (by omega) (by omega)),fun x hx=>?_⟩
   rcases hr i 3 (by omega) (by omega) x hx with ⟨rfl,h⟩ | ⟨_,h⟩ | ⟨rfl,_⟩ | ⟨_,h⟩
   ·refine hcall i (some blk) w _ h hS (fun w' hS' hb'=>⟨hS',?_⟩)
    rw [hc i 3 h (by omega),show fuel+(3 - i)=fuel+(3 - (i+1))+1 by omega]
    exact ih (i+1) (by omega) blk w' hS' hB ((hb'.block _ (lt_of hh)).trans hh)
   ·omega
   ·refine ha i blk w _ _ _ (by omega) hS hh (.inr rfl) ⟨hSs _ _ _ hS hB,?_⟩
    rw [h34 i (by omega)]
    exact hfin i blk _ _ (by omega) (hSs _ _ _ hS hB) hB (setO_at hh) (.inr rfl)
   ·omega
 have T1:∀ n i,i+n=3→∀ blk w,S w→B≤blk→w.heap[blk]?=some (.map #[] 0)→wpAnyH P md ops Q S (fuel+(3 - i)+2) (L i 1) (F i (some blk)) w:=by
  intro n
  induction n with
  | zero =>
   intro i hi blk w hS hB hh
   refine ⟨fun h0=>absurd h0 (hne i 1 (by omega) (by omega)),fun x hx=>?_⟩
   rcases hr i 1 (by omega) (by omega) x hx with ⟨_,h⟩ | ⟨_,h⟩ | ⟨rfl,_⟩ | ⟨rfl,_⟩
   ·omega
   ·omega
   ·refine ha i blk w _ _ _ (by omega) hS hh (.inl rfl) ⟨hSs _ _ _ hS hB,?_⟩
    rw [h12 i (by omega)]
    exact T2 0 i (by omega) blk _ (hSs _ _ _ hS hB) hB (setO_at hh)
   ·refine hb i blk w _ _ _ (by omega) hS hh (.inl rfl) ⟨hSs _ _ _ hS hB,?_⟩
    rw [h13 i (by omega)]
    exact T3 0 i (by omega) blk _ (hSs _ _ _ hS hB) hB (setO_at hh)
  | succ n ih =>
   intro i hi blk w hS hB hh
   refine ⟨fun h0=>absurd h0 (hne i 1 (by omega) (by omega)),fun x hx=>?_⟩
   rcases hr i 1 (by omega) (by omega) x hx with ⟨rfl,h⟩ | ⟨_,h⟩ | ⟨rfl,_⟩ | ⟨rfl,_⟩
   ·refine hcall i (some blk) w _ h hS (fun w' hS' hb'=>⟨hS',?_⟩)
    rw [hc i 1 h (by omega),show fuel+(3 - i)+1=fuel+(3 - (i+1))+2 by omega]
    exact ih (i+1) (by omega) blk w' hS' hB ((hb'.block _ (lt_of hh)).trans hh)
   ·omega
   ·refine ha i blk w _ _ _ (by omega) hS hh (.inl rfl) ⟨hSs _ _ _ hS hB,?_⟩
    rw [h12 i (by omega)]
    exact T2 (n+1) i hi blk _ (hSs _ _ _ hS hB) hB (setO_at hh)
   ·refine hb i blk w _ _ _ (by omega) hS hh (.inl rfl) ⟨hSs _ _ _ hS hB,?_⟩
    rw [h13 i (by omega)]
    exact T3 (n+1) i hi blk _ (hSs _ _ _ hS hB) hB (setO_at hh)
 have T0:∀ n i,i+n=3→∀ w,S w→wpAnyH P md ops Q S (fuel+(3 - i)+3) (L i 0) (F i none) w:=by
  intro n
  induction n with
  | zero =>
   intro i hi w hS
   refine ⟨fun h0=>absurd h0 (hne i 0 (by omega) (by omega)),fun x hx=>?_⟩
   rcases hr i 0 (by omega) (by omega) x hx with ⟨_,h⟩ | ⟨rfl,_⟩ | ⟨_,h⟩ | ⟨_,h⟩
   ·omega
   ·refine hmake i w _ (by omega) hS ⟨hSm _ hS,?_⟩
    rw [h01 i (by omega)]
    exact T1 0 i (by omega) _ _ (hSm _ hS) (hSB _ hS) (heap_alloc_new w _)
   ·omega
   ·omega
  | succ n ih =>
   intro i hi w hS
   refine ⟨fun h0=>absurd h0 (hne i 0 (by omega) (by omega)),fun x hx=>?_⟩
   rcases hr i 0 (by omega) (by omega) x hx with ⟨rfl,h⟩ | ⟨rfl,_⟩ | ⟨_,h⟩ | ⟨_,h⟩
   ·refine hcall i none w _ h hS (fun w' hS' _=>⟨hS',?_⟩)
    rw [hc i 0 h (by omega),show fuel+(3 - i)+2=fuel+(3 - (i+1))+3 by omega]
    exact ih (i+1) (by omega) w' hS'
   ·refine hmake i w _ (by omega) hS ⟨hSm _ hS,?_⟩
    rw [h01 i (by omega)]
    exact T1 (n+1) i hi _ _ (hSm _ hS) (hSB _ hS) (heap_alloc_new w _)
   ·omega
   ·omega
 intro w hS
 exact T0 3 0 rfl w hS
end
theorem wpAnyH_weaken {P:Program} {ops:Array Oper} {Q:Exit→Act→World→Prop} {md:Region.Mode} {S S':World→Prop} (h:∀ w,S' w→S w):∀ (fuel:Nat) (listed:Array Bool) (a:Act) (w:World),wpAnyH P md ops Q S' fuel listed a w→wpAnyH P md ops Q S fuel listed a w
 | 0,_,_,_,hh=>hh
 | fuel+1,_,_,_,hh=>⟨hh.1,fun i hi=>wpOp_mono (fun a' w' h'=>⟨h _ h'.1,wpAnyH_weaken h fuel _ a' w' h'.2⟩) (hh.2 i hi)⟩
theorem tail3 {P:Program} {ops:Array Oper} {Q:Exit→Act→World→Prop} {md:Region.Mode} {S:World→Prop} {o1 o2:Oper} {v1 v2:Value} (p q:Nat) (c:Nat→Nat) (F F1 G:Nat→Act) (L M:Nat→Array Bool) (fuel:Nat)
  (hp:ops[p]?=some o1) (hq:ops[q]?=some o2) (hsel:Region.noSelect ops=true)
  (hB:((List.range 4).all fun i=>Region.free md ops (L i) p && (Region.ready md ops (L i)).contains p && Region.free md ops ((L i).setIfInBounds p true) q && (Region.ready md ops ((L i).setIfInBounds p true)).contains q && (decide (i=3) || Region.ready md ops (M i) == [c i]))=true)
  (hLM:∀ i,i≤3→((L i).setIfInBounds p true).setIfInBounds q true=M i) (hM:∀ i,i<3→(M i).setIfInBounds (c i) true=M (i+1))
  (hF:∀ i,i≤3→(F i).put o1.dst v1=F1 i∧(F1 i).put o2.dst v2=G i)
  (hQ1:∀ c a w,Q (.panic c) (Act.put a o1.dst v1) w→Q (.panic c) a w) (hQ2:∀ c a w,Q (.panic c) (Act.put a o2.dst v2) w→Q (.panic c) a w)
  (hy1:∀ i,i≤3→YieldsIf P ops S o1 v1 (F i)) (hy2:∀ i,i≤3→YieldsIf P ops S o2 v2 (F1 i))
  (hcall:∀ i w (K:Act→World→Prop),i<3→S w→(∀ w',S w'→K (G (i+1)) w')→wpOp P ops Q (c i) K (G i) w)
  (h3:∀ w,S w→wpAnyH P md ops Q S fuel (M 3) (G 3) w) :
  ∀ i,i≤3→∀ w,S w→wpAnyH P md ops Q S (fuel+(3 - i)+1+1) (L i) (F i) w:=by
 have hA:∀ i,i≤3→_:=fun i hi=>List.all_eq_true.1 hB i (List.mem_range.2 (by omega))
 simp only [Bool.and_eq_true,Bool.or_eq_true,decide_eq_true_eq,beq_iff_eq] at hA
 have C:∀ n i,i+n=3→∀ w,S w→wpAnyH P md ops Q S (fuel+(3 - i)) (M i) (G i) w:=by
  intro n
  induction n with
  | zero =>
   intro i hi w hS
   obtain rfl:i=3:=by omega
   exact h3 w hS
  | succ n ih =>
   intro i hi w hS
   have hr:Region.ready md ops (M i)=[c i]:=by
    rcases (hA i (by omega)).2 with h | h
    ·omega
    ·exact h
   rw [show fuel+(3 - i)=fuel+(3 - (i+1))+1 by omega]
   refine ⟨fun h0=>(by rw [hr] at h0; cases h0),fun x hx=>?_⟩
   rw [hr] at hx
   obtain rfl:=List.mem_singleton.1 hx
   refine hcall i w _ (by omega) hS (fun w' hS'=>⟨hS',?_⟩)
   rw [hM i (by omega)]
   exact ih (i+1) (by omega) w' hS'
 intro i hi w hS
 obtain ⟨⟨⟨⟨a1,a2⟩,a3⟩,a4⟩,-⟩:=hA i hi
 refine wpAnyH_take hp hsel a1 a2 hQ1 (hy1 i hi) hS ?_
 rw [(hF i hi).1]
 refine wpAnyH_take hq hsel a3 a4 hQ2 (hy2 i hi) hS ?_
 rw [(hF i hi).2,hLM i hi]
 exact C (3 - i) i (by omega) w hS
theorem run_insert_new {P:Program} {w:World} {mty kt et:TypeId} {d:TypeDesc} {r:Nat} {es:Array MapEntry} {clock:Nat} {key value:Value} (hm:P.underlying mty=some (.map kt et)) (hd:P.underlying kt=some d) (hb:w.heap[r]?=some (.map es clock))
  (hk:MapKept.IsKey d key) (hks:∀ x∈es.toList,MapKept.IsKey d x.key) (hn:∀ x∈es.toList,x.key≠key) :
  (Instr.mapUpdate mty (.map (some r)) key value).run P w=.ok () (setO w r (.map (es.push ⟨key,value,clock⟩) (clock+1))):=by
 rcases MapKept.findNow_spec hk es.toList 0 hks with ⟨h1,_⟩ | ⟨j,e,_,h2,h3⟩
 ·simp [Instr.mapUpdate,run_underlying hm,MapKept.run_getObj_map hb,MapKept.run_checkKey hd hk,MapKept.run_findKey hd h1,MapKept.run_setObj_map _ hb,Result.andThen,setO]
 ·exact absurd h3 (hn e (List.mem_of_getElem? h2))
theorem run_look {P:Program} {w:World} {mty kt et:TypeId} {d:TypeDesc} {r:Nat} {es:Array MapEntry} {clock:Nat} {key v:Value} (hm:P.underlying mty=some (.map kt et)) (hd:P.underlying kt=some d) (hb:w.heap[r]?=some (.map es clock))
  (hk:MapKept.IsKey d key) {j:Nat} (hf:Instr.findNow d key es.toList 0=some (some (j,v))) (ok:Bool) :
  (Instr.lookup mty (.map (some r)) key ok).run P w=.ok (if ok then .tuple #[v,.bool true] else v) w:=by
 unfold Instr.lookup
 simp [run_underlying hm,MapKept.run_getObj_map hb,MapKept.run_checkKey hd hk,MapKept.run_findKey hd hf,Result.andThen]
end Go.Proofs.YtajegiifabfcjaaGreatDoor
namespace Go.Proofs.YtajegiifabfcjaaGreatDoor
open Go.RowKit
section
variable {P:Program} {ops:Array Oper} {Q:Exit→Act→World→Prop} {md:Region.Mode} {S:World→Prop}
theorem chain1 (n:Nat) (c:Nat→Nat) (m:Nat) (L:Nat→Bool→Array Bool) (R R':Nat→Act→World→Prop)
  (hB:((List.range (n+1)).all fun i=>!(Region.ready md ops (L i false)).isEmpty && ((Region.ready md ops (L i false)).all fun x=>(x == c i && decide (i<n)) || x == m) && (decide (i=n) || Region.ready md ops (L i true) == [c i]))=true)
  (hL:∀ i b,i<n→(L i b).setIfInBounds (c i) true=L (i+1) b) (hLm:∀ i,i≤n→(L i false).setIfInBounds m true=L i true)
  (hS:∀ i a w,R i a w→S w) (hS':∀ i a w,R' i a w→S w)
  (hm:∀ i a w (K:Act→World→Prop),i≤n→R i a w→(∀ a' w',R' i a' w'→K a' w')→wpOp P ops Q m K a w)
  (hc:∀ i a w (K:Act→World→Prop),i<n→R i a w→(∀ a' w',R (i+1) a' w'→K a' w')→wpOp P ops Q (c i) K a w)
  (hc':∀ i a w (K:Act→World→Prop),i<n→R' i a w→(∀ a' w',R' (i+1) a' w'→K a' w')→wpOp P ops Q (c i) K a w)
  (fuel:Nat) (hfin:∀ a w,R' n a w→wpAnyH P md ops Q S fuel (L n true) a w) :
  ∀ a w,R 0 a w→wpAnyH P md ops Q S (fuel+n+1) (L 0 false) a w:=by
 have hA:∀ i,i≤n→_:=fun i hi=>List.all_eq_true.1 hB i (List.mem_range.2 (by omega))
 simp only [Bool.and_eq_true,Bool.or_eq_true,decide_eq_true_eq,beq_iff_eq,List.all_eq_true] at hA
 have T1:∀ k i,i+k=n→∀ a w,R' i a w→wpAnyH P md ops Q S (fuel+k) (L i true) a w:=by
  intro k
  induction k with
  | zero =>
   intro i hi a w h; obtain rfl:i=n:=by omega
   exact hfin a w h
  | succ k ih =>
   intro i hi a w h
   have hr:Region.ready md ops (L i true)=[c i]:=by
    rcases (hA i (by omega)).2 with h | h
    ·omega
    ·exact h
   refine ⟨fun h0=>(by rw [hr] at h0; cases h0),fun x hx=>?_⟩
   rw [hr] at hx
   obtain rfl:=List.mem_singleton.1 hx
   refine hc' i a w _ (by omega) h (fun a' w' h'=>⟨hS' _ _ _ h',?_⟩)
   rw [hL i true (by omega)]
   exact ih (i+1) (by omega) a' w' h'
 have T0:∀ k i,i+k=n→∀ a w,R i a w→wpAnyH P md ops Q S (fuel+k+1) (L i false) a w:=by
  intro k
  induction k with
  | zero =>
   intro i hi a w h
   obtain ⟨⟨h1,h2⟩,-⟩:=hA i (by omega)
   refine ⟨fun h0=>(by rw [h0] at h1; cases h1),fun x hx=>?_⟩
   rcases h2 x hx with ⟨_,h3⟩ | rfl
   ·omega
   ·refine hm i a w _ (by omega) h (fun a' w' h'=>⟨hS' _ _ _ h',?_⟩)
    rw [hLm i (by omega)]
    exact T1 0 i hi a' w' h'
  | succ k ih =>
   intro i hi a w h
   obtain ⟨⟨h1,h2⟩,-⟩:=hA i (by omega)
   refine ⟨fun h0=>(by rw [h0] at h1; cases h1),fun x hx=>?_⟩
   rcases h2 x hx with ⟨rfl,h3⟩ | rfl
   ·refine hc i a w _ h3 h (fun a' w' h'=>⟨hS _ _ _ h',?_⟩)
    rw [hL i false h3]
    exact ih (i+1) (by omega) a' w' h'
   ·refine hm i a w _ (by omega) h (fun a' w' h'=>⟨hS' _ _ _ h',?_⟩)
    rw [hLm i (by omega)]
    exact T1 (k+1) i hi a' w' h'
 intro a w h
 exact T0 n 0 (by omega) a w h
end
end Go.Proofs.YtajegiifabfcjaaGreatDoor
namespace Go.Proofs.YtajegiifabfcjaaGreatDoor
open Go.Lib
theorem splitK_short (c:UInt8):∀ (n:Nat) (l:Bs),∀ x∈splitK [c] 0 n l,x.length≤l.length
 | 0,l=>fun x hx=>by simp [splitK] at hx; subst hx; exact Nat.le_refl _
 | n+1,l=>fun x hx=>by
  unfold splitK at hx
  split at hx
  ·simp at hx; subst hx; exact Nat.le_refl _
  ·rcases List.mem_cons.1 hx with rfl | hx
   ·simp; omega
   ·have:=splitK_short c n _ x hx
    simp at this
    omega
theorem cut_short (l:Bs) (c:Bs):(Lib.cut l c).1.length≤l.length∧(Lib.cut l c).2.1.length≤l.length:=by
 unfold Lib.cut
 split
 ·simp; omega
 ·simp
theorem bsB_list (l:Bs):(bsB l).data.toList=l:=by simp [bsB]
theorem list_bsB (s:ByteArray):bsB s.data.toList=s:=by simp [bsB]
end Go.Proofs.YtajegiifabfcjaaGreatDoor
