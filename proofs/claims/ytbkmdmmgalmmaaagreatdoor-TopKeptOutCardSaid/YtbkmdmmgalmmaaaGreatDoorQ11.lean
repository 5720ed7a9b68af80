/-
  TellBox, Take, Tg
-/
import Derived.Test.YtbkmdmmgalmmaaaGreatDoorQ03
import Derived.Lib.LazyBuf
import Derived.WalkSpells
import Derived.RegionTactic
import Derived.ChangeAlike
import Derived.Test.YtbkmdmmgalmmaaaGreatDoorQ07
import Derived.Test.YtbkmdmmgalmmaaaGreatDoorQ08
import Derived.Test.YtbkmdmmgalmmaaaGreatDoorQ09
import Derived.Test.YtbkmdmmgalmmaaaGreatDoorQ10
namespace Go.Proofs.YtbkmdmmgalmmaaaGreatDoor
open Go.RowKit
theorem ints_cells {B:Nat} {w:World} {b o:Nat} {l:List Int} (h:Ints B w (some ⟨b,o,none⟩) l):∀ j u,(l.map (Value.int .i64))[j]?=some u→w.cell? ((⟨b,o,none⟩:Addr).add j)=some u:=by
 intro j u hj
 have hjl:j<l.length:=by
  have:=(List.getElem?_eq_some_iff.1 hj).1
  simpa using this
 obtain ⟨b',o',e,hb,c1⟩:=h j hjl
 obtain ⟨rfl,rfl⟩:b=b'∧o=o':=by simpa using e
 have hadd:(⟨b,o,none⟩:Addr).add j=⟨b,o+j,none⟩:=by unfold Addr.add; split <;> simp_all
 rw [hadd,c1,← hj]
 simp [hjl]
theorem ints_one (l:List Int):∀ u∈l.map (Value.int .i64),u.oneCell'=true:=by
 intro u hu
 simp only [List.mem_map] at hu
 obtain ⟨r,_,h⟩:=hu
 subst h; rfl
theorem clone_int (l:List Int) (a:Option Addr) (cap:Nat) (w:World) (hl:l.length*8≤140737488355328) (hr:Ints w.heap.size w a l) :
  Calls Tryz.prog 57 #[.slice a l.length cap] w fun e w'=>∃ v,e=.returned v∧OwnI w.heap.size w' v l∧Below w.heap.size w w':=by
 have hq:=fun w=>Lib.run_eql_slice_nil (P:=Tryz.prog) w 54 3 a l.length cap 0 0 Tryz.underlying54
 obtain ⟨i0,hi,hz0,hz1,hz2⟩:=info_parts Tryz.infoInt
 cases a with
 | none =>
  have hz:l=[]:=by
   cases l with
   | nil=>rfl
   | cons r l=>obtain ⟨b,o,e,_⟩:=hr 0 (by simp); cases e
  subst hz
  simp only [List.length_nil,Option.isNone_none] at hq ⊢
  clear hi hz0 hz1 hz2 hr hl
  go_enter Tryz.func57,Tryz.ntmps57
  go_wp2
  go_ret
  exact ⟨_,rfl,⟨rfl,.inl ⟨rfl,rfl⟩⟩,Below.refl _ _⟩
 | some ad =>
  have hcase:l=[]∨∃ b o,ad=⟨b,o,none⟩∧b<w.heap.size:=by
   cases l with
   | nil=>exact .inl rfl
   | cons r l=>obtain ⟨b,o,e,hb,_⟩:=hr 0 (by simp); exact .inr ⟨b,o,by simpa using e,hb⟩
  have hnews:∀ j u,(l.map (Value.int .i64))[j]?=some u→(w.alloc (.cells #[] 3)).cell? (ad.add j)=some u:=by
   rcases hcase with rfl | ⟨b,o,rfl,hb⟩
   ·intro j u h; simp at h
   ·exact ints_cells (hr.below (bal w _) (Nat.le_refl _))
  have hown:(w.alloc (.cells #[] 3)).ownsRow w.heap.size 3 1 (.slice (some ⟨w.heap.size,0,none⟩) 0 0) 0 [] :=
   ⟨rfl,.inr ⟨w.heap.size,0,#[],rfl,Nat.le_refl _,heap_alloc_new _ _,Nat.le_refl _,by simp [maxLen],rfl,rfl⟩⟩
  go_enter Tryz.func57,Tryz.ntmps57
  go_wp2_with (at_builtin; refine wpList_append_own _ rfl _ _ 54 rfl w.heap.size 3 i0 (.int .i64 0) 1 8 Tryz.underlying54 hi hz0 hz1 hz2 rfl (by decide) _ _ _ rfl hown ad l.length cap (l.map (Value.int .i64)) rfl (by simp) hnews (ints_one l) ?c3 ?c4 ?c5 ?_)
  case c3=>unfold maxLen; omega
  case c4=>omega
  case c5=>simp
  intro v' w1 hown1 hg1 _
  go_wp2
  go_ret
  refine ⟨_,rfl,?_,?_⟩
  ·simpa [OwnI] using hown1
  ·exact (bal w _).grown hg1 (by simp) (fun k hk=>by simp [Value.ownBlock] at hk; omega)
theorem OwnI.cap {B:Nat} {w:World} {a:Option Addr} {l:List Int} {n c:Nat} (h:OwnI B w (.slice a n c) l):l.length≤c:=by
 obtain ⟨h1,h2⟩:=h
 rcases h2 with ⟨e,hn⟩ | ⟨g,cap,cur,e,hg,hh,hc,hm,hs,ht⟩
 ·omega
 ·cases e; exact hc
structure Sl where
 a:Option Addr
 l:List Int
 c:Nat
abbrev Sl.v (s:Sl):Value:=.slice s.a s.l.length s.c
structure Sl.ok (s:Sl) (w:World):Prop where
 ints:Ints w.heap.size w s.a s.l
 len:s.l.length≤5
 cap:s.l.length≤s.c
theorem Sl.ok.below {s:Sl} {w w':World} (h:s.ok w) (hb:Below w.heap.size w w'):s.ok w' :=
 ⟨(h.ints.below hb (Nat.le_refl _)).mono hb.size,h.len,h.cap⟩
structure Bx where
 s1:Sl
 s2:Sl
 s3:Sl
 s4:Sl
abbrev Bx.cells (b:Bx):Array Value:=#[b.s1.v,b.s2.v,b.s3.v,b.s4.v]
def Bx.get (b:Bx) (k:Int):Sl:=if k=1 then b.s1 else if k=2 then b.s2 else if k=3 then b.s3 else b.s4
def Bx.set (b:Bx) (k:Int) (s:Sl):Bx:=if k=1 then { b with s1:=s } else if k=2 then { b with s2:=s } else if k=3 then { b with s3:=s } else { b with s4:=s }
structure Bx.ok (b:Bx) (w:World):Prop where
 o1:b.s1.ok w
 o2:b.s2.ok w
 o3:b.s3.ok w
 o4:b.s4.ok w
theorem Bx.ok.below {b:Bx} {w w':World} (h:b.ok w) (hb:Below w.heap.size w w'):b.ok w':=⟨h.o1.below hb,h.o2.below hb,h.o3.below hb,h.o4.below hb⟩
def addL (l:List Int) (x:Int):List Int:=if l.getLast?=some x then l else (l ++ [x]).drop (l.length+1 - 5)
theorem addL_len (l:List Int) (x:Int) (h:l.length≤5):(addL l x).length≤5:=by
 unfold addL; split
 ·exact h
 ·simp; omega
theorem addL_last (l:List Int) (x:Int) (n:Nat) (hn:l.length=n+1) (h:l[n]=x):addL l x=l:=by
 unfold addL; rw [if_pos]
 rw [List.getLast?_eq_getElem?,hn,Nat.add_sub_cancel,List.getElem?_eq_getElem (by omega),h]
theorem addL_new (l:List Int) (x:Int) (n:Nat) (hn:l.length=n+1) (h:l[n]≠x):addL l x=(l ++ [x]).drop (l.length+1 - 5):=by
 unfold addL; rw [if_neg]
 rw [List.getLast?_eq_getElem?,hn,Nat.add_sub_cancel,List.getElem?_eq_getElem (by omega)]
 simpa using h
end Go.Proofs.YtbkmdmmgalmmaaaGreatDoor

namespace Go.Proofs.YtbkmdmmgalmmaaaGreatDoor
open Go.RowKit
def takeN (l:List Int):Int:=l.headD 0
theorem clone_int_n (l:List Int) (a:Option Addr) (cap n:Nat) (w:World) (hn:n=l.length) (hl:l.length*8≤140737488355328) (hr:Ints w.heap.size w a l) :
  Calls Tryz.prog 57 #[.slice a n cap] w fun e w'=>∃ s:Sl,e=.returned s.v∧s.l=l∧Ints w'.heap.size w' s.a s.l∧OwnI w.heap.size w' s.v l∧s.l.length≤s.c∧Below w.heap.size w w':=by
 subst hn
 refine (clone_int l a cap w hl hr).mono ?_
 rintro e w' ⟨v,rfl,hown,hb⟩
 obtain ⟨a',c',rfl,hi⟩:=hown.shape
 exact ⟨⟨a',l,c'⟩,rfl,rfl,hi,hown,hown.cap,hb⟩
theorem ints_tail {B:Nat} {w:World} {b o:Nat} {x:Int} {t:List Int} (h:Ints B w (some ⟨b,o,none⟩) (x :: t)):Ints B w (some ⟨b,o+1,none⟩) t:=by
 intro i hi
 obtain ⟨b',o',e,hb,c1⟩:=h (i+1) (by simp; omega)
 obtain ⟨rfl,rfl⟩:b=b'∧o=o':=by simpa using e
 exact ⟨b,o+1,rfl,hb,by rw [show o+1+i=o+(i+1) from by omega,c1]; rfl⟩
theorem bal2 (w:World) (o p:Obj):Below w.heap.size w ((w.alloc o).alloc p):=(bal w o).alloc (by simp) _
theorem box4 {W w1:World} {n:Nat} (hb:Below n W w1) {b:Nat} (hbn:b<n) {v0 v1 v2 v3:Value} {T:TypeId} (h:W.heap[b]?=some (.cells #[v0,v1,v2,v3] T (0,0))) :
  (w1.cell? ⟨b,0,none⟩=some v0∧w1.cell? ⟨b,1,none⟩=some v1∧w1.cell? ⟨b,2,none⟩=some v2∧w1.cell? ⟨b,3,none⟩=some v3) ∧
  (w1.frozen? ⟨b,0,none⟩=false∧w1.frozen? ⟨b,1,none⟩=false∧w1.frozen? ⟨b,2,none⟩=false∧w1.frozen? ⟨b,3,none⟩=false):=by
 have h1:w1.heap[b]?=some (.cells #[v0,v1,v2,v3] T (0,0)):=(hb.block b hbn).trans h
 simp [World.cell?,World.frozen?,h1]
theorem clone_own (l:List Int) (a:Option Addr) (cap n:Nat) (w:World) (hn:n=l.length) (hl:l.length*8≤140737488355328) (hr:Ints w.heap.size w a l) :
  Calls Tryz.prog 57 #[.slice a n cap] w fun e w'=>∃ a' c',e=.returned (.slice a' n c')∧OwnI w.heap.size w' (.slice a' n c') l∧Below w.heap.size w w':=by
 subst hn
 refine (clone_int l a cap w hl hr).mono ?_
 rintro e w' ⟨v,rfl,hown,hb⟩
 obtain ⟨a',c',rfl,hi⟩:=hown.shape
 exact ⟨a',c',rfl,hown,hb⟩
def TakePost2 (b:Bx) (who:Int) (w:World) (e:Ending) (w':World):Prop :=
 ∃ s:Sl,e=.returned (.tuple #[.agg (b.set who s).cells,.int .i64 (takeN (b.get who).l)])∧s.ok w'∧s.l=(b.get who).l.tail∧Below w.heap.size w w'∧HiI w.heap.size w' s.a s.l
theorem take_end {b:Bx} {who:Int} {w W1 w1 w':World} {a':Option Addr} {l' t:List Int} {c':Nat} {e:Ending} (hl:l'=t) (hown:OwnI W1.heap.size w1 (.slice a' l'.length c') t) (hcap:l'.length≤c') (hlen:t.length+1≤5)
  (hb:Below W1.heap.size W1 w1) (hW:Below w.heap.size w W1∧w.heap.size+2=W1.heap.size) (kp:Keeps (fun k=>k=w.heap.size∨k=w.heap.size+1) w1 w')
  (he:e=.returned (.tuple #[.agg (b.set who ⟨a',l',c'⟩).cells,.int .i64 (takeN (b.get who).l)])) (ht:t=(b.get who).l.tail):TakePost2 b who w e w':=by
 subst hl
 have hk:∀ k,(k=w.heap.size∨k=w.heap.size+1)→k<W1.heap.size:=fun k hk=>by have:=hW.2; omega
 have hz:=hb.size
 have h0:=hW.2
 refine ⟨⟨a',l',c'⟩,he,⟨(hown.keeps kp hk).ints,by show l'.length≤5; omega,hcap⟩,ht,?_,((hown.keeps kp hk).hi).mono (by omega)⟩
 exact (hW.1.trans (hb.mono (by omega))).trans (kp.below (by omega) (fun k hk=>by omega))
set_option maxRecDepth 100000 in
set_option maxHeartbeats 1000000 in
theorem take_any2 (b:Bx) (who:Int) (w:World) (hr:b.ok w) (hw:1≤who∧who≤4) :
  Calls Tryz.prog 28 #[.agg b.cells,.int .i64 who] w (TakePost2 b who w):=by
 obtain ⟨⟨a1,l1,c1⟩,⟨a2,l2,c2⟩,⟨a3,l3,c3⟩,⟨a4,l4,c4⟩⟩:=b
 have hok:=hr
 obtain ⟨o1,o2,o3,o4⟩:=hr
 have h4:who=1∨who=2∨who=3∨who=4:=by omega
 dsimp only [Bx.cells,Sl.v]
 rcases h4 with rfl | rfl | rfl | rfl
 ·cases l1 with
  | nil =>
   dsimp only [List.length_nil]
   go_enter Tryz.func28,Tryz.ntmps28
   go_wp2
   exact bodyPost_ret (v:=.tuple #[.agg #[.slice a1 0 c1,.slice a2 l2.length c2,.slice a3 l3.length c3,.slice a4 l4.length c4],.int .i64 0]) (by simp [results,Tryz.results28,go_sem]) rfl ⟨⟨a1,[],c1⟩,rfl,o1.below (bal2 w _ _),rfl,bal2 w _ _,HiI.nil _ _ _⟩
  | cons x t =>
   obtain ⟨bb,oo,rfl,hbs,hc0⟩:=o1.ints 0 (by simp)
   have hlen:t.length+1≤5:=o1.len
   have CAP:=Lib.hid (show t.length+1≤c1 from o1.cap)
   have TL:=Lib.hid (ints_tail o1.ints)
   clear o1 o2 o3 o4 hok hw
   dsimp only [List.length_cons]
   simp only [Nat.add_zero,List.getElem_cons_zero] at hc0
   go_enter Tryz.func28,Tryz.ntmps28
   go_wp2_with fail
   ·obtain rfl:t=[]:=List.length_eq_zero_iff.1 (by have:=CAP.out; omega)
    refine (clone_int_n [] _ _ _ _ rfl (by simp) (Ints.nil _ _ _)).mono ?_
    rintro e w1 ⟨⟨a',l',c'⟩,rfl,hsl,hi,hown,hcap,hb⟩
    dsimp only at hsl hi hown hcap
    obtain ⟨⟨d0,d1,d2,d3⟩,f0,f1,f2,f3⟩:=box4 hb (b:=w.heap.size) (by simp; omega) (heap_alloc2_old w _ _)
    obtain ⟨⟨x0,x1,x2,x3⟩,y0,y1,y2,y3⟩:=box4 hb (b:=w.heap.size+1) (by simp) (heap_alloc2_new w _ _)
    have b0:Below w.heap.size w w1:=(bal2 w _ _).trans (hb.mono (by simp; omega))
    have cx:=(b0.cell (p:=⟨bb,oo,none⟩) hbs).trans hc0
    go_wp2
    go_region
    all_goals
     go_wp2
     refine bodyPost_ret (v:=.tuple #[.agg #[.slice a' l'.length c',.slice a2 l2.length c2,.slice a3 l3.length c3,.slice a4 l4.length c4],.int .i64 x]) (by simp [results,Tryz.results28,go_sem, *]) rfl ?_
     refine take_end hsl hown hcap hlen hb ⟨bal2 w _ _,by simp⟩ ?_ (by simp [Bx.set,Bx.get,takeN]) (by simp [Bx.get])
     repeat (first | with_reducible exact Keeps.refl _ _ | (with_reducible refine Keeps.drew ?_) | (with_reducible refine Keeps.setCell ?_ (.inl rfl) _) | (with_reducible refine Keeps.setCell ?_ (.inr rfl) _))
   ·refine (clone_int_n t _ _ _ _ rfl (by omega) ((TL.out.below (bal2 _ _ _) (Nat.le_refl _)).mono (by simp; omega))).mono ?_
    rintro e w1 ⟨⟨a',l',c'⟩,rfl,hsl,hi,hown,hcap,hb⟩
    dsimp only at hsl hi hown hcap
    obtain ⟨⟨d0,d1,d2,d3⟩,f0,f1,f2,f3⟩:=box4 hb (b:=w.heap.size) (by simp; omega) (heap_alloc2_old w _ _)
    obtain ⟨⟨x0,x1,x2,x3⟩,y0,y1,y2,y3⟩:=box4 hb (b:=w.heap.size+1) (by simp) (heap_alloc2_new w _ _)
    have b0:Below w.heap.size w w1:=(bal2 w _ _).trans (hb.mono (by simp; omega))
    have cx:=(b0.cell (p:=⟨bb,oo,none⟩) hbs).trans hc0
    go_wp2
    go_region
    all_goals
     go_wp2
     refine bodyPost_ret (v:=.tuple #[.agg #[.slice a' l'.length c',.slice a2 l2.length c2,.slice a3 l3.length c3,.slice a4 l4.length c4],.int .i64 x]) (by simp [results,Tryz.results28,go_sem, *]) rfl ?_
     refine take_end hsl hown hcap hlen hb ⟨bal2 w _ _,by simp⟩ ?_ (by simp [Bx.set,Bx.get,takeN]) (by simp [Bx.get])
     repeat (first | with_reducible exact Keeps.refl _ _ | (with_reducible refine Keeps.drew ?_) | (with_reducible refine Keeps.setCell ?_ (.inl rfl) _) | (with_reducible refine Keeps.setCell ?_ (.inr rfl) _))
 ·cases l2 with
  | nil =>
   dsimp only [List.length_nil]
   go_enter Tryz.func28,Tryz.ntmps28
   go_wp2
   exact bodyPost_ret (v:=.tuple #[.agg #[.slice a1 l1.length c1,.slice a2 0 c2,.slice a3 l3.length c3,.slice a4 l4.length c4],.int .i64 0]) (by simp [results,Tryz.results28,go_sem]) rfl ⟨⟨a2,[],c2⟩,rfl,o2.below (bal2 w _ _),rfl,bal2 w _ _,HiI.nil _ _ _⟩
  | cons x t =>
   obtain ⟨bb,oo,rfl,hbs,hc0⟩:=o2.ints 0 (by simp)
   have hlen:t.length+1≤5:=o2.len
   have CAP:=Lib.hid (show t.length+1≤c2 from o2.cap)
   have TL:=Lib.hid (ints_tail o2.ints)
   clear o1 o2 o3 o4 hok hw
   dsimp only [List.length_cons]
   simp only [Nat.add_zero,List.getElem_cons_zero] at hc0
   go_enter Tryz.func28,Tryz.ntmps28
   go_wp2_with fail
   ·obtain rfl:t=[]:=List.length_eq_zero_iff.1 (by have:=CAP.out; omega)
    refine (clone_int_n [] _ _ _ _ rfl (by simp) (Ints.nil _ _ _)).mono ?_
    rintro e w1 ⟨⟨a',l',c'⟩,rfl,hsl,hi,hown,hcap,hb⟩
    dsimp only at hsl hi hown hcap
    obtain ⟨⟨d0,d1,d2,d3⟩,f0,f1,f2,f3⟩:=box4 hb (b:=w.heap.size) (by simp; omega) (heap_alloc2_old w _ _)
    obtain ⟨⟨x0,x1,x2,x3⟩,y0,y1,y2,y3⟩:=box4 hb (b:=w.heap.size+1) (by simp) (heap_alloc2_new w _ _)
    have b0:Below w.heap.size w w1:=(bal2 w _ _).trans (hb.mono (by simp; omega))
    have cx:=(b0.cell (p:=⟨bb,oo,none⟩) hbs).trans hc0
    go_wp2
    go_region
    all_goals
     go_wp2
     refine bodyPost_ret (v:=.tuple #[.agg #[.slice a1 l1.length c1,.slice a' l'.length c',.slice a3 l3.length c3,.slice a4 l4.length c4],.int .i64 x]) (by simp [results,Tryz.results28,go_sem, *]) rfl ?_
     refine take_end hsl hown hcap hlen hb ⟨bal2 w _ _,by simp⟩ ?_ (by simp [Bx.set,Bx.get,takeN]) (by simp [Bx.get])
     repeat (first | with_reducible exact Keeps.refl _ _ | (with_reducible refine Keeps.drew ?_) | (with_reducible refine Keeps.setCell ?_ (.inl rfl) _) | (with_reducible refine Keeps.setCell ?_ (.inr rfl) _))
   ·refine (clone_int_n t _ _ _ _ rfl (by omega) ((TL.out.below (bal2 _ _ _) (Nat.le_refl _)).mono (by simp; omega))).mono ?_
    rintro e w1 ⟨⟨a',l',c'⟩,rfl,hsl,hi,hown,hcap,hb⟩
    dsimp only at hsl hi hown hcap
    obtain ⟨⟨d0,d1,d2,d3⟩,f0,f1,f2,f3⟩:=box4 hb (b:=w.heap.size) (by simp; omega) (heap_alloc2_old w _ _)
    obtain ⟨⟨x0,x1,x2,x3⟩,y0,y1,y2,y3⟩:=box4 hb (b:=w.heap.size+1) (by simp) (heap_alloc2_new w _ _)
    have b0:Below w.heap.size w w1:=(bal2 w _ _).trans (hb.mono (by simp; omega))
    have cx:=(b0.cell (p:=⟨bb,oo,none⟩) hbs).trans hc0
    go_wp2
    go_region
    all_goals
     go_wp2
     refine bodyPost_ret (v:=.tuple #[.agg #[.slice a1 l1.length c1,.slice a' l'.length c',.slice a3 l3.length c3,.slice a4 l4.length c4],.int .i64 x]) (by simp [results,Tryz.results28,go_sem, *]) rfl ?_
     refine take_end hsl hown hcap hlen hb ⟨bal2 w _ _,by simp⟩ ?_ (by simp [Bx.set,Bx.get,takeN]) (by simp [Bx.get])
     repeat (first | with_reducible exact Keeps.refl _ _ | (with_reducible refine Keeps.drew ?_) | (with_reducible refine Keeps.setCell ?_ (.inl rfl) _) | (with_reducible refine Keeps.setCell ?_ (.inr rfl) _))
 ·cases l3 with
  | nil =>
   dsimp only [List.length_nil]
   go_enter Tryz.func28,Tryz.ntmps28
   go_wp2
   exact bodyPost_ret (v:=.tuple #[.agg #[.slice a1 l1.length c1,.slice a2 l2.length c2,.slice a3 0 c3,.slice a4 l4.length c4],.int .i64 0]) (by simp [results,Tryz.results28,go_sem]) rfl ⟨⟨a3,[],c3⟩,rfl,o3.below (bal2 w _ _),rfl,bal2 w _ _,HiI.nil _ _ _⟩
  | cons x t =>
   obtain ⟨bb,oo,rfl,hbs,hc0⟩:=o3.ints 0 (by simp)
   have hlen:t.length+1≤5:=o3.len
   have CAP:=Lib.hid (show t.length+1≤c3 from o3.cap)
   have TL:=Lib.hid (ints_tail o3.ints)
   clear o1 o2 o3 o4 hok hw
   dsimp only [List.length_cons]
   simp only [Nat.add_zero,List.getElem_cons_zero] at hc0
   go_enter Tryz.func28,Tryz.ntmps28
   go_wp2_with fail
   ·obtain rfl:t=[]:=List.length_eq_zero_iff.1 (by have:=CAP.out; omega)
    refine (clone_int_n [] _ _ _ _ rfl (by simp) (Ints.nil _ _ _)).mono ?_
    rintro e w1 ⟨⟨a',l',c'⟩,rfl,hsl,hi,hown,hcap,hb⟩
    dsimp only at hsl hi hown hcap
    obtain ⟨⟨d0,d1,d2,d3⟩,f0,f1,f2,f3⟩:=box4 hb (b:=w.heap.size) (by simp; omega) (heap_alloc2_old w _ _)
    obtain ⟨⟨x0,x1,x2,x3⟩,y0,y1,y2,y3⟩:=box4 hb (b:=w.heap.size+1) (by simp) (heap_alloc2_new w _ _)
    have b0:Below w.heap.size w w1:=(bal2 w _ _).trans (hb.mono (by simp; omega))
    have cx:=(b0.cell (p:=⟨bb,oo,none⟩) hbs).trans hc0
    go_wp2
    go_region
    all_goals
     go_wp2
     refine bodyPost_ret (v:=.tuple #[.agg #[.slice a1 l1.length c1,.slice a2 l2.length c2,.slice a' l'.length c',.slice a4 l4.length c4],.int .i64 x]) (by simp [results,Tryz.results28,go_sem, *]) rfl ?_
     refine take_end hsl hown hcap hlen hb ⟨bal2 w _ _,by simp⟩ ?_ (by simp [Bx.set,Bx.get,takeN]) (by simp [Bx.get])
     repeat (first | with_reducible exact Keeps.refl _ _ | (with_reducible refine Keeps.drew ?_) | (with_reducible refine Keeps.setCell ?_ (.inl rfl) _) | (with_reducible refine Keeps.setCell ?_ (.inr rfl) _))
   ·refine (clone_int_n t _ _ _ _ rfl (by omega) ((TL.out.below (bal2 _ _ _) (Nat.le_refl _)).mono (by simp; omega))).mono ?_
    rintro e w1 ⟨⟨a',l',c'⟩,rfl,hsl,hi,hown,hcap,hb⟩
    dsimp only at hsl hi hown hcap
    obtain ⟨⟨d0,d1,d2,d3⟩,f0,f1,f2,f3⟩:=box4 hb (b:=w.heap.size) (by simp; omega) (heap_alloc2_old w _ _)
    obtain ⟨⟨x0,x1,x2,x3⟩,y0,y1,y2,y3⟩:=box4 hb (b:=w.heap.size+1) (by simp) (heap_alloc2_new w _ _)
    have b0:Below w.heap.size w w1:=(bal2 w _ _).trans (hb.mono (by simp; omega))
    have cx:=(b0.cell (p:=⟨bb,oo,none⟩) hbs).trans hc0
    go_wp2
    go_region
    all_goals
     go_wp2
     refine bodyPost_ret (v:=.tuple #[.agg #[.slice a1 l1.length c1,.slice a2 l2.length c2,.slice a' l'.length c',.slice a4 l4.length c4],.int .i64 x]) (by simp [results,Tryz.results28,go_sem, *]) rfl ?_
     refine take_end hsl hown hcap hlen hb ⟨bal2 w _ _,by simp⟩ ?_ (by simp [Bx.set,Bx.get,takeN]) (by simp [Bx.get])
     repeat (first | with_reducible exact Keeps.refl _ _ | (with_reducible refine Keeps.drew ?_) | (with_reducible refine Keeps.setCell ?_ (.inl rfl) _) | (with_reducible refine Keeps.setCell ?_ (.inr rfl) _))
 ·cases l4 with
  | nil =>
   dsimp only [List.length_nil]
   go_enter Tryz.func28,Tryz.ntmps28
   go_wp2
   exact bodyPost_ret (v:=.tuple #[.agg #[.slice a1 l1.length c1,.slice a2 l2.length c2,.slice a3 l3.length c3,.slice a4 0 c4],.int .i64 0]) (by simp [results,Tryz.results28,go_sem]) rfl ⟨⟨a4,[],c4⟩,rfl,o4.below (bal2 w _ _),rfl,bal2 w _ _,HiI.nil _ _ _⟩
  | cons x t =>
   obtain ⟨bb,oo,rfl,hbs,hc0⟩:=o4.ints 0 (by simp)
   have hlen:t.length+1≤5:=o4.len
   have CAP:=Lib.hid (show t.length+1≤c4 from o4.cap)
   have TL:=Lib.hid (ints_tail o4.ints)
   clear o1 o2 o3 o4 hok hw
   dsimp only [List.length_cons]
   simp only [Nat.add_zero,List.getElem_cons_zero] at hc0
   go_enter Tryz.func28,Tryz.ntmps28
   go_wp2_with fail
   ·obtain rfl:t=[]:=List.length_eq_zero_iff.1 (by have:=CAP.out; omega)
    refine (clone_int_n [] _ _ _ _ rfl (by simp) (Ints.nil _ _ _)).mono ?_
    rintro e w1 ⟨⟨a',l',c'⟩,rfl,hsl,hi,hown,hcap,hb⟩
    dsimp only at hsl hi hown hcap
    obtain ⟨⟨d0,d1,d2,d3⟩,f0,f1,f2,f3⟩:=box4 hb (b:=w.heap.size) (by simp; omega) (heap_alloc2_old w _ _)
    obtain ⟨⟨x0,x1,x2,x3⟩,y0,y1,y2,y3⟩:=box4 hb (b:=w.heap.size+1) (by simp) (heap_alloc2_new w _ _)
    have b0:Below w.heap.size w w1:=(bal2 w _ _).trans (hb.mono (by simp; omega))
    have cx:=(b0.cell (p:=⟨bb,oo,none⟩) hbs).trans hc0
    go_wp2
    go_region
    all_goals
     go_wp2
     refine bodyPost_ret (v:=.tuple #[.agg #[.slice a1 l1.length c1,.slice a2 l2.length c2,.slice a3 l3.length c3,.slice a' l'.length c'],.int .i64 x]) (by simp [results,Tryz.results28,go_sem, *]) rfl ?_
     refine take_end hsl hown hcap hlen hb ⟨bal2 w _ _,by simp⟩ ?_ (by simp [Bx.set,Bx.get,takeN]) (by simp [Bx.get])
     repeat (first | with_reducible exact Keeps.refl _ _ | (with_reducible refine Keeps.drew ?_) | (with_reducible refine Keeps.setCell ?_ (.inl rfl) _) | (with_reducible refine Keeps.setCell ?_ (.inr rfl) _))
   ·refine (clone_int_n t _ _ _ _ rfl (by omega) ((TL.out.below (bal2 _ _ _) (Nat.le_refl _)).mono (by simp; omega))).mono ?_
    rintro e w1 ⟨⟨a',l',c'⟩,rfl,hsl,hi,hown,hcap,hb⟩
    dsimp only at hsl hi hown hcap
    obtain ⟨⟨d0,d1,d2,d3⟩,f0,f1,f2,f3⟩:=box4 hb (b:=w.heap.size) (by simp; omega) (heap_alloc2_old w _ _)
    obtain ⟨⟨x0,x1,x2,x3⟩,y0,y1,y2,y3⟩:=box4 hb (b:=w.heap.size+1) (by simp) (heap_alloc2_new w _ _)
    have b0:Below w.heap.size w w1:=(bal2 w _ _).trans (hb.mono (by simp; omega))
    have cx:=(b0.cell (p:=⟨bb,oo,none⟩) hbs).trans hc0
    go_wp2
    go_region
    all_goals
     go_wp2
     refine bodyPost_ret (v:=.tuple #[.agg #[.slice a1 l1.length c1,.slice a2 l2.length c2,.slice a3 l3.length c3,.slice a' l'.length c'],.int .i64 x]) (by simp [results,Tryz.results28,go_sem, *]) rfl ?_
     refine take_end hsl hown hcap hlen hb ⟨bal2 w _ _,by simp⟩ ?_ (by simp [Bx.set,Bx.get,takeN]) (by simp [Bx.get])
     repeat (first | with_reducible exact Keeps.refl _ _ | (with_reducible refine Keeps.drew ?_) | (with_reducible refine Keeps.setCell ?_ (.inl rfl) _) | (with_reducible refine Keeps.setCell ?_ (.inr rfl) _))
end Go.Proofs.YtbkmdmmgalmmaaaGreatDoor

namespace Go.Proofs.YtbkmdmmgalmmaaaGreatDoor
open Go.RowKit Go.Lib
structure Bl where
 b1:List Int
 b2:List Int
 b3:List Int
 b4:List Int
def Bl.zero:Bl:=⟨[],[],[],[]⟩
def Bl.pow:Bl:=⟨[4],[4],[4],[4]⟩
def Bl.get (b:Bl) (k:Int):List Int:=if k=1 then b.b1 else if k=2 then b.b2 else if k=3 then b.b3 else b.b4
def Bl.set (b:Bl) (k:Int) (l:List Int):Bl:=if k=1 then { b with b1:=l } else if k=2 then { b with b2:=l } else if k=3 then { b with b3:=l } else { b with b4:=l }
def Bl.add (b:Bl) (x:Int × Int):Bl:=b.set x.1 (addL (b.get x.1) x.2)
def Bl.adds (b:Bl) (l:List (Int × Int)):Bl:=l.foldl Bl.add b
structure Bl.ok (b:Bl):Prop where
 len:∀ k,(b.get k).length≤5
 num:∀ k,∀ x∈b.get k,1≤x∧x≤4
structure Wt where
 tag:Int
 who:Int
 num:Int
 hv:List Int
structure Tg where
 k:Kp
 g:Gp
 b:Bl
 num:Int
 tag:Int
 wait:List Wt
 fly:List Ms
 done:List Int
def Tg.ready (t:Tg):Tg:={ t with g:=t.g.fence t.k.ep }
def Tg.isReady (t:Tg):Bool:=decide (2≤((t.g.fence t.k.ep).mem t.k.ep).length)
def Tg.keep (n:Nat) (t:Tg) (ep:Int) (s:St):Tg × Int:=({ t with k:=(t.k.keep n ep s).1 },(t.k.keep n ep s).2)
def Tg.fresh (t:Tg):Tg:={ t with num:=0,wait:=[] }
def Tg.next (n:Nat) (t:Tg) (s:St):Tg × Int :=
 if t.isReady=false then (t.ready,7)
 else if t.k.ep=1000000 then (t.ready,6)
 else if (t.ready.keep n (t.k.ep+1) t.k.s).2≠0 then t.ready.keep n (t.k.ep+1) t.k.s
 else
  let t2:=(t.ready.keep n (t.k.ep+1) t.k.s).1.fresh
  if t2.isReady=false then (t2.ready,7) else t2.ready.keep n t2.k.ep s
def Tg.order (n:Nat) (t:Tg) (c:Cmd):Tg × Int :=
 if (pdo t.k.s c).2.2≠0 then (t,(pdo t.k.s c).2.2)
 else
  let x:=if lessB pmay t.k.s (pdo t.k.s c).1 then t.next n (pdo t.k.s c).1 else t.keep n t.k.ep (pdo t.k.s c).1
  if x.2≠0 then x else ({ x.1 with b:=x.1.b.adds (pdo t.k.s c).2.1 },0)
def Tg.read (t:Tg) (at':Nat):Tg × ByteArray × Int :=
 if t.isReady=false then (t.ready,⟨#[]⟩,7) else ({ t.ready with g:=t.ready.g.read t.k.ep at' },(t.ready.g.readC t.k.ep at').d,0)
def Tg.msg (t:Tg) (c:Cmd) (i:Int):Ms:=⟨i,c.at',⟨t.k.ep,t.num+1,c.data⟩,t.tag+1⟩
def Tg.write (t:Tg) (c:Cmd):Tg × Int × Int :=
 if t.wait.length=6∨40<t.fly.length+3 then (t,0,6)
 else ({ t with num:=t.num+1,tag:=t.tag+1,fly:=t.fly ++ [t.msg c 0,t.msg c 1,t.msg c 2],wait:=t.wait ++ [⟨t.tag+1,c.who,t.num+1,[]⟩] },t.tag+1,0)
def Tg.busy (t:Tg) (at':Int):Bool:=t.fly.any fun m=>decide (m.at'=at') && decide (m.c.e=t.k.ep)
def Tg.refuse (t:Tg) (bad:Int) (at':Int):Int:=if bad≠0 then bad else if t.busy at' then 7 else 9
structure Ans where
 data:ByteArray
 tag:Int
 what:Int
 err:Int
def Ans.bad (f:Int):Ans:=⟨⟨#[]⟩,0,0,f⟩
def Tg.doWrite (t:Tg) (c:Cmd):Tg × Ans:=((t.write c).1,⟨⟨#[]⟩,(t.write c).2.1,0,(t.write c).2.2⟩)
def Tg.doComp (t:Tg) (c:Cmd):Tg × Ans :=
 let r:=t.read c.at'.toNat
 if r.2.2≠0∨r.2.1≠c.want∨r.1.busy c.at'=true then (r.1,Ans.bad (r.1.refuse r.2.2 c.at')) else r.1.doWrite c
def Tg.ask (n:Nat) (t:Tg) (c:Cmd):Tg × Ans :=
 if cmdFault c≠0 then (t,Ans.bad (cmdFault c))
 else if 0<takeN (t.b.get c.who) then ({ t with b:=t.b.set c.who (t.b.get c.who).tail },⟨⟨#[]⟩,0,takeN (t.b.get c.who),0⟩)
 else if c.op≤6 then ((t.order n c).1,Ans.bad (t.order n c).2)
 else if pmay t.k.s c.who (decide (c.op≠7))=false then (t,Ans.bad 4)
 else if c.op=7 then ((t.read c.at'.toNat).1,⟨(t.read c.at'.toNat).2.1,0,0,(t.read c.at'.toNat).2.2⟩)
 else if t.isReady=false then (t.ready,Ans.bad 7)
 else if c.op=9 then t.ready.doComp c
 else t.ready.doWrite c
def Wt.put (w:Wt) (i:Int):Wt:={ w with hv:=if i∈w.hv then w.hv else w.hv ++ [i] }
def Tg.came (t:Tg) (m:Ms):Tg :=
 match t.wait.find? (fun w=>decide (w.tag=m.tag)) with
 | none=>t
 | some w =>
  if 2≤(w.put m.tt).hv.length then { t with wait:=t.wait.filter (fun w=>decide (w.tag≠m.tag)),done:=if m.tag∈t.done then t.done else t.done ++ [m.tag] }
  else { t with wait:=t.wait.map fun w=>if w.tag=m.tag then w.put m.tt else w }
def Tg.deliver (t:Tg) (i:Int) (stays:Bool):Tg × Bool × Int :=
 if i<0∨(t.fly.length:Int)≤i then (t,false,8)
 else
  let m:=t.fly.getD i.toNat ⟨0,0,Cel.zero,0⟩
  let t1:={ t with fly:=if stays then t.fly else t.fly.eraseIdx i.toNat,g:=t.g.deliver m.tt.toNat m.at'.toNat m.c }
  if t.g.delivers m.tt.toNat m.c then (t1.came m,true,0) else (t1,false,0)
def Tg.lose (t:Tg) (i:Int):Tg × Int :=
 if i<0∨(t.fly.length:Int)≤i then (t,8) else ({ t with fly:=t.fly.eraseIdx i.toNat },0)
def Tg.up (t:Tg) (i:Int) (up:Bool):Tg × Int:=if i<0∨3≤i then (t,8) else ({ t with g:=t.g.setU i.toNat up },0)
def Tg.sync (t:Tg) (i:Int):Tg × Int :=
 if i<0∨3≤i then (t,8) else if t.g.syncs t.k.ep i.toNat then ({ t with g:=t.g.sync t.k.ep i.toNat },0) else (t,7)
def St.lost (s:St):St:=if s.stays then { s with gen:=0 } else St.zero
def Tg.power (n:Nat) (t:Tg):Tg × Int :=
 let x:=t.next n t.k.s.lost
 if x.2≠0 then x else ({ x.1 with b:=Bl.pow },0)
def Tg.start (k:Kp) (g:Gp):Tg:=⟨k,g,Bl.zero,0,0,[],[],[]⟩
def Tg.new (n:Nat) (k:Kp) (g:Gp):Tg × Int:=(Tg.start k g).next n k.s
end Go.Proofs.YtbkmdmmgalmmaaaGreatDoor
