/-
  Contract: tell.Add.
-/
import Derived.Test.YtajegiifabfcjaaGreatDoorQ12
import Derived.BigQuiet
import Derived.Deep.QuietTactic
namespace Go.Proofs.YtajegiifabfcjaaGreatDoor
open Go.RowKit
def AddPost2 (b:Bx) (who what:Int) (w:World) (e:Ending) (w':World):Prop :=
 ∃ s:Sl,e=.returned (.agg (b.set who s).cells)∧s.ok w'∧s.l=addL (b.get who).l what∧Below w.heap.size w w'∧(s=b.get who∨HiI w.heap.size w' s.a s.l)
theorem AddPost2.mk {b:Bx} {who what:Int} {w:World} {e:Ending} {w':World} {s:Sl} (h1:e=.returned (.agg (b.set who s).cells)) (h2:s.ok w') (h3:s.l=addL (b.get who).l what) (h4:Below w.heap.size w w') (h5:s=b.get who∨HiI w.heap.size w' s.a s.l):AddPost2 b who what w e w':=⟨s,h1,h2,h3,h4,h5⟩
theorem box2 {W w1:World} {n:Nat} (hb:Below n W w1) {b:Nat} (hbn:b<n) {v0 v1:Value} {T:TypeId} (h:W.heap[b]?=some (.cells #[v0,v1] T (0,0))) :
  (w1.cell? ⟨b,0,none⟩=some v0∧w1.cell? ⟨b,1,none⟩=some v1)∧(w1.frozen? ⟨b,0,none⟩=false∧w1.frozen? ⟨b,1,none⟩=false):=by
 have h1:w1.heap[b]?=some (.cells #[v0,v1] T (0,0)):=(hb.block b hbn).trans h
 simp [World.cell?,World.frozen?,h1]
theorem OwnI.drewN {B:Nat} {w:World} {v:Value} {l:List Int} (h:OwnI B w v l) (n:Nat):OwnI B (w.drewN n) v l:=h
theorem cell_new (w:World) (v:Value) (T:TypeId):(w.alloc (.cells #[v] T)).cell? ((⟨w.heap.size,0,none⟩:Addr).add 0)=some v:=by simp [Addr.add]
theorem own_one {B:Nat} {w:World} {v:Value} {l:List Int} {n:Nat} {x:Int} {xs:List Value} (h:w.ownsRow B 3 1 v n xs) (hn:n=l.length+1) (hx:xs=l.map (Value.int .i64) ++ [.int .i64 x]) :
  ∃ a c,v=.slice a (l.length+1) c∧¬ c<l.length+1∧OwnI B w (.slice a (l.length+1) c) (l ++ [x]):=by
 subst hn hx
 have h':OwnI B w v (l ++ [x]):=by simpa [OwnI] using h
 obtain ⟨a,c,rfl,hi⟩:=h'.shape
 have hc:=h'.cap
 simp only [List.length_append,List.length_cons,List.length_nil,Nat.zero_add] at h' hc ⊢
 exact ⟨a,c,rfl,by omega,h'⟩
theorem bal3 (w:World) (o p q:Obj):Below w.heap.size w (((w.alloc o).alloc p).alloc q):=(bal2 w o p).alloc (by simp; omega) _
theorem add_end {b:Bx} {who what:Int} {w W2 w2 w':World} {a:Option Addr} {l':List Int} {c:Nat} {e:Ending} {B:Nat} (hown:HiI B w2 a l') (hB:B=w.heap.size+3) (hcap:l'.length≤c) (hlen:l'.length≤5)
  (hb:Below W2.heap.size W2 w2) (hW:Below w.heap.size w W2∧w.heap.size+3=W2.heap.size) (kp:Keeps (fun k=>k=w.heap.size∨k=w.heap.size+2) w2 w')
  (he:e=.returned (.agg (b.set who ⟨a,l',c⟩).cells)) (ht:l'=addL (b.get who).l what):AddPost2 b who what w e w':=by
 have hk:∀ k,(k=w.heap.size∨k=w.heap.size+2)→k<w.heap.size+3:=fun k hk=>by omega
 have hz:=hb.size
 have h0:=hW.2
 subst hB
 refine AddPost2.mk (s:=⟨a,l',c⟩) he ⟨(hown.keeps kp hk).ints,hlen,hcap⟩ ht ?_ (.inr ((hown.keeps kp hk).mono (by omega)))
 exact (hW.1.trans (hb.mono (by omega))).trans (kp.below (by omega) (fun k hk=>by omega))
theorem add_same {b:Bx} {who what:Int} {w W2 w2 w':World} {s:Sl} {e:Ending} (hok:s.ok w)
  (hb:Below W2.heap.size W2 w2) (hW:Below w.heap.size w W2∧w.heap.size+3=W2.heap.size) (kp:Keeps (fun k=>k=w.heap.size∨k=w.heap.size+2) w2 w')
  (he:e=.returned (.agg (b.set who s).cells)) (ht:s.l=addL (b.get who).l what) (hs:s=b.get who:=by rfl):AddPost2 b who what w e w':=by
 have hz:=hb.size
 have h0:=hW.2
 have hbel:Below w.heap.size w w':=(hW.1.trans (hb.mono (by omega))).trans (kp.below (by omega) (fun k hk=>by omega))
 exact AddPost2.mk he (hok.below hbel) ht hbel (.inl hs)
theorem addL_short (l:List Int) (x:Int) (n:Nat) (hn:l.length=n+1) (h:l[n]≠x) (h4:l.length≤4):addL l x=l ++ [x]:=by
 rw [addL_new l x n hn h,show l.length+1 - 5=0 from by omega]; rfl
set_option maxRecDepth 100000 in
set_option maxHeartbeats 1000000 in
theorem add_any2 (b:Bx) (who what:Int) (w:World) (hr:b.ok w) (hw:1≤who∧who≤4) :
  Calls Tryz.prog 97 #[.agg b.cells,.agg #[.int .i64 who,.int .i64 what]] w (AddPost2 b who what w):=by
 obtain ⟨⟨a1,l1,c1⟩,⟨a2,l2,c2⟩,⟨a3,l3,c3⟩,⟨a4,l4,c4⟩⟩:=b
 obtain ⟨i0,hi,hz0,hz1,hz2⟩:=info_parts Tryz.infoInt
 have hok:=hr
 obtain ⟨o1,o2,o3,o4⟩:=hr
 have h4:who=1∨who=2∨who=3∨who=4:=by omega
 dsimp only [Bx.cells,Sl.v]
 rcases h4 with rfl | rfl | rfl | rfl
 ·have hlen1:l1.length≤5:=o1.len
  have O1:=Lib.hid (fun (o p q:Obj)=>(o1.ints.below (bal3 w o p q) (Nat.le_refl _)).mono (bal3 w o p q).size)
  have OL:=Lib.hid o1
  clear o1 o2 o3 o4 hok hw
  cases l1 with
  | nil =>
   dsimp only [List.length_nil]
   go_enter Tryz.func97,Tryz.ntmps97
   go_wp2_with fail
   refine (clone_own [] _ _ _ _ rfl (by simp) (Ints.nil _ _ _)).mono ?_
   rintro e w1 ⟨a',c',rfl,hown,hb⟩
   have HOWN:=Lib.hid hown
   have HBLK:=Lib.hid hown.blk
   clear hown
   obtain ⟨⟨d0,d1,d2,d3⟩,f0,f1,f2,f3⟩:=box4 hb (b:=w.heap.size) (by simp; omega) (heap3 w _ _ _).1
   obtain ⟨⟨t0,t1⟩,u0,u1⟩:=box2 hb (b:=w.heap.size+1) (by simp) (heap3 w _ _ _).2.1
   obtain ⟨⟨x0,x1,x2,x3⟩,y0,y1,y2,y3⟩:=box4 hb (b:=w.heap.size+2) (by simp) (heap3 w _ _ _).2.2
   go_wp2
   go_quiet (fail)
   go_wp2_with (at_builtin; refine wpList_append_own _ rfl _ _ 65 rfl _ 3 i0 (.int .i64 0) 1 8 Tryz.underlying65 hi hz0 hz1 hz2 rfl (by decide) _ _ _ rfl ((OwnI.drewN HOWN.out _).alloc _) ⟨w1.heap.size,0,none⟩ 1 1 [.int .i64 what] rfl rfl ?c1 ?c2 ?c3 ?c4 ?c5 ?_)
   case c1 =>
    intro j u hj
    match j,hj with
    | 0,hj=>simp at hj; subst hj; exact cell_new (w1.drewN _) _ _
   case c2=>intro u hu; simp at hu; subst hu; rfl
   case c3=>unfold maxLen; omega
   case c4=>omega
   case c5=>exact Nat.le_trans hb.size (bal (w1.drewN _) _).size
   intro v' w2 hown1 hg1 _
   obtain ⟨a2',c2',rfl,hcz,hown2⟩:=own_one (l:=[]) (x:=what) hown1 rfl rfl
   have hb2:=((below_drewN hb _).alloc hb.size (.cells #[.int .i64 what] 3)).grown hg1 (Nat.le_trans hb.size (bal (w1.drewN _) _).size) HBLK.out
   have HO2:=Lib.hid hown2
   clear hown1 hown2 hg1 d0 d1 d2 d3 f0 f1 f2 f3 t0 t1 u0 u1 x0 x1 x2 x3 y0 y1 y2 y3
   obtain ⟨⟨d0,d1,d2,d3⟩,f0,f1,f2,f3⟩:=box4 hb2 (b:=w.heap.size) (by simp; omega) (heap3 w _ _ _).1
   obtain ⟨⟨t0,t1⟩,u0,u1⟩:=box2 hb2 (b:=w.heap.size+1) (by simp) (heap3 w _ _ _).2.1
   obtain ⟨⟨x0,x1,x2,x3⟩,y0,y1,y2,y3⟩:=box4 hb2 (b:=w.heap.size+2) (by simp) (heap3 w _ _ _).2.2
   go_wp2
   go_region
   go_wp2
   refine bodyPost_ret (v:=.agg #[.slice a2' 1 c2',.slice a2 l2.length c2,.slice a3 l3.length c3,.slice a4 l4.length c4]) (by have hm:max (0:Int) (-4)=0:=(by decide); simp [results,Tryz.results97,go_sem, *]) rfl ?_
   refine add_end (l':=[what]) (c:=c2') HO2.out.hi rfl (by simp at hcz ⊢; omega) (by simp) hb2 ⟨bal3 w _ _ _,by simp⟩ ?_ (by simp [Bx.set]) (by simp [Bx.get,addL])
   repeat (first | with_reducible exact Keeps.refl _ _ | (with_reducible refine Keeps.drew ?_) | (with_reducible refine Keeps.setCell ?_ (.inl rfl) _) | (with_reducible refine Keeps.setCell ?_ (.inr rfl) _))
  | cons x t =>
   have hl2:=Nat.lt_succ_self t.length
   rcases (by omega:(x :: t)[t.length]'(by simp)=what∨(x :: t)[t.length]'(by simp)≠what) with hx | hx
   ·have ADD:=Lib.hid (addL_last (x :: t) what t.length rfl hx)
    dsimp only [List.length_cons] at *
    have x1:IntKind.i64.wrap ((t.length:Int)+1 - 1)=(t.length:Int):=by rw [IntWalk.i64_in _ (by omega)]; omega
    have x2:(t.length:Int)+1 - 1=(t.length:Int):=by omega
    go_enter Tryz.func97,Tryz.ntmps97
    go_wp2_with fail
    refine (clone_own (x :: t) _ _ _ _ rfl (by simp; omega) (O1.out _ _ _)).mono ?_
    rintro e w1 ⟨a',c',rfl,hown,hb⟩
    obtain ⟨b',o',rfl,-,-,cl⟩:=hown.hi t.length (by simp)
    obtain ⟨⟨d0,d1,d2,d3⟩,f0,f1,f2,f3⟩:=box4 hb (b:=w.heap.size) (by simp; omega) (heap3 w _ _ _).1
    obtain ⟨⟨t0,t1⟩,u0,u1⟩:=box2 hb (b:=w.heap.size+1) (by simp) (heap3 w _ _ _).2.1
    obtain ⟨⟨x0,x1,x2,x3⟩,y0,y1,y2,y3⟩:=box4 hb (b:=w.heap.size+2) (by simp) (heap3 w _ _ _).2.2
    rw [hx] at cl
    clear hx hown
    go_wp2
    go_quiet (fail)
    go_wp2
    refine bodyPost_ret (v:=.agg #[.slice a1 (t.length+1) c1,.slice a2 l2.length c2,.slice a3 l3.length c3,.slice a4 l4.length c4]) (by simp [results,Tryz.results97,go_sem, *]) rfl ?_
    refine add_same OL.out hb ⟨bal3 w _ _ _,by simp⟩ ?_ (by simp [Bx.set]) (by simpa [Bx.get] using ADD.out.symm)
    repeat (first | with_reducible exact Keeps.refl _ _ | (with_reducible refine Keeps.drew ?_) | (with_reducible refine Keeps.drewN ?_ _) | (with_reducible refine Keeps.setCell ?_ (.inl rfl) _) | (with_reducible refine Keeps.setCell ?_ (.inr rfl) _))
   ·rcases (by simp at hlen1; omega:t.length≤3∨t.length=4) with h3 | h4
    ·have ADD:=Lib.hid (addL_short (x :: t) what t.length rfl hx (by simp; omega))
     obtain ⟨y,hy⟩:∃ y,(x :: t)[t.length]'(by simp)=y:=⟨_,rfl⟩
     rw [hy] at hx
     have hyb:(y == what)=false:=by simpa using hx
     dsimp only [List.length_cons] at *
     have q1:IntKind.i64.wrap ((t.length:Int)+1 - 1)=(t.length:Int):=by rw [IntWalk.i64_in _ (by omega)]; omega
     have q2:(t.length:Int)+1 - 1=(t.length:Int):=by omega
     clear hx
     go_enter Tryz.func97,Tryz.ntmps97
     go_wp2_with fail
     refine (clone_own (x :: t) _ _ _ _ rfl (by simp; omega) (O1.out _ _ _)).mono ?_
     rintro e w1 ⟨a',c',rfl,hown,hb⟩
     have HOWN:=Lib.hid hown
     have HBLK:=Lib.hid hown.blk
     obtain ⟨b',o',rfl,-,-,cl⟩:=hown.hi t.length (by simp)
     rw [hy] at cl
     clear hy hown
     obtain ⟨⟨d0,d1,d2,d3⟩,f0,f1,f2,f3⟩:=box4 hb (b:=w.heap.size) (by simp; omega) (heap3 w _ _ _).1
     obtain ⟨⟨t0,t1⟩,u0,u1⟩:=box2 hb (b:=w.heap.size+1) (by simp) (heap3 w _ _ _).2.1
     obtain ⟨⟨x0,x1,x2,x3⟩,y0,y1,y2,y3⟩:=box4 hb (b:=w.heap.size+2) (by simp) (heap3 w _ _ _).2.2
     go_wp2
     go_quiet (fail)
     go_wp2_with (at_builtin; refine wpList_append_own _ rfl _ _ 65 rfl _ 3 i0 (.int .i64 0) 1 8 Tryz.underlying65 hi hz0 hz1 hz2 rfl (by decide) _ _ _ rfl ((OwnI.drewN HOWN.out _).alloc _) ⟨w1.heap.size,0,none⟩ 1 1 [.int .i64 what] rfl rfl ?c1 ?c2 ?c3 ?c4 ?c5 ?_)
     case c1 =>
      intro j u hj
      match j,hj with
      | 0,hj=>simp at hj; subst hj; exact cell_new (w1.drewN _) _ _
     case c2=>intro u hu; simp at hu; subst hu; rfl
     case c3=>unfold maxLen; simp only [List.length_cons]; omega
     case c4=>simp only [List.length_cons]; omega
     case c5=>exact Nat.le_trans hb.size (bal (w1.drewN _) _).size
     intro v' w2 hown1 hg1 _
     obtain ⟨a2',c2',rfl,hcz,hown2⟩:=own_one (l:=(x :: t)) (x:=what) hown1 rfl rfl
     dsimp only [List.length_cons,List.length_nil] at hcz hown2 ⊢
     have hb2:=((below_drewN hb _).alloc hb.size (.cells #[.int .i64 what] 3)).grown hg1 (Nat.le_trans hb.size (bal (w1.drewN _) _).size) HBLK.out
     obtain ⟨b2',o2',rfl,-⟩:=hown2.hi 0 (by simp)
     have HO2:=Lib.hid hown2.hi
     clear hown1 hown2 hg1 d0 d1 d2 d3 f0 f1 f2 f3 t0 t1 u0 u1 x0 x1 x2 x3 y0 y1 y2 y3 cl
     obtain ⟨⟨d0,d1,d2,d3⟩,f0,f1,f2,f3⟩:=box4 hb2 (b:=w.heap.size) (by simp; omega) (heap3 w _ _ _).1
     obtain ⟨⟨t0,t1⟩,u0,u1⟩:=box2 hb2 (b:=w.heap.size+1) (by simp) (heap3 w _ _ _).2.1
     obtain ⟨⟨x0,x1,x2,x3⟩,y0,y1,y2,y3⟩:=box4 hb2 (b:=w.heap.size+2) (by simp) (heap3 w _ _ _).2.2
     go_wp2
     go_region
     go_wp2
     refine bodyPost_ret (v:=.agg #[.slice (some ⟨b2',o2',none⟩) (t.length+1+1) c2',.slice a2 l2.length c2,.slice a3 l3.length c3,.slice a4 l4.length c4]) (by have hm:max (0:Int) ((t.length:Int)+1+1 - 5)=0:=(by omega); simp [results,Tryz.results97,go_sem, *]) rfl ?_
     refine add_end (l':=(x :: t) ++ [what]) (c:=c2') HO2.out rfl (by simp; omega) (by simp; omega) hb2 ⟨bal3 w _ _ _,by simp⟩ ?_ (by simp [Bx.set]) (by simpa [Bx.get] using ADD.out.symm)
     repeat (first | with_reducible exact Keeps.refl _ _ | (with_reducible refine Keeps.drew ?_) | (with_reducible refine Keeps.drewN ?_ _) | (with_reducible refine Keeps.setCell ?_ (.inl rfl) _) | (with_reducible refine Keeps.setCell ?_ (.inr rfl) _))
    ·have:∃ p q r s,t=[p,q,r,s]:=by
      match t,h4 with
      | [p,q,r,s],_=>exact ⟨p,q,r,s,rfl⟩
     obtain ⟨p,q,r,s,rfl⟩:=this
     have ADD:=Lib.hid (addL_new [x,p,q,r,s] what 4 rfl hx)
     dsimp only [List.length_cons,List.length_nil] at *
     have hy:[x,p,q,r,s][4]=s:=rfl
     have hyb:(s == what)=false:=by simpa using hx
     clear hx h4
     go_enter Tryz.func97,Tryz.ntmps97
     go_wp2_with fail
     refine (clone_own [x,p,q,r,s] _ _ _ _ rfl (by simp) (O1.out _ _ _)).mono ?_
     rintro e w1 ⟨a',c',rfl,hown,hb⟩
     have HOWN:=Lib.hid hown
     have HBLK:=Lib.hid hown.blk
     obtain ⟨b',o',rfl,-,-,cl⟩:=hown.hi 4 (by simp)
     rw [hy] at cl
     clear hy hown
     obtain ⟨⟨d0,d1,d2,d3⟩,f0,f1,f2,f3⟩:=box4 hb (b:=w.heap.size) (by simp; omega) (heap3 w _ _ _).1
     obtain ⟨⟨t0,t1⟩,u0,u1⟩:=box2 hb (b:=w.heap.size+1) (by simp) (heap3 w _ _ _).2.1
     obtain ⟨⟨x0,x1,x2,x3⟩,y0,y1,y2,y3⟩:=box4 hb (b:=w.heap.size+2) (by simp) (heap3 w _ _ _).2.2
     go_wp2
     go_quiet (fail)
     go_wp2_with (at_builtin; refine wpList_append_own _ rfl _ _ 65 rfl _ 3 i0 (.int .i64 0) 1 8 Tryz.underlying65 hi hz0 hz1 hz2 rfl (by decide) _ _ _ rfl ((OwnI.drewN HOWN.out _).alloc _) ⟨w1.heap.size,0,none⟩ 1 1 [.int .i64 what] rfl rfl ?c1 ?c2 ?c3 ?c4 ?c5 ?_)
     case c1 =>
      intro j u hj
      match j,hj with
      | 0,hj=>simp at hj; subst hj; exact cell_new (w1.drewN _) _ _
     case c2=>intro u hu; simp at hu; subst hu; rfl
     case c3=>unfold maxLen; simp only [List.length_cons,List.length_nil]; omega
     case c4=>simp only [List.length_cons,List.length_nil]; omega
     case c5=>exact Nat.le_trans hb.size (bal (w1.drewN _) _).size
     intro v' w2 hown1 hg1 _
     obtain ⟨a2',c2',rfl,hcz,hown2⟩:=own_one (l:=[x,p,q,r,s]) (x:=what) hown1 rfl rfl
     dsimp only [List.length_cons,List.length_nil] at hcz hown2 ⊢
     have hb2:=((below_drewN hb _).alloc hb.size (.cells #[.int .i64 what] 3)).grown hg1 (Nat.le_trans hb.size (bal (w1.drewN _) _).size) HBLK.out
     obtain ⟨b2',o2',rfl,-⟩:=hown2.hi 0 (by simp)
     have HO2:=Lib.hid hown2.hi
     clear hown1 hown2 hg1 d0 d1 d2 d3 f0 f1 f2 f3 t0 t1 u0 u1 x0 x1 x2 x3 y0 y1 y2 y3 cl
     obtain ⟨⟨d0,d1,d2,d3⟩,f0,f1,f2,f3⟩:=box4 hb2 (b:=w.heap.size) (by simp; omega) (heap3 w _ _ _).1
     obtain ⟨⟨t0,t1⟩,u0,u1⟩:=box2 hb2 (b:=w.heap.size+1) (by simp) (heap3 w _ _ _).2.1
     obtain ⟨⟨x0,x1,x2,x3⟩,y0,y1,y2,y3⟩:=box4 hb2 (b:=w.heap.size+2) (by simp) (heap3 w _ _ _).2.2
     go_wp2
     go_region
     go_wp2
     refine bodyPost_ret (v:=.agg #[.slice (some ⟨b2',o2'+1,none⟩) 5 (c2' - 1),.slice a2 l2.length c2,.slice a3 l3.length c3,.slice a4 l4.length c4]) (by have hm:max (0:Int) 1=1:=(by decide); simp [results,Tryz.results97,go_sem, *]) rfl ?_
     refine add_end (l':=[p,q,r,s,what]) (c:=c2' - 1) (HiI.tail (x:=x) (t:=[p,q,r,s,what]) HO2.out) rfl (by simp; omega) (by simp) hb2 ⟨bal3 w _ _ _,by simp⟩ ?_ (by simp [Bx.set]) (by simpa [Bx.get] using ADD.out.symm)
     repeat (first | with_reducible exact Keeps.refl _ _ | (with_reducible refine Keeps.drew ?_) | (with_reducible refine Keeps.drewN ?_ _) | (with_reducible refine Keeps.setCell ?_ (.inl rfl) _) | (with_reducible refine Keeps.setCell ?_ (.inr rfl) _))
 ·have hlen1:l2.length≤5:=o2.len
  have O1:=Lib.hid (fun (o p q:Obj)=>(o2.ints.below (bal3 w o p q) (Nat.le_refl _)).mono (bal3 w o p q).size)
  have OL:=Lib.hid o2
  clear o1 o2 o3 o4 hok hw
  cases l2 with
  | nil =>
   dsimp only [List.length_nil]
   go_enter Tryz.func97,Tryz.ntmps97
   go_wp2_with fail
   refine (clone_own [] _ _ _ _ rfl (by simp) (Ints.nil _ _ _)).mono ?_
   rintro e w1 ⟨a',c',rfl,hown,hb⟩
   have HOWN:=Lib.hid hown
   have HBLK:=Lib.hid hown.blk
   clear hown
   obtain ⟨⟨d0,d1,d2,d3⟩,f0,f1,f2,f3⟩:=box4 hb (b:=w.heap.size) (by simp; omega) (heap3 w _ _ _).1
   obtain ⟨⟨t0,t1⟩,u0,u1⟩:=box2 hb (b:=w.heap.size+1) (by simp) (heap3 w _ _ _).2.1
   obtain ⟨⟨x0,x1,x2,x3⟩,y0,y1,y2,y3⟩:=box4 hb (b:=w.heap.size+2) (by simp) (heap3 w _ _ _).2.2
   go_wp2
   go_quiet (fail)
   go_wp2_with (at_builtin; refine wpList_append_own _ rfl _ _ 65 rfl _ 3 i0 (.int .i64 0) 1 8 Tryz.underlying65 hi hz0 hz1 hz2 rfl (by decide) _ _ _ rfl ((OwnI.drewN HOWN.out _).alloc _) ⟨w1.heap.size,0,none⟩ 1 1 [.int .i64 what] rfl rfl ?c1 ?c2 ?c3 ?c4 ?c5 ?_)
   case c1 =>
    intro j u hj
    match j,hj with
    | 0,hj=>simp at hj; subst hj; exact cell_new (w1.drewN _) _ _
   case c2=>intro u hu; simp at hu; subst hu; rfl
   case c3=>unfold maxLen; omega
   case c4=>omega
   case c5=>exact Nat.le_trans hb.size (bal (w1.drewN _) _).size
   intro v' w2 hown1 hg1 _
   obtain ⟨a2',c2',rfl,hcz,hown2⟩:=own_one (l:=[]) (x:=what) hown1 rfl rfl
   have hb2:=((below_drewN hb _).alloc hb.size (.cells #[.int .i64 what] 3)).grown hg1 (Nat.le_trans hb.size (bal (w1.drewN _) _).size) HBLK.out
   have HO2:=Lib.hid hown2
   clear hown1 hown2 hg1 d0 d1 d2 d3 f0 f1 f2 f3 t0 t1 u0 u1 x0 x1 x2 x3 y0 y1 y2 y3
   obtain ⟨⟨d0,d1,d2,d3⟩,f0,f1,f2,f3⟩:=box4 hb2 (b:=w.heap.size) (by simp; omega) (heap3 w _ _ _).1
   obtain ⟨⟨t0,t1⟩,u0,u1⟩:=box2 hb2 (b:=w.heap.size+1) (by simp) (heap3 w _ _ _).2.1
   obtain ⟨⟨x0,x1,x2,x3⟩,y0,y1,y2,y3⟩:=box4 hb2 (b:=w.heap.size+2) (by simp) (heap3 w _ _ _).2.2
   go_wp2
   go_region
   go_wp2
   refine bodyPost_ret (v:=.agg #[.slice a1 l1.length c1,.slice a2' 1 c2',.slice a3 l3.length c3,.slice a4 l4.length c4]) (by have hm:max (0:Int) (-4)=0:=(by decide); simp [results,Tryz.results97,go_sem, *]) rfl ?_
   refine add_end (l':=[what]) (c:=c2') HO2.out.hi rfl (by simp at hcz ⊢; omega) (by simp) hb2 ⟨bal3 w _ _ _,by simp⟩ ?_ (by simp [Bx.set]) (by simp [Bx.get,addL])
   repeat (first | with_reducible exact Keeps.refl _ _ | (with_reducible refine Keeps.drew ?_) | (with_reducible refine Keeps.setCell ?_ (.inl rfl) _) | (with_reducible refine Keeps.setCell ?_ (.inr rfl) _))
  | cons x t =>
   have hl2:=Nat.lt_succ_self t.length
   rcases (by omega:(x :: t)[t.length]'(by simp)=what∨(x :: t)[t.length]'(by simp)≠what) with hx | hx
   ·have ADD:=Lib.hid (addL_last (x :: t) what t.length rfl hx)
    dsimp only [List.length_cons] at *
    have x1:IntKind.i64.wrap ((t.length:Int)+1 - 1)=(t.length:Int):=by rw [IntWalk.i64_in _ (by omega)]; omega
    have x2:(t.length:Int)+1 - 1=(t.length:Int):=by omega
    go_enter Tryz.func97,Tryz.ntmps97
    go_wp2_with fail
    refine (clone_own (x :: t) _ _ _ _ rfl (by simp; omega) (O1.out _ _ _)).mono ?_
    rintro e w1 ⟨a',c',rfl,hown,hb⟩
    obtain ⟨b',o',rfl,-,-,cl⟩:=hown.hi t.length (by simp)
    obtain ⟨⟨d0,d1,d2,d3⟩,f0,f1,f2,f3⟩:=box4 hb (b:=w.heap.size) (by simp; omega) (heap3 w _ _ _).1
    obtain ⟨⟨t0,t1⟩,u0,u1⟩:=box2 hb (b:=w.heap.size+1) (by simp) (heap3 w _ _ _).2.1
    obtain ⟨⟨x0,x1,x2,x3⟩,y0,y1,y2,y3⟩:=box4 hb (b:=w.heap.size+2) (by simp) (heap3 w _ _ _).2.2
    rw [hx] at cl
    clear hx hown
    go_wp2
    go_quiet (fail)
    go_wp2
    refine bodyPost_ret (v:=.agg #[.slice a1 l1.length c1,.slice a2 (t.length+1) c2,.slice a3 l3.length c3,.slice a4 l4.length c4]) (by simp [results,Tryz.results97,go_sem, *]) rfl ?_
    refine add_same OL.out hb ⟨bal3 w _ _ _,by simp⟩ ?_ (by simp [Bx.set]) (by simpa [Bx.get] using ADD.out.symm)
    repeat (first | with_reducible exact Keeps.refl _ _ | (with_reducible refine Keeps.drew ?_) | (with_reducible refine Keeps.drewN ?_ _) | (with_reducible refine Keeps.setCell ?_ (.inl rfl) _) | (with_reducible refine Keeps.setCell ?_ (.inr rfl) _))
   ·rcases (by simp at hlen1; omega:t.length≤3∨t.length=4) with h3 | h4
    ·have ADD:=Lib.hid (addL_short (x :: t) what t.length rfl hx (by simp; omega))
     obtain ⟨y,hy⟩:∃ y,(x :: t)[t.length]'(by simp)=y:=⟨_,rfl⟩
     rw [hy] at hx
     have hyb:(y == what)=false:=by simpa using hx
     dsimp only [List.length_cons] at *
     have q1:IntKind.i64.wrap ((t.length:Int)+1 - 1)=(t.length:Int):=by rw [IntWalk.i64_in _ (by omega)]; omega
     have q2:(t.length:Int)+1 - 1=(t.length:Int):=by omega
     clear hx
     go_enter Tryz.func97,Tryz.ntmps97
     go_wp2_with fail
     refine (clone_own (x :: t) _ _ _ _ rfl (by simp; omega) (O1.out _ _ _)).mono ?_
     rintro e w1 ⟨a',c',rfl,hown,hb⟩
     have HOWN:=Lib.hid hown
     have HBLK:=Lib.hid hown.blk
     obtain ⟨b',o',rfl,-,-,cl⟩:=hown.hi t.length (by simp)
     rw [hy] at cl
     clear hy hown
     obtain ⟨⟨d0,d1,d2,d3⟩,f0,f1,f2,f3⟩:=box4 hb (b:=w.heap.size) (by simp; omega) (heap3 w _ _ _).1
     obtain ⟨⟨t0,t1⟩,u0,u1⟩:=box2 hb (b:=w.heap.size+1) (by simp) (heap3 w _ _ _).2.1
     obtain ⟨⟨x0,x1,x2,x3⟩,y0,y1,y2,y3⟩:=box4 hb (b:=w.heap.size+2) (by simp) (heap3 w _ _ _).2.2
     go_wp2
     go_quiet (fail)
     go_wp2_with (at_builtin; refine wpList_append_own _ rfl _ _ 65 rfl _ 3 i0 (.int .i64 0) 1 8 Tryz.underlying65 hi hz0 hz1 hz2 rfl (by decide) _ _ _ rfl ((OwnI.drewN HOWN.out _).alloc _) ⟨w1.heap.size,0,none⟩ 1 1 [.int .i64 what] rfl rfl ?c1 ?c2 ?c3 ?c4 ?c5 ?_)
     case c1 =>
      intro j u hj
      match j,hj with
      | 0,hj=>simp at hj; subst hj; exact cell_new (w1.drewN _) _ _
     case c2=>intro u hu; simp at hu; subst hu; rfl
     case c3=>unfold maxLen; simp only [List.length_cons]; omega
     case c4=>simp only [List.length_cons]; omega
     case c5=>exact Nat.le_trans hb.size (bal (w1.drewN _) _).size
     intro v' w2 hown1 hg1 _
     obtain ⟨a2',c2',rfl,hcz,hown2⟩:=own_one (l:=(x :: t)) (x:=what) hown1 rfl rfl
     dsimp only [List.length_cons,List.length_nil] at hcz hown2 ⊢
     have hb2:=((below_drewN hb _).alloc hb.size (.cells #[.int .i64 what] 3)).grown hg1 (Nat.le_trans hb.size (bal (w1.drewN _) _).size) HBLK.out
     obtain ⟨b2',o2',rfl,-⟩:=hown2.hi 0 (by simp)
     have HO2:=Lib.hid hown2.hi
     clear hown1 hown2 hg1 d0 d1 d2 d3 f0 f1 f2 f3 t0 t1 u0 u1 x0 x1 x2 x3 y0 y1 y2 y3 cl
     obtain ⟨⟨d0,d1,d2,d3⟩,f0,f1,f2,f3⟩:=box4 hb2 (b:=w.heap.size) (by simp; omega) (heap3 w _ _ _).1
     obtain ⟨⟨t0,t1⟩,u0,u1⟩:=box2 hb2 (b:=w.heap.size+1) (by simp) (heap3 w _ _ _).2.1
     obtain ⟨⟨x0,x1,x2,x3⟩,y0,y1,y2,y3⟩:=box4 hb2 (b:=w.heap.size+2) (by simp) (heap3 w _ _ _).2.2
     go_wp2
     go_region
     go_wp2
     refine bodyPost_ret (v:=.agg #[.slice a1 l1.length c1,.slice (some ⟨b2',o2',none⟩) (t.length+1+1) c2',.slice a3 l3.length c3,.slice a4 l4.length c4]) (by have hm:max (0:Int) ((t.length:Int)+1+1 - 5)=0:=(by omega); simp [results,Tryz.results97,go_sem, *]) rfl ?_
     refine add_end (l':=(x :: t) ++ [what]) (c:=c2') HO2.out rfl (by simp; omega) (by simp; omega) hb2 ⟨bal3 w _ _ _,by simp⟩ ?_ (by simp [Bx.set]) (by simpa [Bx.get] using ADD.out.symm)
     repeat (first | with_reducible exact Keeps.refl _ _ | (with_reducible refine Keeps.drew ?_) | (with_reducible refine Keeps.drewN ?_ _) | (with_reducible refine Keeps.setCell ?_ (.inl rfl) _) | (with_reducible refine Keeps.setCell ?_ (.inr rfl) _))
    ·have:∃ p q r s,t=[p,q,r,s]:=by
      match t,h4 with
      | [p,q,r,s],_=>exact ⟨p,q,r,s,rfl⟩
     obtain ⟨p,q,r,s,rfl⟩:=this
     have ADD:=Lib.hid (addL_new [x,p,q,r,s] what 4 rfl hx)
     dsimp only [List.length_cons,List.length_nil] at *
     have hy:[x,p,q,r,s][4]=s:=rfl
     have hyb:(s == what)=false:=by simpa using hx
     clear hx h4
     go_enter Tryz.func97,Tryz.ntmps97
     go_wp2_with fail
     refine (clone_own [x,p,q,r,s] _ _ _ _ rfl (by simp) (O1.out _ _ _)).mono ?_
     rintro e w1 ⟨a',c',rfl,hown,hb⟩
     have HOWN:=Lib.hid hown
     have HBLK:=Lib.hid hown.blk
     obtain ⟨b',o',rfl,-,-,cl⟩:=hown.hi 4 (by simp)
     rw [hy] at cl
     clear hy hown
     obtain ⟨⟨d0,d1,d2,d3⟩,f0,f1,f2,f3⟩:=box4 hb (b:=w.heap.size) (by simp; omega) (heap3 w _ _ _).1
     obtain ⟨⟨t0,t1⟩,u0,u1⟩:=box2 hb (b:=w.heap.size+1) (by simp) (heap3 w _ _ _).2.1
     obtain ⟨⟨x0,x1,x2,x3⟩,y0,y1,y2,y3⟩:=box4 hb (b:=w.heap.size+2) (by simp) (heap3 w _ _ _).2.2
     go_wp2
     go_quiet (fail)
     go_wp2_with (at_builtin; refine wpList_append_own _ rfl _ _ 65 rfl _ 3 i0 (.int .i64 0) 1 8 Tryz.underlying65 hi hz0 hz1 hz2 rfl (by decide) _ _ _ rfl ((OwnI.drewN HOWN.out _).alloc _) ⟨w1.heap.size,0,none⟩ 1 1 [.int .i64 what] rfl rfl ?c1 ?c2 ?c3 ?c4 ?c5 ?_)
     case c1 =>
      intro j u hj
      match j,hj with
      | 0,hj=>simp at hj; subst hj; exact cell_new (w1.drewN _) _ _
     case c2=>intro u hu; simp at hu; subst hu; rfl
     case c3=>unfold maxLen; simp only [List.length_cons,List.length_nil]; omega
     case c4=>simp only [List.length_cons,List.length_nil]; omega
     case c5=>exact Nat.le_trans hb.size (bal (w1.drewN _) _).size
     intro v' w2 hown1 hg1 _
     obtain ⟨a2',c2',rfl,hcz,hown2⟩:=own_one (l:=[x,p,q,r,s]) (x:=what) hown1 rfl rfl
     dsimp only [List.length_cons,List.length_nil] at hcz hown2 ⊢
     have hb2:=((below_drewN hb _).alloc hb.size (.cells #[.int .i64 what] 3)).grown hg1 (Nat.le_trans hb.size (bal (w1.drewN _) _).size) HBLK.out
     obtain ⟨b2',o2',rfl,-⟩:=hown2.hi 0 (by simp)
     have HO2:=Lib.hid hown2.hi
     clear hown1 hown2 hg1 d0 d1 d2 d3 f0 f1 f2 f3 t0 t1 u0 u1 x0 x1 x2 x3 y0 y1 y2 y3 cl
     obtain ⟨⟨d0,d1,d2,d3⟩,f0,f1,f2,f3⟩:=box4 hb2 (b:=w.heap.size) (by simp; omega) (heap3 w _ _ _).1
     obtain ⟨⟨t0,t1⟩,u0,u1⟩:=box2 hb2 (b:=w.heap.size+1) (by simp) (heap3 w _ _ _).2.1
     obtain ⟨⟨x0,x1,x2,x3⟩,y0,y1,y2,y3⟩:=box4 hb2 (b:=w.heap.size+2) (by simp) (heap3 w _ _ _).2.2
     go_wp2
     go_region
     go_wp2
     refine bodyPost_ret (v:=.agg #[.slice a1 l1.length c1,.slice (some ⟨b2',o2'+1,none⟩) 5 (c2' - 1),.slice a3 l3.length c3,.slice a4 l4.length c4]) (by have hm:max (0:Int) 1=1:=(by decide); simp [results,Tryz.results97,go_sem, *]) rfl ?_
     refine add_end (l':=[p,q,r,s,what]) (c:=c2' - 1) (HiI.tail (x:=x) (t:=[p,q,r,s,what]) HO2.out) rfl (by simp; omega) (by simp) hb2 ⟨bal3 w _ _ _,by simp⟩ ?_ (by simp [Bx.set]) (by simpa [Bx.get] using ADD.out.symm)
     repeat (first | with_reducible exact Keeps.refl _ _ | (with_reducible refine Keeps.drew ?_) | (with_reducible refine Keeps.drewN ?_ _) | (with_reducible refine Keeps.setCell ?_ (.inl rfl) _) | (with_reducible refine Keeps.setCell ?_ (.inr rfl) _))
 ·have hlen1:l3.length≤5:=o3.len
  have O1:=Lib.hid (fun (o p q:Obj)=>(o3.ints.below (bal3 w o p q) (Nat.le_refl _)).mono (bal3 w o p q).size)
  have OL:=Lib.hid o3
  clear o1 o2 o3 o4 hok hw
  cases l3 with
  | nil =>
   dsimp only [List.length_nil]
   go_enter Tryz.func97,Tryz.ntmps97
   go_wp2_with fail
   refine (clone_own [] _ _ _ _ rfl (by simp) (Ints.nil _ _ _)).mono ?_
   rintro e w1 ⟨a',c',rfl,hown,hb⟩
   have HOWN:=Lib.hid hown
   have HBLK:=Lib.hid hown.blk
   clear hown
   obtain ⟨⟨d0,d1,d2,d3⟩,f0,f1,f2,f3⟩:=box4 hb (b:=w.heap.size) (by simp; omega) (heap3 w _ _ _).1
   obtain ⟨⟨t0,t1⟩,u0,u1⟩:=box2 hb (b:=w.heap.size+1) (by simp) (heap3 w _ _ _).2.1
   obtain ⟨⟨x0,x1,x2,x3⟩,y0,y1,y2,y3⟩:=box4 hb (b:=w.heap.size+2) (by simp) (heap3 w _ _ _).2.2
   go_wp2
   go_quiet (fail)
   go_wp2_with (at_builtin; refine wpList_append_own _ rfl _ _ 65 rfl _ 3 i0 (.int .i64 0) 1 8 Tryz.underlying65 hi hz0 hz1 hz2 rfl (by decide) _ _ _ rfl ((OwnI.drewN HOWN.out _).alloc _) ⟨w1.heap.size,0,none⟩ 1 1 [.int .i64 what] rfl rfl ?c1 ?c2 ?c3 ?c4 ?c5 ?_)
   case c1 =>
    intro j u hj
    match j,hj with
    | 0,hj=>simp at hj; subst hj; exact cell_new (w1.drewN _) _ _
   case c2=>intro u hu; simp at hu; subst hu; rfl
   case c3=>unfold maxLen; omega
   case c4=>omega
   case c5=>exact Nat.le_trans hb.size (bal (w1.drewN _) _).size
   intro v' w2 hown1 hg1 _
   obtain ⟨a2',c2',rfl,hcz,hown2⟩:=own_one (l:=[]) (x:=what) hown1 rfl rfl
   have hb2:=((below_drewN hb _).alloc hb.size (.cells #[.int .i64 what] 3)).grown hg1 (Nat.le_trans hb.size (bal (w1.drewN _) _).size) HBLK.out
   have HO2:=Lib.hid hown2
   clear hown1 hown2 hg1 d0 d1 d2 d3 f0 f1 f2 f3 t0 t1 u0 u1 x0 x1 x2 x3 y0 y1 y2 y3
   obtain ⟨⟨d0,d1,d2,d3⟩,f0,f1,f2,f3⟩:=box4 hb2 (b:=w.heap.size) (by simp; omega) (heap3 w _ _ _).1
   obtain ⟨⟨t0,t1⟩,u0,u1⟩:=box2 hb2 (b:=w.heap.size+1) (by simp) (heap3 w _ _ _).2.1
   obtain ⟨⟨x0,x1,x2,x3⟩,y0,y1,y2,y3⟩:=box4 hb2 (b:=w.heap.size+2) (by simp) (heap3 w _ _ _).2.2
   go_wp2
   go_region
   go_wp2
   refine bodyPost_ret (v:=.agg #[.slice a1 l1.length c1,.slice a2 l2.length c2,.slice a2' 1 c2',.slice a4 l4.length c4]) (by have hm:max (0:Int) (-4)=0:=(by decide); simp [results,Tryz.results97,go_sem, *]) rfl ?_
   refine add_end (l':=[what]) (c:=c2') HO2.out.hi rfl (by simp at hcz ⊢; omega) (by simp) hb2 ⟨bal3 w _ _ _,by simp⟩ ?_ (by simp [Bx.set]) (by simp [Bx.get,addL])
   repeat (first | with_reducible exact Keeps.refl _ _ | (with_reducible refine Keeps.drew ?_) | (with_reducible refine Keeps.setCell ?_ (.inl rfl) _) | (with_reducible refine Keeps.setCell ?_ (.inr rfl) _))
  | cons x t =>
   have hl2:=Nat.lt_succ_self t.length
   rcases (by omega:(x :: t)[t.length]'(by simp)=what∨(x :: t)[t.length]'(by simp)≠what) with hx | hx
   ·have ADD:=Lib.hid (addL_last (x :: t) what t.length rfl hx)
    dsimp only [List.length_cons] at *
    have x1:IntKind.i64.wrap ((t.length:Int)+1 - 1)=(t.length:Int):=by rw [IntWalk.i64_in _ (by omega)]; omega
    have x2:(t.length:Int)+1 - 1=(t.length:Int):=by omega
    go_enter Tryz.func97,Tryz.ntmps97
    go_wp2_with fail
    refine (clone_own (x :: t) _ _ _ _ rfl (by simp; omega) (O1.out _ _ _)).mono ?_
    rintro e w1 ⟨a',c',rfl,hown,hb⟩
    obtain ⟨b',o',rfl,-,-,cl⟩:=hown.hi t.length (by simp)
    obtain ⟨⟨d0,d1,d2,d3⟩,f0,f1,f2,f3⟩:=box4 hb (b:=w.heap.size) (by simp; omega) (heap3 w _ _ _).1
    obtain ⟨⟨t0,t1⟩,u0,u1⟩:=box2 hb (b:=w.heap.size+1) (by simp) (heap3 w _ _ _).2.1
    obtain ⟨⟨x0,x1,x2,x3⟩,y0,y1,y2,y3⟩:=box4 hb (b:=w.heap.size+2) (by simp) (heap3 w _ _ _).2.2
    rw [hx] at cl
    clear hx hown
    go_wp2
    go_quiet (fail)
    go_wp2
    refine bodyPost_ret (v:=.agg #[.slice a1 l1.length c1,.slice a2 l2.length c2,.slice a3 (t.length+1) c3,.slice a4 l4.length c4]) (by simp [results,Tryz.results97,go_sem, *]) rfl ?_
    refine add_same OL.out hb ⟨bal3 w _ _ _,by simp⟩ ?_ (by simp [Bx.set]) (by simpa [Bx.get] using ADD.out.symm)
    repeat (first | with_reducible exact Keeps.refl _ _ | (with_reducible refine Keeps.drew ?_) | (with_reducible refine Keeps.drewN ?_ _) | (with_reducible refine Keeps.setCell ?_ (.inl rfl) _) | (with_reducible refine Keeps.setCell ?_ (.inr rfl) _))
   ·rcases (by simp at hlen1; omega:t.length≤3∨t.length=4) with h3 | h4
    ·have ADD:=Lib.hid (addL_short (x :: t) what t.length rfl hx (by simp; omega))
     obtain ⟨y,hy⟩:∃ y,(x :: t)[t.length]'(by simp)=y:=⟨_,rfl⟩
     rw [hy] at hx
     have hyb:(y == what)=false:=by simpa using hx
     dsimp only [List.length_cons] at *
     have q1:IntKind.i64.wrap ((t.length:Int)+1 - 1)=(t.length:Int):=by rw [IntWalk.i64_in _ (by omega)]; omega
     have q2:(t.length:Int)+1 - 1=(t.length:Int):=by omega
     clear hx
     go_enter Tryz.func97,Tryz.ntmps97
     go_wp2_with fail
     refine (clone_own (x :: t) _ _ _ _ rfl (by simp; omega) (O1.out _ _ _)).mono ?_
     rintro e w1 ⟨a',c',rfl,hown,hb⟩
     have HOWN:=Lib.hid hown
     have HBLK:=Lib.hid hown.blk
     obtain ⟨b',o',rfl,-,-,cl⟩:=hown.hi t.length (by simp)
     rw [hy] at cl
     clear hy hown
     obtain ⟨⟨d0,d1,d2,d3⟩,f0,f1,f2,f3⟩:=box4 hb (b:=w.heap.size) (by simp; omega) (heap3 w _ _ _).1
     obtain ⟨⟨t0,t1⟩,u0,u1⟩:=box2 hb (b:=w.heap.size+1) (by simp) (heap3 w _ _ _).2.1
     obtain ⟨⟨x0,x1,x2,x3⟩,y0,y1,y2,y3⟩:=box4 hb (b:=w.heap.size+2) (by simp) (heap3 w _ _ _).2.2
     go_wp2
     go_quiet (fail)
     go_wp2_with (at_builtin; refine wpList_append_own _ rfl _ _ 65 rfl _ 3 i0 (.int .i64 0) 1 8 Tryz.underlying65 hi hz0 hz1 hz2 rfl (by decide) _ _ _ rfl ((OwnI.drewN HOWN.out _).alloc _) ⟨w1.heap.size,0,none⟩ 1 1 [.int .i64 what] rfl rfl ?c1 ?c2 ?c3 ?c4 ?c5 ?_)
     case c1 =>
      intro j u hj
      match j,hj with
      | 0,hj=>simp at hj; subst hj; exact cell_new (w1.drewN _) _ _
     case c2=>intro u hu; simp at hu; subst hu; rfl
     case c3=>unfold maxLen; simp only [List.length_cons]; omega
     case c4=>simp only [List.length_cons]; omega
     case c5=>exact Nat.le_trans hb.size (bal (w1.drewN _) _).size
     intro v' w2 hown1 hg1 _
     obtain ⟨a2',c2',rfl,hcz,hown2⟩:=own_one (l:=(x :: t)) (x:=what) hown1 rfl rfl
     dsimp only [List.length_cons,List.length_nil] at hcz hown2 ⊢
     have hb2:=((below_drewN hb _).alloc hb.size (.cells #[.int .i64 what] 3)).grown hg1 (Nat.le_trans hb.size (bal (w1.drewN _) _).size) HBLK.out
     obtain ⟨b2',o2',rfl,-⟩:=hown2.hi 0 (by simp)
     have HO2:=Lib.hid hown2.hi
     clear hown1 hown2 hg1 d0 d1 d2 d3 f0 f1 f2 f3 t0 t1 u0 u1 x0 x1 x2 x3 y0 y1 y2 y3 cl
     obtain ⟨⟨d0,d1,d2,d3⟩,f0,f1,f2,f3⟩:=box4 hb2 (b:=w.heap.size) (by simp; omega) (heap3 w _ _ _).1
     obtain ⟨⟨t0,t1⟩,u0,u1⟩:=box2 hb2 (b:=w.heap.size+1) (by simp) (heap3 w _ _ _).2.1
     obtain ⟨⟨x0,x1,x2,x3⟩,y0,y1,y2,y3⟩:=box4 hb2 (b:=w.heap.size+2) (by simp) (heap3 w _ _ _).2.2
     go_wp2
     go_region
     go_wp2
     refine bodyPost_ret (v:=.agg #[.slice a1 l1.length c1,.slice a2 l2.length c2,.slice (some ⟨b2',o2',none⟩) (t.length+1+1) c2',.slice a4 l4.length c4]) (by have hm:max (0:Int) ((t.length:Int)+1+1 - 5)=0:=(by omega); simp [results,Tryz.results97,go_sem, *]) rfl ?_
     refine add_end (l':=(x :: t) ++ [what]) (c:=c2') HO2.out rfl (by simp; omega) (by simp; omega) hb2 ⟨bal3 w _ _ _,by simp⟩ ?_ (by simp [Bx.set]) (by simpa [Bx.get] using ADD.out.symm)
     repeat (first | with_reducible exact Keeps.refl _ _ | (with_reducible refine Keeps.drew ?_) | (with_reducible refine Keeps.drewN ?_ _) | (with_reducible refine Keeps.setCell ?_ (.inl rfl) _) | (with_reducible refine Keeps.setCell ?_ (.inr rfl) _))
    ·have:∃ p q r s,t=[p,q,r,s]:=by
      match t,h4 with
      | [p,q,r,s],_=>exact ⟨p,q,r,s,rfl⟩
     obtain ⟨p,q,r,s,rfl⟩:=this
     have ADD:=Lib.hid (addL_new [x,p,q,r,s] what 4 rfl hx)
     dsimp only [List.length_cons,List.length_nil] at *
     have hy:[x,p,q,r,s][4]=s:=rfl
     have hyb:(s == what)=false:=by simpa using hx
     clear hx h4
     go_enter Tryz.func97,Tryz.ntmps97
     go_wp2_with fail
     refine (clone_own [x,p,q,r,s] _ _ _ _ rfl (by simp) (O1.out _ _ _)).mono ?_
     rintro e w1 ⟨a',c',rfl,hown,hb⟩
     have HOWN:=Lib.hid hown
     have HBLK:=Lib.hid hown.blk
     obtain ⟨b',o',rfl,-,-,cl⟩:=hown.hi 4 (by simp)
     rw [hy] at cl
     clear hy hown
     obtain ⟨⟨d0,d1,d2,d3⟩,f0,f1,f2,f3⟩:=box4 hb (b:=w.heap.size) (by simp; omega) (heap3 w _ _ _).1
     obtain ⟨⟨t0,t1⟩,u0,u1⟩:=box2 hb (b:=w.heap.size+1) (by simp) (heap3 w _ _ _).2.1
     obtain ⟨⟨x0,x1,x2,x3⟩,y0,y1,y2,y3⟩:=box4 hb (b:=w.heap.size+2) (by simp) (heap3 w _ _ _).2.2
     go_wp2
     go_quiet (fail)
     go_wp2_with (at_builtin; refine wpList_append_own _ rfl _ _ 65 rfl _ 3 i0 (.int .i64 0) 1 8 Tryz.underlying65 hi hz0 hz1 hz2 rfl (by decide) _ _ _ rfl ((OwnI.drewN HOWN.out _).alloc _) ⟨w1.heap.size,0,none⟩ 1 1 [.int .i64 what] rfl rfl ?c1 ?c2 ?c3 ?c4 ?c5 ?_)
     case c1 =>
      intro j u hj
      match j,hj with
      | 0,hj=>simp at hj; subst hj; exact cell_new (w1.drewN _) _ _
     case c2=>intro u hu; simp at hu; subst hu; rfl
     case c3=>unfold maxLen; simp only [List.length_cons,List.length_nil]; omega
     case c4=>simp only [List.length_cons,List.length_nil]; omega
     case c5=>exact Nat.le_trans hb.size (bal (w1.drewN _) _).size
     intro v' w2 hown1 hg1 _
     obtain ⟨a2',c2',rfl,hcz,hown2⟩:=own_one (l:=[x,p,q,r,s]) (x:=what) hown1 rfl rfl
     dsimp only [List.length_cons,List.length_nil] at hcz hown2 ⊢
     have hb2:=((below_drewN hb _).alloc hb.size (.cells #[.int .i64 what] 3)).grown hg1 (Nat.le_trans hb.size (bal (w1.drewN _) _).size) HBLK.out
     obtain ⟨b2',o2',rfl,-⟩:=hown2.hi 0 (by simp)
     have HO2:=Lib.hid hown2.hi
     clear hown1 hown2 hg1 d0 d1 d2 d3 f0 f1 f2 f3 t0 t1 u0 u1 x0 x1 x2 x3 y0 y1 y2 y3 cl
     obtain ⟨⟨d0,d1,d2,d3⟩,f0,f1,f2,f3⟩:=box4 hb2 (b:=w.heap.size) (by simp; omega) (heap3 w _ _ _).1
     obtain ⟨⟨t0,t1⟩,u0,u1⟩:=box2 hb2 (b:=w.heap.size+1) (by simp) (heap3 w _ _ _).2.1
     obtain ⟨⟨x0,x1,x2,x3⟩,y0,y1,y2,y3⟩:=box4 hb2 (b:=w.heap.size+2) (by simp) (heap3 w _ _ _).2.2
     go_wp2
     go_region
     go_wp2
     refine bodyPost_ret (v:=.agg #[.slice a1 l1.length c1,.slice a2 l2.length c2,.slice (some ⟨b2',o2'+1,none⟩) 5 (c2' - 1),.slice a4 l4.length c4]) (by have hm:max (0:Int) 1=1:=(by decide); simp [results,Tryz.results97,go_sem, *]) rfl ?_
     refine add_end (l':=[p,q,r,s,what]) (c:=c2' - 1) (HiI.tail (x:=x) (t:=[p,q,r,s,what]) HO2.out) rfl (by simp; omega) (by simp) hb2 ⟨bal3 w _ _ _,by simp⟩ ?_ (by simp [Bx.set]) (by simpa [Bx.get] using ADD.out.symm)
     repeat (first | with_reducible exact Keeps.refl _ _ | (with_reducible refine Keeps.drew ?_) | (with_reducible refine Keeps.drewN ?_ _) | (with_reducible refine Keeps.setCell ?_ (.inl rfl) _) | (with_reducible refine Keeps.setCell ?_ (.inr rfl) _))
 ·have hlen1:l4.length≤5:=o4.len
  have O1:=Lib.hid (fun (o p q:Obj)=>(o4.ints.below (bal3 w o p q) (Nat.le_refl _)).mono (bal3 w o p q).size)
  have OL:=Lib.hid o4
  clear o1 o2 o3 o4 hok hw
  cases l4 with
  | nil =>
   dsimp only [List.length_nil]
   go_enter Tryz.func97,Tryz.ntmps97
   go_wp2_with fail
   refine (clone_own [] _ _ _ _ rfl (by simp) (Ints.nil _ _ _)).mono ?_
   rintro e w1 ⟨a',c',rfl,hown,hb⟩
   have HOWN:=Lib.hid hown
   have HBLK:=Lib.hid hown.blk
   clear hown
   obtain ⟨⟨d0,d1,d2,d3⟩,f0,f1,f2,f3⟩:=box4 hb (b:=w.heap.size) (by simp; omega) (heap3 w _ _ _).1
   obtain ⟨⟨t0,t1⟩,u0,u1⟩:=box2 hb (b:=w.heap.size+1) (by simp) (heap3 w _ _ _).2.1
   obtain ⟨⟨x0,x1,x2,x3⟩,y0,y1,y2,y3⟩:=box4 hb (b:=w.heap.size+2) (by simp) (heap3 w _ _ _).2.2
   go_wp2
   go_quiet (fail)
   go_wp2_with (at_builtin; refine wpList_append_own _ rfl _ _ 65 rfl _ 3 i0 (.int .i64 0) 1 8 Tryz.underlying65 hi hz0 hz1 hz2 rfl (by decide) _ _ _ rfl ((OwnI.drewN HOWN.out _).alloc _) ⟨w1.heap.size,0,none⟩ 1 1 [.int .i64 what] rfl rfl ?c1 ?c2 ?c3 ?c4 ?c5 ?_)
   case c1 =>
    intro j u hj
    match j,hj with
    | 0,hj=>simp at hj; subst hj; exact cell_new (w1.drewN _) _ _
   case c2=>intro u hu; simp at hu; subst hu; rfl
   case c3=>unfold maxLen; omega
   case c4=>omega
   case c5=>exact Nat.le_trans hb.size (bal (w1.drewN _) _).size
   intro v' w2 hown1 hg1 _
   obtain ⟨a2',c2',rfl,hcz,hown2⟩:=own_one (l:=[]) (x:=what) hown1 rfl rfl
   have hb2:=((below_drewN hb _).alloc hb.size (.cells #[.int .i64 what] 3)).grown hg1 (Nat.le_trans hb.size (bal (w1.drewN _) _).size) HBLK.out
   have HO2:=Lib.hid hown2
   clear hown1 hown2 hg1 d0 d1 d2 d3 f0 f1 f2 f3 t0 t1 u0 u1 x0 x1 x2 x3 y0 y1 y2 y3
   obtain ⟨⟨d0,d1,d2,d3⟩,f0,f1,f2,f3⟩:=box4 hb2 (b:=w.heap.size) (by simp; omega) (heap3 w _ _ _).1
   obtain ⟨⟨t0,t1⟩,u0,u1⟩:=box2 hb2 (b:=w.heap.size+1) (by simp) (heap3 w _ _ _).2.1
   obtain ⟨⟨x0,x1,x2,x3⟩,y0,y1,y2,y3⟩:=box4 hb2 (b:=w.heap.size+2) (by simp) (heap3 w _ _ _).2.2
   go_wp2
   go_region
   go_wp2
   refine bodyPost_ret (v:=.agg #[.slice a1 l1.length c1,.slice a2 l2.length c2,.slice a3 l3.length c3,.slice a2' 1 c2']) (by have hm:max (0:Int) (-4)=0:=(by decide); simp [results,Tryz.results97,go_sem, *]) rfl ?_
   refine add_end (l':=[what]) (c:=c2') HO2.out.hi rfl (by simp at hcz ⊢; omega) (by simp) hb2 ⟨bal3 w _ _ _,by simp⟩ ?_ (by simp [Bx.set]) (by simp [Bx.get,addL])
   repeat (first | with_reducible exact Keeps.refl _ _ | (with_reducible refine Keeps.drew ?_) | (with_reducible refine Keeps.setCell ?_ (.inl rfl) _) | (with_reducible refine Keeps.setCell ?_ (.inr rfl) _))
  | cons x t =>
   have hl2:=Nat.lt_succ_self t.length
   rcases (by omega:(x :: t)[t.length]'(by simp)=what∨(x :: t)[t.length]'(by simp)≠what) with hx | hx
   ·have ADD:=Lib.hid (addL_last (x :: t) what t.length rfl hx)
    dsimp only [List.length_cons] at *
    have x1:IntKind.i64.wrap ((t.length:Int)+1 - 1)=(t.length:Int):=by rw [IntWalk.i64_in _ (by omega)]; omega
    have x2:(t.length:Int)+1 - 1=(t.length:Int):=by omega
    go_enter Tryz.func97,Tryz.ntmps97
    go_wp2_with fail
    refine (clone_own (x :: t) _ _ _ _ rfl (by simp; omega) (O1.out _ _ _)).mono ?_
    rintro e w1 ⟨a',c',rfl,hown,hb⟩
    obtain ⟨b',o',rfl,-,-,cl⟩:=hown.hi t.length (by simp)
    obtain ⟨⟨d0,d1,d2,d3⟩,f0,f1,f2,f3⟩:=box4 hb (b:=w.heap.size) (by simp; omega) (heap3 w _ _ _).1
    obtain ⟨⟨t0,t1⟩,u0,u1⟩:=box2 hb (b:=w.heap.size+1) (by simp) (heap3 w _ _ _).2.1
    obtain ⟨⟨x0,x1,x2,x3⟩,y0,y1,y2,y3⟩:=box4 hb (b:=w.heap.size+2) (by simp) (heap3 w _ _ _).2.2
    rw [hx] at cl
    clear hx hown
    go_wp2
    go_quiet (fail)
    go_wp2
    refine bodyPost_ret (v:=.agg #[.slice a1 l1.length c1,.slice a2 l2.length c2,.slice a3 l3.length c3,.slice a4 (t.length+1) c4]) (by simp [results,Tryz.results97,go_sem, *]) rfl ?_
    refine add_same OL.out hb ⟨bal3 w _ _ _,by simp⟩ ?_ (by simp [Bx.set]) (by simpa [Bx.get] using ADD.out.symm)
    repeat (first | with_reducible exact Keeps.refl _ _ | (with_reducible refine Keeps.drew ?_) | (with_reducible refine Keeps.drewN ?_ _) | (with_reducible refine Keeps.setCell ?_ (.inl rfl) _) | (with_reducible refine Keeps.setCell ?_ (.inr rfl) _))
   ·rcases (by simp at hlen1; omega:t.length≤3∨t.length=4) with h3 | h4
    ·have ADD:=Lib.hid (addL_short (x :: t) what t.length rfl hx (by simp; omega))
     obtain ⟨y,hy⟩:∃ y,(x :: t)[t.length]'(by simp)=y:=⟨_,rfl⟩
     rw [hy] at hx
     have hyb:(y == what)=false:=by simpa using hx
     dsimp only [List.length_cons] at *
     have q1:IntKind.i64.wrap ((t.length:Int)+1 - 1)=(t.length:Int):=by rw [IntWalk.i64_in _ (by omega)]; omega
     have q2:(t.length:Int)+1 - 1=(t.length:Int):=by omega
     clear hx
     go_enter Tryz.func97,Tryz.ntmps97
     go_wp2_with fail
     refine (clone_own (x :: t) _ _ _ _ rfl (by simp; omega) (O1.out _ _ _)).mono ?_
     rintro e w1 ⟨a',c',rfl,hown,hb⟩
     have HOWN:=Lib.hid hown
     have HBLK:=Lib.hid hown.blk
     obtain ⟨b',o',rfl,-,-,cl⟩:=hown.hi t.length (by simp)
     rw [hy] at cl
     clear hy hown
     obtain ⟨⟨d0,d1,d2,d3⟩,f0,f1,f2,f3⟩:=box4 hb (b:=w.heap.size) (by simp; omega) (heap3 w _ _ _).1
     obtain ⟨⟨t0,t1⟩,u0,u1⟩:=box2 hb (b:=w.heap.size+1) (by simp) (heap3 w _ _ _).2.1
     obtain ⟨⟨x0,x1,x2,x3⟩,y0,y1,y2,y3⟩:=box4 hb (b:=w.heap.size+2) (by simp) (heap3 w _ _ _).2.2
     go_wp2
     go_quiet (fail)
     go_wp2_with (at_builtin; refine wpList_append_own _ rfl _ _ 65 rfl _ 3 i0 (.int .i64 0) 1 8 Tryz.underlying65 hi hz0 hz1 hz2 rfl (by decide) _ _ _ rfl ((OwnI.drewN HOWN.out _).alloc _) ⟨w1.heap.size,0,none⟩ 1 1 [.int .i64 what] rfl rfl ?c1 ?c2 ?c3 ?c4 ?c5 ?_)
     case c1 =>
      intro j u hj
      match j,hj with
      | 0,hj=>simp at hj; subst hj; exact cell_new (w1.drewN _) _ _
     case c2=>intro u hu; simp at hu; subst hu; rfl
     case c3=>unfold maxLen; simp only [List.length_cons]; omega
     case c4=>simp only [List.length_cons]; omega
     case c5=>exact Nat.le_trans hb.size (bal (w1.drewN _) _).size
     intro v' w2 hown1 hg1 _
     obtain ⟨a2',c2',rfl,hcz,hown2⟩:=own_one (l:=(x :: t)) (x:=what) hown1 rfl rfl
     dsimp only [List.length_cons,List.length_nil] at hcz hown2 ⊢
     have hb2:=((below_drewN hb _).alloc hb.size (.cells #[.int .i64 what] 3)).grown hg1 (Nat.le_trans hb.size (bal (w1.drewN _) _).size) HBLK.out
     obtain ⟨b2',o2',rfl,-⟩:=hown2.hi 0 (by simp)
     have HO2:=Lib.hid hown2.hi
     clear hown1 hown2 hg1 d0 d1 d2 d3 f0 f1 f2 f3 t0 t1 u0 u1 x0 x1 x2 x3 y0 y1 y2 y3 cl
     obtain ⟨⟨d0,d1,d2,d3⟩,f0,f1,f2,f3⟩:=box4 hb2 (b:=w.heap.size) (by simp; omega) (heap3 w _ _ _).1
     obtain ⟨⟨t0,t1⟩,u0,u1⟩:=box2 hb2 (b:=w.heap.size+1) (by simp) (heap3 w _ _ _).2.1
     obtain ⟨⟨x0,x1,x2,x3⟩,y0,y1,y2,y3⟩:=box4 hb2 (b:=w.heap.size+2) (by simp) (heap3 w _ _ _).2.2
     go_wp2
     go_region
     go_wp2
     refine bodyPost_ret (v:=.agg #[.slice a1 l1.length c1,.slice a2 l2.length c2,.slice a3 l3.length c3,.slice (some ⟨b2',o2',none⟩) (t.length+1+1) c2']) (by have hm:max (0:Int) ((t.length:Int)+1+1 - 5)=0:=(by omega); simp [results,Tryz.results97,go_sem, *]) rfl ?_
     refine add_end (l':=(x :: t) ++ [what]) (c:=c2') HO2.out rfl (by simp; omega) (by simp; omega) hb2 ⟨bal3 w _ _ _,by simp⟩ ?_ (by simp [Bx.set]) (by simpa [Bx.get] using ADD.out.symm)
     repeat (first | with_reducible exact Keeps.refl _ _ | (with_reducible refine Keeps.drew ?_) | (with_reducible refine Keeps.drewN ?_ _) | (with_reducible refine Keeps.setCell ?_ (.inl rfl) _) | (with_reducible refine Keeps.setCell ?_ (.inr rfl) _))
    ·have:∃ p q r s,t=[p,q,r,s]:=by
      match t,h4 with
      | [p,q,r,s],_=>exact ⟨p,q,r,s,rfl⟩
     obtain ⟨p,q,r,s,rfl⟩:=this
     have ADD:=Lib.hid (addL_new [x,p,q,r,s] what 4 rfl hx)
     dsimp only [List.length_cons,List.length_nil] at *
     have hy:[x,p,q,r,s][4]=s:=rfl
     have hyb:(s == what)=false:=by simpa using hx
     clear hx h4
     go_enter Tryz.func97,Tryz.ntmps97
     go_wp2_with fail
     refine (clone_own [x,p,q,r,s] _ _ _ _ rfl (by simp) (O1.out _ _ _)).mono ?_
     rintro e w1 ⟨a',c',rfl,hown,hb⟩
     have HOWN:=Lib.hid hown
     have HBLK:=Lib.hid hown.blk
     obtain ⟨b',o',rfl,-,-,cl⟩:=hown.hi 4 (by simp)
     rw [hy] at cl
     clear hy hown
     obtain ⟨⟨d0,d1,d2,d3⟩,f0,f1,f2,f3⟩:=box4 hb (b:=w.heap.size) (by simp; omega) (heap3 w _ _ _).1
     obtain ⟨⟨t0,t1⟩,u0,u1⟩:=box2 hb (b:=w.heap.size+1) (by simp) (heap3 w _ _ _).2.1
     obtain ⟨⟨x0,x1,x2,x3⟩,y0,y1,y2,y3⟩:=box4 hb (b:=w.heap.size+2) (by simp) (heap3 w _ _ _).2.2
     go_wp2
     go_quiet (fail)
     go_wp2_with (at_builtin; refine wpList_append_own _ rfl _ _ 65 rfl _ 3 i0 (.int .i64 0) 1 8 Tryz.underlying65 hi hz0 hz1 hz2 rfl (by decide) _ _ _ rfl ((OwnI.drewN HOWN.out _).alloc _) ⟨w1.heap.size,0,none⟩ 1 1 [.int .i64 what] rfl rfl ?c1 ?c2 ?c3 ?c4 ?c5 ?_)
     case c1 =>
      intro j u hj
      match j,hj with
      | 0,hj=>simp at hj; subst hj; exact cell_new (w1.drewN _) _ _
     case c2=>intro u hu; simp at hu; subst hu; rfl
     case c3=>unfold maxLen; simp only [List.length_cons,List.length_nil]; omega
     case c4=>simp only [List.length_cons,List.length_nil]; omega
     case c5=>exact Nat.le_trans hb.size (bal (w1.drewN _) _).size
     intro v' w2 hown1 hg1 _
     obtain ⟨a2',c2',rfl,hcz,hown2⟩:=own_one (l:=[x,p,q,r,s]) (x:=what) hown1 rfl rfl
     dsimp only [List.length_cons,List.length_nil] at hcz hown2 ⊢
     have hb2:=((below_drewN hb _).alloc hb.size (.cells #[.int .i64 what] 3)).grown hg1 (Nat.le_trans hb.size (bal (w1.drewN _) _).size) HBLK.out
     obtain ⟨b2',o2',rfl,-⟩:=hown2.hi 0 (by simp)
     have HO2:=Lib.hid hown2.hi
     clear hown1 hown2 hg1 d0 d1 d2 d3 f0 f1 f2 f3 t0 t1 u0 u1 x0 x1 x2 x3 y0 y1 y2 y3 cl
     obtain ⟨⟨d0,d1,d2,d3⟩,f0,f1,f2,f3⟩:=box4 hb2 (b:=w.heap.size) (by simp; omega) (heap3 w _ _ _).1
     obtain ⟨⟨t0,t1⟩,u0,u1⟩:=box2 hb2 (b:=w.heap.size+1) (by simp) (heap3 w _ _ _).2.1
     obtain ⟨⟨x0,x1,x2,x3⟩,y0,y1,y2,y3⟩:=box4 hb2 (b:=w.heap.size+2) (by simp) (heap3 w _ _ _).2.2
     go_wp2
     go_region
     go_wp2
     refine bodyPost_ret (v:=.agg #[.slice a1 l1.length c1,.slice a2 l2.length c2,.slice a3 l3.length c3,.slice (some ⟨b2',o2'+1,none⟩) 5 (c2' - 1)]) (by have hm:max (0:Int) 1=1:=(by decide); simp [results,Tryz.results97,go_sem, *]) rfl ?_
     refine add_end (l':=[p,q,r,s,what]) (c:=c2' - 1) (HiI.tail (x:=x) (t:=[p,q,r,s,what]) HO2.out) rfl (by simp; omega) (by simp) hb2 ⟨bal3 w _ _ _,by simp⟩ ?_ (by simp [Bx.set]) (by simpa [Bx.get] using ADD.out.symm)
     repeat (first | with_reducible exact Keeps.refl _ _ | (with_reducible refine Keeps.drew ?_) | (with_reducible refine Keeps.drewN ?_ _) | (with_reducible refine Keeps.setCell ?_ (.inl rfl) _) | (with_reducible refine Keeps.setCell ?_ (.inr rfl) _))
end Go.Proofs.YtajegiifabfcjaaGreatDoor
