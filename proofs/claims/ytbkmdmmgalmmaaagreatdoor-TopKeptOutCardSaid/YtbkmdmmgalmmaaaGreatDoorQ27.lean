/-
  RTake, RAdd, Power
-/
import Derived.Test.YtbkmdmmgalmmaaaGreatDoorQ11
import Derived.Test.YtbkmdmmgalmmaaaGreatDoorQ26
import Derived.Test.YtbkmdmmgalmmaaaGreatDoorQ10
import Derived.Deep.RegionHeld3
import Derived.Deep.AppendLies
namespace Go.Proofs.YtbkmdmmgalmmaaaGreatDoor
open Go.RowKit
end Go.Proofs.YtbkmdmmgalmmaaaGreatDoor

namespace Go.Proofs.YtbkmdmmgalmmaaaGreatDoor
open Go.RowKit
end Go.Proofs.YtbkmdmmgalmmaaaGreatDoor

namespace Go.Proofs.YtbkmdmmgalmmaaaGreatDoor
open Go.RowKit
def PowerPost2 (w:World) (e:Ending) (w':World):Prop :=
 ∃ b:Bx,e=.returned (.agg b.cells)∧b.ok w'∧(b.s1.l=[4]∧b.s2.l=[4]∧b.s3.l=[4]∧b.s4.l=[4])∧Below w.heap.size w w'∧∀ k,HiI w.heap.size w' (b.get k).a (b.get k).l
theorem hi_one {B:Nat} {w:World} {b:Nat} {x:Int} {T:TypeId} (h:w.heap[b]?=some (.cells #[.int .i64 x] T (0,0))) (hB:B≤b):HiI B w (some ⟨b,0,none⟩) [x]:=by
 intro i hi
 obtain rfl:i=0:=by simp at hi; omega
 exact ⟨b,0,rfl,hB,(Array.getElem?_eq_some_iff.1 h).1,by simp [World.cell?,h]⟩
theorem bx_all {b:Bx} {p:Sl→Prop} (h1:p b.s1) (h2:p b.s2) (h3:p b.s3) (h4:p b.s4) (k:Int):p (b.get k):=by
 unfold Bx.get
 split
 ·exact h1
 split
 ·exact h2
 split
 ·exact h3
 ·exact h4
theorem ints_four {w:World} {b:Nat} {x:Int} {T:TypeId} (h:w.heap[b]?=some (.cells #[.int .i64 x] T (0,0))):Ints w.heap.size w (some ⟨b,0,none⟩) [x]:=by
 intro i hi
 obtain rfl:i=0:=by simp at hi; omega
 exact ⟨b,0,rfl,(Array.getElem?_eq_some_iff.1 h).1,by simp [World.cell?,h]⟩
theorem one_ok {w:World} {b:Nat} {x:Int} {T:TypeId} (h:w.heap[b]?=some (.cells #[.int .i64 x] T (0,0))):Sl.ok ⟨some ⟨b,0,none⟩,[x],1⟩ w:=⟨ints_four h,by simp,by simp⟩
set_option maxRecDepth 100000 in
set_option maxHeartbeats 4000000 in
theorem power_any2 (w:World):Calls Tryz.prog 81 #[] w (PowerPost2 w):=by
 go_enter Tryz.func81,Tryz.ntmps81
 go_wp2
 refine wp_loop_rounds 5 ?_
 rw [rounds_succ]
 go_wp2
 rw [rounds_succ]
 go_wp2
 rw [rounds_succ]
 go_wp2
 rw [rounds_succ]
 go_wp2
 rw [rounds_succ]
 go_wp2
 refine bodyPost_ret (v:=.agg #[.slice (some ⟨w.heap.size+1+1,0,none⟩) 1 1,.slice (some ⟨w.heap.size+1+1+1,0,none⟩) 1 1,.slice (some ⟨w.heap.size+1+1+1+1,0,none⟩) 1 1,.slice (some ⟨w.heap.size+1+1+1+1+1,0,none⟩) 1 1]) (by simp [results,Tryz.results81,go_sem]) rfl ?_
 refine ⟨⟨⟨_,[4],1⟩,⟨_,[4],1⟩,⟨_,[4],1⟩,⟨_,[4],1⟩⟩,rfl,⟨one_ok (T:=3) ?_,one_ok (T:=3) ?_,one_ok (T:=3) ?_,one_ok (T:=3) ?_⟩,⟨rfl,rfl,rfl,rfl⟩,?_,bx_all (p:=fun s:Sl=>HiI w.heap.size _ s.a s.l) (hi_one (T:=3) (at_old _ (at_old _ (at_old _ (at_end _ _ (by simp))))) (by omega)) (hi_one (T:=3) (at_old _ (at_old _ (at_end _ _ (by simp)))) (by omega)) (hi_one (T:=3) (at_old _ (at_end _ _ (by simp))) (by omega)) (hi_one (T:=3) (at_end _ _ (by simp)) (by omega))⟩
 ·exact at_old _ (at_old _ (at_old _ (at_end _ _ (by simp))))
 ·exact at_old _ (at_old _ (at_end _ _ (by simp)))
 ·exact at_old _ (at_end _ _ (by simp))
 ·exact at_end _ _ (by simp)
 ·exact ((((((Below.refl _ _).alloc (Nat.le_refl _) _).alloc (by simp) _).alloc (by simp; omega) _).alloc (by simp; omega) _).alloc (by simp; omega) _).alloc (by simp; omega) _
end Go.Proofs.YtbkmdmmgalmmaaaGreatDoor
