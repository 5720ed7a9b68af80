/-
  TellSays: the walk.
-/
import Derived.Test.YtkiogccpbdpfaaaPower
import Derived.Test.YtkiogccpbdpfaaaQNum
import Derived.StillTailTactics
namespace Go.Proofs.Ytkiogccpbdpfaaa
open Go.RowKit

theorem add_zero_box (w : World) : Calls Try.prog 31 #[.agg #[.slice none 0 0, .slice none 0 0, .slice none 0 0, .slice none 0 0], .agg #[.int .i64 2, .int .i64 1]] w fun e w' =>
    ∃ a c, e = .returned (.agg #[.slice none 0 0, .slice a 1 c, .slice none 0 0, .slice none 0 0]) ∧ Sl.ok ⟨a, [1], c⟩ w' ∧ Below w.heap.size w w' := by
  have hz : Bx.ok ⟨⟨none, [], 0⟩, ⟨none, [], 0⟩, ⟨none, [], 0⟩, ⟨none, [], 0⟩⟩ w := ⟨⟨Ints.nil _ _ _, by simp, by simp⟩, ⟨Ints.nil _ _ _, by simp, by simp⟩, ⟨Ints.nil _ _ _, by simp, by simp⟩, ⟨Ints.nil _ _ _, by simp, by simp⟩⟩
  refine (add_any _ 2 1 w hz (by omega)).mono ?_
  rintro e w' ⟨⟨a, l, c⟩, h1, h2, h3, h4⟩
  obtain rfl : l = [1] := h3
  exact ⟨a, c, h1, h2, h4⟩

theorem take_two (a : Option Addr) (c : Nat) (w : World) (h : Sl.ok ⟨a, [1], c⟩ w) : Calls Try.prog 27 #[.agg #[.slice none 0 0, .slice a 1 c, .slice none 0 0, .slice none 0 0], .int .i64 2] w fun e w' =>
    ∃ a' n' c', e = .returned (.tuple #[.agg #[.slice none 0 0, .slice a' n' c', .slice none 0 0, .slice none 0 0], .int .i64 1]) ∧ Below w.heap.size w w' := by
  have hz : Bx.ok ⟨⟨none, [], 0⟩, ⟨a, [1], c⟩, ⟨none, [], 0⟩, ⟨none, [], 0⟩⟩ w := ⟨⟨Ints.nil _ _ _, by simp, by simp⟩, h, ⟨Ints.nil _ _ _, by simp, by simp⟩, ⟨Ints.nil _ _ _, by simp, by simp⟩⟩
  refine (take_any _ 2 w hz (by omega)).mono ?_
  rintro e w' ⟨s, h1, h2, h3, h4⟩
  exact ⟨_, _, _, h1, h4⟩

set_option maxRecDepth 100000 in
theorem tells_fact (w : World) : Calls Try.prog 26 #[] w fun e w' => e = .returned (.bool true) ∧ Below w.heap.size w w' := by
  go_enter Try.func26, Try.ntmps26
  go_wp2_with fail
  refine (add_zero_box _).mono ?_
  rintro e w1 ⟨a, c, rfl, hs, b1⟩
  go_wp2_with fail
  refine (take_two a c _ (hs.below (bal w1 _))).mono ?_
  rintro e w2 ⟨a', n', c', rfl, b2⟩
  go_wp2
  go_ret
  have hb := bover b2 (by simp)
  exact ⟨rfl, (b1.trans (hb.mono b1.size)).alloc (Nat.le_trans b1.size hb.size) _⟩

/-- one list of a box turned, the others as they were -/
def Upd (p p' : Bx) (u : Int) (l : List Int) : Prop := ∀ j, 1 ≤ j → j ≤ 4 → (p'.get j).l = if j = u then l else (p.get j).l
theorem upd_set (p : Bx) (u : Int) (s : Sl) (hu : 1 ≤ u ∧ u ≤ 4) : Upd p (p.set u s) u s.l := by
  intro j h1 h2
  rw [Bx.get_set p u j s hu ⟨h1, h2⟩]
  split <;> rfl

theorem take_ts (p : Bx) (u : Int) (w : World) (hr : p.ok w) (hu : 1 ≤ u ∧ u ≤ 4) :
    Calls Try.prog 27 #[.agg #[p.s1.v, p.s2.v, p.s3.v, p.s4.v], .int .i64 u] w fun e w' => ∃ p' : Bx, e = .returned (.tuple #[.agg #[.slice p'.s1.a p'.s1.l.length p'.s1.c, .slice p'.s2.a p'.s2.l.length p'.s2.c, .slice p'.s3.a p'.s3.l.length p'.s3.c, .slice p'.s4.a p'.s4.l.length p'.s4.c], .int .i64 (takeN (p.get u).l)]) ∧ p'.ok w' ∧ Upd p p' u (p.get u).l.tail ∧ Below w.heap.size w w' := by
  refine (take_any p u w hr hu).mono ?_
  rintro e w' ⟨s, h1, h2, h3, h4⟩
  exact ⟨p.set u s, h1, (hr.below h4).set u h2, h3 ▸ upd_set p u s hu, h4⟩
theorem rtake_ts (q : Bx) (M : Nat) (u : Int) (w : World) (hr : q.ok w) (hM : w.heap[M]? = some (.cells q.cells 41 (0, 0))) (hu : 1 ≤ u ∧ u ≤ 4) :
    Calls Try.prog 28 #[.pointer (some ⟨M, 0, none⟩), .int .i64 u] w fun e w' => ∃ q' : Bx, e = .returned (.int .i64 (takeN (q.get u).l)) ∧ q'.ok w' ∧ Upd q q' u (q.get u).l.tail ∧ w'.heap[M]? = some (.cells q'.cells 41 (0, 0)) ∧ Keeps (· = M) w w' := by
  refine (rtake_any q M u w hr hM (apart_of hr hM) hu).mono ?_
  rintro e w' ⟨s, h1, h2, h3, h4, h5⟩
  exact ⟨q.set u s, h1, (hr.keeps h5 (by rintro m rfl _; exact ⟨q, _, hM⟩)).set u h2, h3 ▸ upd_set q u s hu, h4, h5⟩
theorem add_ts (p : Bx) (u v : Int) (w : World) (hr : p.ok w) (hu : 1 ≤ u ∧ u ≤ 4) :
    Calls Try.prog 31 #[.agg #[p.s1.v, p.s2.v, p.s3.v, p.s4.v], .agg #[.int .i64 u, .int .i64 v]] w fun e w' => ∃ p' : Bx, e = .returned (.agg #[.slice p'.s1.a p'.s1.l.length p'.s1.c, .slice p'.s2.a p'.s2.l.length p'.s2.c, .slice p'.s3.a p'.s3.l.length p'.s3.c, .slice p'.s4.a p'.s4.l.length p'.s4.c]) ∧ p'.ok w' ∧ Upd p p' u (addL (p.get u).l v) ∧ Below w.heap.size w w' := by
  refine (add_any p u v w hr hu).mono ?_
  rintro e w' ⟨s, h1, h2, h3, h4⟩
  exact ⟨p.set u s, h1, (hr.below h4).set u h2, h3 ▸ upd_set p u s hu, h4⟩
theorem radd_ts (q : Bx) (M : Nat) (u v : Int) (w : World) (hr : q.ok w) (hM : w.heap[M]? = some (.cells q.cells 41 (0, 0))) (hu : 1 ≤ u ∧ u ≤ 4) :
    Calls Try.prog 32 #[.pointer (some ⟨M, 0, none⟩), .agg #[.int .i64 u, .int .i64 v]] w fun e w' => ∃ q' : Bx, e = .returned (.tuple #[]) ∧ q'.ok w' ∧ Upd q q' u (addL (q.get u).l v) ∧ w'.heap[M]? = some (.cells q'.cells 41 (0, 0)) ∧ Keeps (· = M) w w' := by
  refine (radd_any q M u v w hr hM hu).mono ?_
  rintro e w' ⟨s, h1, h2, h3, h4, h5⟩
  exact ⟨q.set u s, h1, (hr.keeps h5 (by rintro m rfl _; exact ⟨q, _, hM⟩)).set u h2, h3 ▸ upd_set q u s hu, h4, h5⟩

theorem keepM (wr : World) (p : Bx) (bb o B : Nat) (u : Value) (hb : bb < wr.heap.size) (hB : B < wr.heap.size) (p0 : wr.cell? ⟨B, 0, none⟩ = some p.s1.v) (p1 : wr.cell? ⟨B, 1, none⟩ = some p.s2.v) (p2 : wr.cell? ⟨B, 2, none⟩ = some p.s3.v) (p3 : wr.cell? ⟨B, 3, none⟩ = some p.s4.v) (c : wr.cell? ⟨bb, o, none⟩ = some u) :
    ∀ w', Below (wr.alloc (.cells #[p.s1.v, p.s2.v, p.s3.v, p.s4.v] 39)).heap.size (wr.alloc (.cells #[p.s1.v, p.s2.v, p.s3.v, p.s4.v] 39)) w' → Below (wr.alloc (.cells #[p.s1.v, p.s2.v, p.s3.v, p.s4.v] 39)).heap.size (wr.alloc (.cells #[p.s1.v, p.s2.v, p.s3.v, p.s4.v] 39)) w' ∧ w'.cell? ⟨B, 0, none⟩ = some p.s1.v ∧ w'.cell? ⟨B, 1, none⟩ = some p.s2.v ∧ w'.cell? ⟨B, 2, none⟩ = some p.s3.v ∧ w'.cell? ⟨B, 3, none⟩ = some p.s4.v ∧ w'.cell? ⟨bb, o, none⟩ = some u := by
  intro w' h
  have hw : Below wr.heap.size wr w' := (bal wr _).trans (h.mono (bal wr _).size)
  exact ⟨h, (hw.cell (p := ⟨B, 0, none⟩) hB).trans p0, (hw.cell (p := ⟨B, 1, none⟩) hB).trans p1, (hw.cell (p := ⟨B, 2, none⟩) hB).trans p2, (hw.cell (p := ⟨B, 3, none⟩) hB).trans p3, (hw.cell (p := ⟨bb, o, none⟩) hb).trans c⟩

theorem ts_one {wr w2 : World} {p p' : Bx} (hB : Below (wr.alloc (.cells #[p.s1.v, p.s2.v, p.s3.v, p.s4.v] 39)).heap.size (wr.alloc (.cells #[p.s1.v, p.s2.v, p.s3.v, p.s4.v] 39)) w2) (hp : p'.ok w2) :
    Below (wr.alloc (.cells #[p.s1.v, p.s2.v, p.s3.v, p.s4.v] 39)).heap.size (wr.alloc (.cells #[p.s1.v, p.s2.v, p.s3.v, p.s4.v] 39)) (w2.alloc (.cells #[.slice p'.s1.a p'.s1.l.length p'.s1.c, .slice p'.s2.a p'.s2.l.length p'.s2.c, .slice p'.s3.a p'.s3.l.length p'.s3.c, .slice p'.s4.a p'.s4.l.length p'.s4.c] 39)) ∧ p'.ok (w2.alloc (.cells #[.slice p'.s1.a p'.s1.l.length p'.s1.c, .slice p'.s2.a p'.s2.l.length p'.s2.c, .slice p'.s3.a p'.s3.l.length p'.s3.c, .slice p'.s4.a p'.s4.l.length p'.s4.c] 39)) ∧ (w2.alloc (.cells #[.slice p'.s1.a p'.s1.l.length p'.s1.c, .slice p'.s2.a p'.s2.l.length p'.s2.c, .slice p'.s3.a p'.s3.l.length p'.s3.c, .slice p'.s4.a p'.s4.l.length p'.s4.c] 39)).heap[w2.heap.size]? = some (.cells #[.slice p'.s1.a p'.s1.l.length p'.s1.c, .slice p'.s2.a p'.s2.l.length p'.s2.c, .slice p'.s3.a p'.s3.l.length p'.s3.c, .slice p'.s4.a p'.s4.l.length p'.s4.c] 39 (0, 0)) ∧ wr.heap.size + 1 ≤ w2.heap.size :=
  ⟨hB.alloc hB.size _, hp.below (bal w2 _), heap_alloc_new _ _, by simpa using hB.size⟩
theorem ts_two {wr w2 w0 : World} {p p' : Bx} (hB : Below (wr.alloc (.cells #[p.s1.v, p.s2.v, p.s3.v, p.s4.v] 39)).heap.size (wr.alloc (.cells #[p.s1.v, p.s2.v, p.s3.v, p.s4.v] 39)) w2) (hb : Below w0.heap.size w0 w2) (hp : p'.ok w2) (h0 : w0.heap[wr.heap.size + 1]? = some (.cells #[.slice none 0 0, .slice none 0 0, .slice none 0 0, .slice none 0 0] 39)) :
    Below (wr.alloc (.cells #[p.s1.v, p.s2.v, p.s3.v, p.s4.v] 39)).heap.size (wr.alloc (.cells #[p.s1.v, p.s2.v, p.s3.v, p.s4.v] 39)) ((((w2.setCell ⟨wr.heap.size + 1, 0, none⟩ (.slice p'.s1.a p'.s1.l.length p'.s1.c)).setCell ⟨wr.heap.size + 1, 1, none⟩ (.slice p'.s2.a p'.s2.l.length p'.s2.c)).setCell ⟨wr.heap.size + 1, 2, none⟩ (.slice p'.s3.a p'.s3.l.length p'.s3.c)).setCell ⟨wr.heap.size + 1, 3, none⟩ (.slice p'.s4.a p'.s4.l.length p'.s4.c)) ∧ p'.ok ((((w2.setCell ⟨wr.heap.size + 1, 0, none⟩ (.slice p'.s1.a p'.s1.l.length p'.s1.c)).setCell ⟨wr.heap.size + 1, 1, none⟩ (.slice p'.s2.a p'.s2.l.length p'.s2.c)).setCell ⟨wr.heap.size + 1, 2, none⟩ (.slice p'.s3.a p'.s3.l.length p'.s3.c)).setCell ⟨wr.heap.size + 1, 3, none⟩ (.slice p'.s4.a p'.s4.l.length p'.s4.c)) ∧ ((((w2.setCell ⟨wr.heap.size + 1, 0, none⟩ (.slice p'.s1.a p'.s1.l.length p'.s1.c)).setCell ⟨wr.heap.size + 1, 1, none⟩ (.slice p'.s2.a p'.s2.l.length p'.s2.c)).setCell ⟨wr.heap.size + 1, 2, none⟩ (.slice p'.s3.a p'.s3.l.length p'.s3.c)).setCell ⟨wr.heap.size + 1, 3, none⟩ (.slice p'.s4.a p'.s4.l.length p'.s4.c)).heap[wr.heap.size + 1]? = some (.cells #[.slice p'.s1.a p'.s1.l.length p'.s1.c, .slice p'.s2.a p'.s2.l.length p'.s2.c, .slice p'.s3.a p'.s3.l.length p'.s3.c, .slice p'.s4.a p'.s4.l.length p'.s4.c] 39 (0, 0)) ∧ wr.heap.size + 1 ≤ wr.heap.size + 1 := by
  have hz : w2.heap[wr.heap.size + 1]? = some (.cells (⟨⟨none, [], 0⟩, ⟨none, [], 0⟩, ⟨none, [], 0⟩, ⟨none, [], 0⟩⟩ : Bx).cells 39 (0, 0)) := by
    rw [hb.block _ (Array.getElem?_eq_some_iff.1 h0).1]
    exact h0
  have kp : Keeps (· = wr.heap.size + 1) w2 ((((w2.setCell ⟨wr.heap.size + 1, 0, none⟩ (.slice p'.s1.a p'.s1.l.length p'.s1.c)).setCell ⟨wr.heap.size + 1, 1, none⟩ (.slice p'.s2.a p'.s2.l.length p'.s2.c)).setCell ⟨wr.heap.size + 1, 2, none⟩ (.slice p'.s3.a p'.s3.l.length p'.s3.c)).setCell ⟨wr.heap.size + 1, 3, none⟩ (.slice p'.s4.a p'.s4.l.length p'.s4.c)) := Keeps.setCell (S := (· = wr.heap.size + 1)) (Keeps.setCell (S := (· = wr.heap.size + 1)) (Keeps.setCell (S := (· = wr.heap.size + 1)) (Keeps.setCell (S := (· = wr.heap.size + 1)) (Keeps.refl _ _) rfl _) rfl _) rfl _) rfl _
  refine ⟨(((hB.setCell (by simp) _).setCell (by simp) _).setCell (by simp) _).setCell (by simp) _, hp.keeps kp (by rintro m rfl _; exact ⟨_, _, hz⟩), ?_, Nat.le_refl _⟩
  have := block_setCell (o := 3) (block_setCell (o := 2) (block_setCell (o := 1) (block_setCell (o := 0) hz (.slice p'.s1.a p'.s1.l.length p'.s1.c)) (.slice p'.s2.a p'.s2.l.length p'.s2.c)) (.slice p'.s3.a p'.s3.l.length p'.s3.c)) (.slice p'.s4.a p'.s4.l.length p'.s4.c)
  rw [set4 rfl] at this
  exact this

/-- what the loop keeps: the box p in the block of b, the document's box q in the block of m -/
structure TS (w1 : World) (p q : Bx) (wr : World) : Prop where
  pok : p.ok wr
  qok : q.ok wr
  hB : wr.heap[w1.heap.size]? = some (.cells p.cells 39 (0, 0))
  hM : wr.heap[w1.heap.size + 1]? = some (.cells q.cells 41 (0, 0))
  below : Below w1.heap.size w1 wr
  eq : ∀ j, 1 ≤ j → j ≤ 4 → (p.get j).l = (q.get j).l

/-- what the loop's head finds -/
def TSRel (w1 : World) (n : Nat) (i : Value) (wr : World) : Prop := ∃ (k : Nat) (p q : Bx), k ≤ n ∧ i = .int .i64 k ∧ TS w1 p q wr

theorem zero_ok (w : World) : Bx.ok ⟨⟨none, [], 0⟩, ⟨none, [], 0⟩, ⟨none, [], 0⟩, ⟨none, [], 0⟩⟩ w := ⟨⟨Ints.nil _ _ _, by simp, by simp⟩, ⟨Ints.nil _ _ _, by simp, by simp⟩, ⟨Ints.nil _ _ _, by simp, by simp⟩, ⟨Ints.nil _ _ _, by simp, by simp⟩⟩

/-- what the inner loop of a round finds -/
structure INN (w1 wr : World) (p p' q' : Bx) (u v : Int) (wz : World) : Prop where
  pok : p.ok wz
  pok' : p'.ok wz
  qok' : q'.ok wz
  hB : wz.heap[w1.heap.size]? = some (.cells p'.cells 39 (0, 0))
  hM : wz.heap[w1.heap.size + 1]? = some (.cells q'.cells 41 (0, 0))
  hP : wz.heap[wr.heap.size]? = some (.cells p.cells 39 (0, 0))
  below : Below w1.heap.size w1 wz
  eq : ∀ j, 1 ≤ j → j ≤ 4 → (p'.get j).l = (q'.get j).l
  keep : v < 4 → ∀ j, 1 ≤ j → j ≤ 4 → j ≠ u → (p'.get j).l = (p.get j).l

structure INF (w1 wr : World) (p p' q' : Bx) (wz : World) : Prop where
  pok : p.ok wz
  pok' : p'.ok wz
  qok' : q'.ok wz
  hB : wz.heap[w1.heap.size]? = some (.cells p'.cells 39 (0, 0))
  hM : wz.heap[w1.heap.size + 1]? = some (.cells q'.cells 41 (0, 0))
  hP : wz.heap[wr.heap.size]? = some (.cells p.cells 39 (0, 0))
  below : Below w1.heap.size w1 wz

theorem inf_store {w1 wr w4 : World} {p p' q' b : Bx} (pok : p.ok w4) (pok' : p'.ok w4) (qok' : q'.ok w4) (hB : w4.heap[w1.heap.size]? = some (.cells b.cells 39 (0, 0)))
    (hM : w4.heap[w1.heap.size + 1]? = some (.cells q'.cells 41 (0, 0))) (hP : w4.heap[wr.heap.size]? = some (.cells p.cells 39 (0, 0))) (hne : wr.heap.size ≠ w1.heap.size) (below : Below w1.heap.size w1 w4) : INF w1 wr p p' q' ((((w4.setCell ⟨w1.heap.size, 0, none⟩ (.slice p'.s1.a p'.s1.l.length p'.s1.c)).setCell ⟨w1.heap.size, 1, none⟩ (.slice p'.s2.a p'.s2.l.length p'.s2.c)).setCell ⟨w1.heap.size, 2, none⟩ (.slice p'.s3.a p'.s3.l.length p'.s3.c)).setCell ⟨w1.heap.size, 3, none⟩ (.slice p'.s4.a p'.s4.l.length p'.s4.c)) := by
  have kp : Keeps (· = w1.heap.size) w4 ((((w4.setCell ⟨w1.heap.size, 0, none⟩ (.slice p'.s1.a p'.s1.l.length p'.s1.c)).setCell ⟨w1.heap.size, 1, none⟩ (.slice p'.s2.a p'.s2.l.length p'.s2.c)).setCell ⟨w1.heap.size, 2, none⟩ (.slice p'.s3.a p'.s3.l.length p'.s3.c)).setCell ⟨w1.heap.size, 3, none⟩ (.slice p'.s4.a p'.s4.l.length p'.s4.c)) := Keeps.setCell (S := (· = w1.heap.size)) (Keeps.setCell (S := (· = w1.heap.size)) (Keeps.setCell (S := (· = w1.heap.size)) (Keeps.setCell (S := (· = w1.heap.size)) (Keeps.refl _ _) rfl _) rfl _) rfl _) rfl _
  have hS : ∀ m, m = w1.heap.size → m < w4.heap.size → ∃ (b : Bx) (T : TypeId), w4.heap[m]? = some (.cells b.cells T (0, 0)) := by rintro m rfl _; exact ⟨_, _, hB⟩
  refine ⟨pok.keeps kp hS, pok'.keeps kp hS, qok'.keeps kp hS, ?_, ?_, ?_, ?_⟩
  · have := block_setCell (o := 3) (block_setCell (o := 2) (block_setCell (o := 1) (block_setCell (o := 0) hB (.slice p'.s1.a p'.s1.l.length p'.s1.c)) (.slice p'.s2.a p'.s2.l.length p'.s2.c)) (.slice p'.s3.a p'.s3.l.length p'.s3.c)) (.slice p'.s4.a p'.s4.l.length p'.s4.c)
    rw [set4 rfl] at this
    exact this
  · exact (kp.block _ (by omega) (Array.getElem?_eq_some_iff.1 hM).1).trans hM
  · exact (kp.block _ hne (Array.getElem?_eq_some_iff.1 hP).1).trans hP
  · exact below.trans (kp.below below.size (fun k hk => by omega))

/-- a method on the document's box -/
theorem inf_M {w1 wr w3 w4 : World} {p p' q q' : Bx} (h : INF w1 wr p p' q w3) (k : Keeps (· = w1.heap.size + 1) w3 w4) (hq : q'.ok w4) (hM : w4.heap[w1.heap.size + 1]? = some (.cells q'.cells 41 (0, 0))) (hne : wr.heap.size ≠ w1.heap.size + 1) : INF w1 wr p p' q' w4 := by
  have hS : ∀ m, m = w1.heap.size + 1 → m < w3.heap.size → ∃ (b : Bx) (T : TypeId), w3.heap[m]? = some (.cells b.cells T (0, 0)) := by rintro m rfl _; exact ⟨_, _, h.hM⟩
  exact ⟨h.pok.keeps k hS, h.pok'.keeps k hS, hq, (k.block _ (by omega) (Array.getElem?_eq_some_iff.1 h.hB).1).trans h.hB, hM, (k.block _ hne (Array.getElem?_eq_some_iff.1 h.hP).1).trans h.hP, h.below.trans (k.below h.below.size (fun m hm => by omega))⟩

theorem inf_inn {w1 wr wz : World} {p p' q' : Bx} {u v : Int} (h : INF w1 wr p p' q' wz) (eq : ∀ j, 1 ≤ j → j ≤ 4 → (p'.get j).l = (q'.get j).l) (keep : v < 4 → ∀ j, 1 ≤ j → j ≤ 4 → j ≠ u → (p'.get j).l = (p.get j).l) : INN w1 wr p p' q' u v wz :=
  ⟨h.pok, h.pok', h.qok', h.hB, h.hM, h.hP, h.below, eq, keep⟩

/-- what holds ahead of the act, behind the copy of the box -/
theorem inf_start {w1 wr w2 : World} {p q : Bx} (ts : TS w1 p q wr) (hb : Below (wr.alloc (.cells #[p.s1.v, p.s2.v, p.s3.v, p.s4.v] 39)).heap.size (wr.alloc (.cells #[p.s1.v, p.s2.v, p.s3.v, p.s4.v] 39)) w2) : INF w1 wr p p q w2 := by
  have hz : w1.heap.size + 1 < wr.heap.size := (Array.getElem?_eq_some_iff.1 ts.hM).1
  have hbz : Below wr.heap.size wr w2 := (bal wr _).trans (hb.mono (bal wr _).size)
  exact ⟨ts.pok.below hbz, ts.pok.below hbz, ts.qok.below hbz, (hbz.block _ (by omega)).trans ts.hB, (hbz.block _ hz).trans ts.hM, (hb.block _ (by simp)).trans (at_end _ _ rfl), ts.below.trans (hbz.mono (by omega))⟩

theorem Bx.cells_get (b : Bx) (k : Nat) (hk : k < 4) : b.cells[k]? = some (b.get ((k : Int) + 1)).v := by
  match k, hk with
  | 0, _ => rfl
  | 1, _ => rfl
  | 2, _ => rfl
  | 3, _ => rfl
theorem Bx.ok.get {b : Bx} {w : World} (h : b.ok w) (j : Int) : (b.get j).ok w := by
  unfold Bx.get
  split
  · exact h.o1
  split
  · exact h.o2
  split
  · exact h.o3
  · exact h.o4

theorem sn_quiet (s s' : Sl) (w : World) (n : Nat) (hs : s.ok w) (hs' : s'.ok w) (h : s.l = s'.l) :
    Calls Try.prog 33 #[.slice s.a s.l.length s.c, .slice s'.a s'.l.length s'.c] (w.drewN n) fun e w' => e = .returned (.bool true) ∧ ∃ m, w' = w.drewN m :=
  Calls.quiet_of ((samenumbers_quiet s.l s'.l s.a s'.a s.c s'.c (w.drewN n) (Nat.le_trans hs.len (by unfold maxLen; omega)) (Nat.le_trans hs'.len (by unfold maxLen; omega)) hs.ints hs'.ints).mono fun e w' ⟨h1, h2⟩ => ⟨by rw [h1]; simp [h], h2⟩)

/-- a drawn region whose head only reads: the world behind the draw under a name -/
theorem region_tail {P : Program} {id : Nat} {Q : Exit → Act → World → Prop} {a : Act} {w : World} {l : List Oper} (n : Nat) (hm : P.follows .mixedOrders = true) (hB : Region.lexTailB .any l.toArray n = true)
    (h : ∀ wd, Below w.heap.size w wd → wd.heap = w.heap → wpStill P l.toArray wd (fun a' => wpList P l.toArray Q (l.drop n) a' wd) (l.take n) a) : (Code.region id l.toArray true).wp P Q a w :=
  wp_region_still_tail n hm hB (h w.drew (Below.refl _ _).drew rfl)

theorem power_ts (w : World) : Calls Try.prog 29 #[] w fun e w' => ∃ p' : Bx, e = .returned (.agg #[.slice p'.s1.a p'.s1.l.length p'.s1.c, .slice p'.s2.a p'.s2.l.length p'.s2.c, .slice p'.s3.a p'.s3.l.length p'.s3.c, .slice p'.s4.a p'.s4.l.length p'.s4.c]) ∧ p'.ok w' ∧ (∀ j, 1 ≤ j → j ≤ 4 → (p'.get j).l = [4]) ∧ Below w.heap.size w w' := by
  refine (power_any w).mono ?_
  rintro e w' ⟨b, h1, h2, ⟨l1, l2, l3, l4⟩, h3⟩
  refine ⟨b, h1, h2, fun j a1 a2 => ?_, h3⟩
  have : j = 1 ∨ j = 2 ∨ j = 3 ∨ j = 4 := by omega
  rcases this with rfl | rfl | rfl | rfl <;> assumption
theorem rpower_ts (M : Nat) (cs : Array Value) (w : World) (hM : w.heap[M]? = some (.cells cs 41 (0, 0))) (hs : cs.size = 4) :
    Calls Try.prog 30 #[.pointer (some ⟨M, 0, none⟩)] w fun e w' => ∃ q' : Bx, e = .returned (.tuple #[]) ∧ q'.ok w' ∧ (∀ j, 1 ≤ j → j ≤ 4 → (q'.get j).l = [4]) ∧ w'.heap[M]? = some (.cells q'.cells 41 (0, 0)) ∧ Keeps (· = M) w w' := by
  refine (rpower_any M cs w hM hs).mono ?_
  rintro e w' ⟨b, h1, h2, ⟨l1, l2, l3, l4⟩, _, h4, h5⟩
  refine ⟨b, h1, h2, fun j a1 a2 => ?_, h4, h5⟩
  have : j = 1 ∨ j = 2 ∨ j = 3 ∨ j = 4 := by omega
  rcases this with rfl | rfl | rfl | rfl <;> assumption

theorem inn_ts {w1 wr p p' q' u v wz w'} (h : INN w1 wr p p' q' u v wz) (hb : Below wz.heap.size wz w') : TS w1 p' q' w' :=
  ⟨h.pok'.below hb, h.qok'.below hb, (hb.block _ (Array.getElem?_eq_some_iff.1 h.hB).1).trans h.hB, (hb.block _ (Array.getElem?_eq_some_iff.1 h.hM).1).trans h.hM, h.below.trans (hb.mono (by have := h.below.size; omega)), h.eq⟩

set_option maxRecDepth 100000 in
set_option maxHeartbeats 4000000 in
theorem tellsays_walk (l : List (Int × Int)) (a : Option Addr) (cap : Nat) (w : World) (hl : l.length ≤ maxLen) (hr : Pairs w.heap.size w a l) :
    Calls Try.prog 4 #[.slice a l.length cap] w fun e w' => e = .returned (.bool true) ∧ Below w.heap.size w w' := by
  unfold maxLen at hl
  go_enter Try.func4, Try.ntmps4
  go_wp2_with fail
  refine (tells_fact _).mono ?_
  rintro e w1 ⟨rfl, b1⟩
  by_cases h60 : 60 < l.length
  · go_wp2
    go_ret
    exact ⟨rfl, b1⟩
  go_wp2
  go_loopw [6] (fun i wr => TSRel w1 l.length i wr) (fun i _ => l.length - (intOf i).toNat)
  case atStart =>
    exact ⟨0, ⟨⟨none, [], 0⟩, ⟨none, [], 0⟩, ⟨none, [], 0⟩, ⟨none, [], 0⟩⟩, ⟨⟨none, [], 0⟩, ⟨none, [], 0⟩, ⟨none, [], 0⟩, ⟨none, [], 0⟩⟩, by omega, rfl, ⟨zero_ok _, zero_ok _, at_old _ (at_end _ _ rfl), at_end _ _ (by simp), bal2 _ _ _, fun j _ _ => rfl⟩⟩
  case round =>
    obtain ⟨k, p, q, hk, rfl, ts⟩ := hrel
    have B0 : Below w.heap.size w wr := b1.trans (ts.below.mono b1.size)
    have hz : w1.heap.size + 1 < wr.heap.size := (Array.getElem?_eq_some_iff.1 ts.hM).1
    have hz1 := b1.size
    have TSH := Lib.hid ts
    by_cases hlt : k < l.length
    · obtain ⟨bb, oo, rfl, hbs, h1, h2⟩ := hr k hlt
      have c1 := (B0.cell (p := ⟨bb, oo + k * 2, none⟩) hbs).trans h1
      have c2 := (B0.cell (p := ⟨bb, oo + k * 2 + 1, none⟩) hbs).trans h2
      clear hr h1 h2
      obtain ⟨u, hu⟩ : ∃ u, l[k].1 = u := ⟨_, rfl⟩
      obtain ⟨v, hv⟩ : ∃ v, l[k].2 = v := ⟨_, rfl⟩
      rw [hu] at c1
      rw [hv] at c2
      clear hu hv
      have hbw : bb < wr.heap.size := by omega
      have hbw1 : bb < w1.heap.size := by omega
      have G1 := Lib.hid ((TSH.out.below.cell (p := ⟨bb, oo + k * 2, none⟩) (by show bb < _; omega)).symm.trans c1)
      have G2 := Lib.hid ((TSH.out.below.cell (p := ⟨bb, oo + k * 2 + 1, none⟩) (by show bb < _; omega)).symm.trans c2)
      have hbb : bb ≠ w1.heap.size := by omega
      have hbb1 : bb ≠ w1.heap.size + 1 := by omega
      by_cases d1 : u < 1
      · go_wp2
        go_ret
        exact ⟨rfl, B0⟩
      by_cases d2 : 4 < u
      · go_wp2
        go_ret
        exact ⟨rfl, B0⟩
      by_cases d3 : v < 0
      · go_wp2
        go_ret
        exact ⟨rfl, B0⟩
      by_cases d4 : 4 < v
      · go_wp2
        go_ret
        exact ⟨rfl, B0⟩
      obtain ⟨⟨p0, p1, p2, p3⟩, f0, f1, f2, f3⟩ := box4 (Below.refl (w1.heap.size + 1) wr) (by omega) ts.hB
      have t1 : w1.heap.size < wr.heap.size := by omega
      rcases (by omega : v = 0 ∨ v = 4 ∨ (v ≠ 0 ∧ v ≠ 4)) with rfl | rfl | ⟨hv0, hv4⟩
      · have KEEP := Lib.hid (keepM wr p bb (oo + k * 2) w1.heap.size _ hbw t1 p0 p1 p2 p3 c1)
        have TAKE := Lib.hid (fun (w' : World) (hb : Below (wr.alloc (.cells #[p.s1.v, p.s2.v, p.s3.v, p.s4.v] 39)).heap.size (wr.alloc (.cells #[p.s1.v, p.s2.v, p.s3.v, p.s4.v] 39)) w') => take_ts p u w' ((ts.pok.below (bal wr _)).below hb) (by omega))
        clear ts
        go_wp2_with fail
        go_region_held3 (fun w' => Below (wr.alloc (.cells #[p.s1.v, p.s2.v, p.s3.v, p.s4.v] 39)).heap.size (wr.alloc (.cells #[p.s1.v, p.s2.v, p.s3.v, p.s4.v] 39)) w' ∧ w'.cell? ⟨w1.heap.size, 0, none⟩ = some p.s1.v ∧ w'.cell? ⟨w1.heap.size, 1, none⟩ = some p.s2.v ∧ w'.cell? ⟨w1.heap.size, 2, none⟩ = some p.s3.v ∧ w'.cell? ⟨w1.heap.size, 3, none⟩ = some p.s4.v ∧ w'.cell? ⟨bb, oo + k * 2, none⟩ = some (.int .i64 u))
          ((refine KEEP.out _ ?_; repeat (first | with_reducible exact Below.refl _ _ | with_reducible exact And.left (by with_reducible assumption) | with_reducible exact hB2 | with_reducible refine Below.drew ?_ | (with_reducible refine Below.setCell ?_ (by simp) _) | (with_reducible refine Below.alloc ?_ hB2.size _) | (with_reducible refine Below.alloc ?_ (by simp) _))))
          (first | (go_at_call 27; refine (TAKE.out _ (And.left (by assumption))).mono ?_; rintro e w2 ⟨p', rfl, hp', hup, hb2⟩; have hB2 : Below (wr.alloc (.cells #[p.s1.v, p.s2.v, p.s3.v, p.s4.v] 39)).heap.size (wr.alloc (.cells #[p.s1.v, p.s2.v, p.s3.v, p.s4.v] 39)) w2 := Below.trans (And.left (by assumption)) (hb2.mono (Below.size (And.left (by assumption)))); obtain ⟨hc, hf⟩ := bcell hb2))
        focus
          obtain ⟨F1, F2, F3, hX⟩ := ts_one hB2 hp'
          have hX2 : w2.heap.size ≠ w1.heap.size := by omega
          clear hc hf hb2 hp' hB2
          generalize hw3 : w2.alloc (.cells #[.slice p'.s1.a p'.s1.l.length p'.s1.c, .slice p'.s2.a p'.s2.l.length p'.s2.c, .slice p'.s3.a p'.s3.l.length p'.s3.c, .slice p'.s4.a p'.s4.l.length p'.s4.c] 39) = w3 at F1 F2 F3 ⊢
          generalize w2.heap.size = X at F3 hX ⊢
        rotate_left 1
        focus
          obtain ⟨F1, F2, F3, hX⟩ := ts_two hB2 hb2 hp' (at_end _ _ (by simp))
          have hX2 : wr.heap.size + 1 ≠ w1.heap.size := by omega
          clear hc hf hb2 hp' hB2
          generalize hw3 : ((((w2.setCell ⟨wr.heap.size + 1, 0, none⟩ (.slice p'.s1.a p'.s1.l.length p'.s1.c)).setCell ⟨wr.heap.size + 1, 1, none⟩ (.slice p'.s2.a p'.s2.l.length p'.s2.c)).setCell ⟨wr.heap.size + 1, 2, none⟩ (.slice p'.s3.a p'.s3.l.length p'.s3.c)).setCell ⟨wr.heap.size + 1, 3, none⟩ (.slice p'.s4.a p'.s4.l.length p'.s4.c)) = w3 at F1 F2 F3 ⊢
          generalize hXX : wr.heap.size + 1 = X at F3 ⊢
        all_goals
          have hXB : X ≠ w1.heap.size := by omega
          have hXM : X ≠ w1.heap.size + 1 := by omega
          have qok3 : q.ok w3 := (TSH.out.qok.below (bal wr _)).below F1
          have hM3 : w3.heap[w1.heap.size + 1]? = some (.cells q.cells 41 (0, 0)) := (F1.block _ (by simp; omega)).trans (at_old _ TSH.out.hM)
          have hB3 : w3.heap[w1.heap.size]? = some (.cells p.cells 39 (0, 0)) := (F1.block _ (by simp; omega)).trans (at_old _ TSH.out.hB)
          have hP3 : w3.heap[wr.heap.size]? = some (.cells p.cells 39 (0, 0)) := (F1.block _ (by simp)).trans (at_end _ _ rfl)
          have c13 : w3.cell? ⟨bb, oo + k * 2, none⟩ = some (.int .i64 u) := (F1.cell (p := ⟨bb, oo + k * 2, none⟩) (by simp; omega)).trans (((bal wr _).cell (p := ⟨bb, oo + k * 2, none⟩) hbw).trans c1)
          have RT := rtake_ts q _ u w3 qok3 hM3 (by omega)
          rw [← TSH.out.eq u (by omega) (by omega)] at RT
          have RTH := Lib.hid RT
          have HF1 := Lib.hid F1
          have HB3 := Lib.hid hB3
          have HP3 := Lib.hid hP3
          have HF3 := Lib.hid F3
          have hM3' := Lib.hid hM3
          have HPO := Lib.hid F2
          clear RT qok3 hM3 F1 F2 hB3 hP3 F3
          go_wp2_with fail
          refine RTH.out.mono ?_
          rintro e w4 ⟨q', rfl, hq', hupq, hM4, kp4⟩
          have hB4 : w4.heap[w1.heap.size]? = some (.cells p.cells 39 (0, 0)) := (kp4.block _ (by omega) (Array.getElem?_eq_some_iff.1 HB3.out).1).trans HB3.out
          have hX4 := (kp4.block X hXM (Array.getElem?_eq_some_iff.1 HF3.out).1).trans HF3.out
          obtain ⟨⟨n0, n1, n2, n3⟩, m0, m1, m2, m3⟩ := box4 (Below.refl (X + 1) w4) (by omega) hX4
          obtain ⟨⟨r0, r1, r2, r3⟩, s0, s1, s2, s3⟩ := box4 (Below.refl (w1.heap.size + 1) w4) (by omega) hB4
          have HB4 := Lib.hid hB4
          have HX4 := Lib.hid hX4
          have HM4 := Lib.hid hM4
          clear hB4 hX4 hM4
          have IN : INN w1 wr p p' q' u 0 ((((w4.setCell ⟨w1.heap.size, 0, none⟩ (.slice p'.s1.a p'.s1.l.length p'.s1.c)).setCell ⟨w1.heap.size, 1, none⟩ (.slice p'.s2.a p'.s2.l.length p'.s2.c)).setCell ⟨w1.heap.size, 2, none⟩ (.slice p'.s3.a p'.s3.l.length p'.s3.c)).setCell ⟨w1.heap.size, 3, none⟩ (.slice p'.s4.a p'.s4.l.length p'.s4.c)) := by
            have hbz : Below wr.heap.size wr w3 := (bal wr _).trans (HF1.out.mono (bal wr _).size)
            have hS : ∀ m, m = w1.heap.size + 1 → m < w3.heap.size → ∃ (b : Bx) (T : TypeId), w3.heap[m]? = some (.cells b.cells T (0, 0)) := by rintro m rfl _; exact ⟨q, _, hM3'.out⟩
            refine inf_inn (inf_store (b := p) ((TSH.out.pok.below hbz).keeps kp4 hS) (HPO.out.keeps kp4 hS) hq' HB4.out HM4.out ((kp4.block _ (by omega) (Array.getElem?_eq_some_iff.1 HP3.out).1).trans HP3.out) (by omega) ((TSH.out.below.trans (hbz.mono (by omega))).trans (kp4.below (by have := hbz.size; omega) (fun m hm => by omega)))) ?_ ?_
            · intro j h1 h2
              rw [hup j h1 h2, hupq j h1 h2]
              split
              · rw [TSH.out.eq u (by omega) (by omega)]
              · exact TSH.out.eq j h1 h2
            · intro _ j h1 h2 hju
              rw [hup j h1 h2, if_neg hju]
          have HIN := Lib.hid IN
          clear IN
          go_wp2
          have IN := HIN.out
          clear HIN
          revert IN
          generalize ((((w4.setCell ⟨w1.heap.size, 0, none⟩ (.slice p'.s1.a p'.s1.l.length p'.s1.c)).setCell ⟨w1.heap.size, 1, none⟩ (.slice p'.s2.a p'.s2.l.length p'.s2.c)).setCell ⟨w1.heap.size, 2, none⟩ (.slice p'.s3.a p'.s3.l.length p'.s3.c)).setCell ⟨w1.heap.size, 3, none⟩ (.slice p'.s4.a p'.s4.l.length p'.s4.c)) = wz
          intro IN
          clear HB4 HX4 HM4 n0 n1 n2 n3 m0 m1 m2 m3 r0 r1 r2 r3 s0 s1 s2 s3 kp4 RTH HF1 HB3 HP3 HF3
          obtain ⟨wo, rfl⟩ : ∃ wo : World, wo = wr := ⟨_, rfl⟩
          have hwz1 : w1.heap.size + 1 < wz.heap.size := (Array.getElem?_eq_some_iff.1 IN.hM).1
          have hwz2 : wo.heap.size < wz.heap.size := (Array.getElem?_eq_some_iff.1 IN.hP).1
          have hwz3 : w1.heap.size < wz.heap.size := by omega
          have hwz4 : bb < wz.heap.size := by omega
          have g1 := (IN.below.cell (p := ⟨bb, oo + k * 2, none⟩) (by show bb < _; omega)).trans G1.out
          have g2 := (IN.below.cell (p := ⟨bb, oo + k * 2 + 1, none⟩) (by show bb < _; omega)).trans G2.out
          have IH := Lib.hid IN
          have G3 := Lib.hid g1
          have G4 := Lib.hid g2
          clear IN g1 g2
          have q5 : IntKind.i64.wrap (u - 1) = u - 1 := by rw [IntWalk.i64_in _ (by omega)]
          go_loopw [10] (fun i wy => ∃ j : Nat, j ≤ 4 ∧ i = .int .i64 j ∧ Below wz.heap.size wz wy) (fun i _ => 4 - (intOf i).toNat)
          case atStart => exact ⟨0, by omega, rfl, Below.refl _ _⟩
          case round =>
            obtain ⟨j, hj, rfl, hby⟩ := hrel
            by_cases hj4 : j < 4
            · have hj1 : (1 : Int) ≤ (j : Int) + 1 := by omega
              have hj2 : (j : Int) + 1 ≤ 4 := by omega
              have k0 := (hby.cell (p := ⟨w1.heap.size, j, none⟩) hwz3).trans (cells_at IH.out.hB (Bx.cells_get p' j hj4)).1
              have k1 := (hby.cell (p := ⟨w1.heap.size + 1, j, none⟩) hwz1).trans (cells_at IH.out.hM (Bx.cells_get q' j hj4)).1
              have k2 := (hby.cell (p := ⟨wo.heap.size, j, none⟩) hwz2).trans (cells_at IH.out.hP (Bx.cells_get p j hj4)).1
              have k3 := (hby.cell (p := ⟨bb, oo + k * 2, none⟩) hwz4).trans G3.out
              have k4 := (hby.cell (p := ⟨bb, oo + k * 2 + 1, none⟩) hwz4).trans G4.out
              have SN1 := Lib.hid (fun n => sn_quiet _ _ wr n ((IH.out.pok'.below hby).get (j + 1)) ((IH.out.qok'.below hby).get (j + 1)) (IH.out.eq (j + 1) hj1 hj2))
              have SN2 := Lib.hid (fun (hv : (0 : Int) < 4) (hju : ((j : Int) + 1) ≠ u) n => sn_quiet _ _ wr n ((IH.out.pok'.below hby).get (j + 1)) ((IH.out.pok.below hby).get (j + 1)) (IH.out.keep hv (j + 1) hj1 hj2 hju))
              rcases (by omega : (j : Int) = u - 1 ∨ (j : Int) ≠ u - 1) with hju | hju
              · have hb : ((j : Int) != u - 1) = false := by simp [hju]
                clear hju
                go_wp2
                go_quiet ((first | (go_at_call 33; with_reducible exact SN1.out _)))
                go_wp2
                go_roundw
                case rel => exact ⟨j + 1, by omega, by go_num, below_drewN hby _⟩
                case measure => simp [intOf]; omega
              · have hb : ((j : Int) != u - 1) = true := by simp [hju]
                go_wp2
                go_quiet ((first | (go_at_call 33; with_reducible exact SN1.out _) | (go_at_call 33; with_reducible exact SN2.out (by omega) (by omega) _)))
                go_wp2
                go_roundw
                case rel => exact ⟨j + 1, by omega, by go_num, below_drewN hby _⟩
                case measure => simp [intOf]; omega
            · go_wp2
              go_roundw
              case rel => exact ⟨k + 1, p', q', by omega, by go_num, inn_ts IH.out hby⟩
              case measure => simp [intOf]; omega
      · have TSW := Lib.hid (fun (w' : World) (hb : Below (wr.alloc (.cells #[p.s1.v, p.s2.v, p.s3.v, p.s4.v] 39)).heap.size (wr.alloc (.cells #[p.s1.v, p.s2.v, p.s3.v, p.s4.v] 39)) w') => inf_start ts hb)
        clear ts
        go_wp2_with fail
        refine (power_ts _).mono ?_
        rintro e w2 ⟨p', rfl, hp', hpl, hb2⟩
        have inf2 := TSW.out w2 hb2
        obtain ⟨⟨r0, r1, r2, r3⟩, s0, s1, s2, s3⟩ := box4 (Below.refl (w1.heap.size + 1) w2) (by omega) inf2.hB
        have INF2 := Lib.hid inf2
        clear inf2 p0 p1 p2 p3 f0 f1 f2 f3
        have RP := Lib.hid (rpower_ts _ q.cells ((((w2.setCell ⟨w1.heap.size, 0, none⟩ (.slice p'.s1.a p'.s1.l.length p'.s1.c)).setCell ⟨w1.heap.size, 1, none⟩ (.slice p'.s2.a p'.s2.l.length p'.s2.c)).setCell ⟨w1.heap.size, 2, none⟩ (.slice p'.s3.a p'.s3.l.length p'.s3.c)).setCell ⟨w1.heap.size, 3, none⟩ (.slice p'.s4.a p'.s4.l.length p'.s4.c)) (inf_store INF2.out.pok hp' INF2.out.qok' INF2.out.hB INF2.out.hM INF2.out.hP (by omega) INF2.out.below).hM rfl)
        go_wp2_with fail
        refine RP.out.mono ?_
        rintro e w4 ⟨q', rfl, hq', hql, hM4, kp4⟩
        have IN : INN w1 wr p p' q' u 4 w4 := by
          refine inf_inn (inf_M (inf_store INF2.out.pok hp' INF2.out.qok' INF2.out.hB INF2.out.hM INF2.out.hP (by omega) INF2.out.below) kp4 hq' hM4 (by omega)) ?_ (fun h => absurd h (by omega))
          intro j h1 h2
          rw [hpl j h1 h2, hql j h1 h2]
        have HIN := Lib.hid IN
        clear IN kp4 hM4 RP
        go_wp2
        have IN := HIN.out
        clear HIN r0 r1 r2 r3 s0 s1 s2 s3
        generalize w4 = wz at IN ⊢
        obtain ⟨wo, rfl⟩ : ∃ wo : World, wo = wr := ⟨_, rfl⟩
        have hwz1 : w1.heap.size + 1 < wz.heap.size := (Array.getElem?_eq_some_iff.1 IN.hM).1
        have hwz2 : wo.heap.size < wz.heap.size := (Array.getElem?_eq_some_iff.1 IN.hP).1
        have hwz3 : w1.heap.size < wz.heap.size := by omega
        have hwz4 : bb < wz.heap.size := by omega
        have g1 := (IN.below.cell (p := ⟨bb, oo + k * 2, none⟩) (by show bb < _; omega)).trans G1.out
        have g2 := (IN.below.cell (p := ⟨bb, oo + k * 2 + 1, none⟩) (by show bb < _; omega)).trans G2.out
        have IH := Lib.hid IN
        have G3 := Lib.hid g1
        have G4 := Lib.hid g2
        clear IN g1 g2
        have q5 : IntKind.i64.wrap (u - 1) = u - 1 := by rw [IntWalk.i64_in _ (by omega)]
        go_loopw [10] (fun i wy => ∃ j : Nat, j ≤ 4 ∧ i = .int .i64 j ∧ Below wz.heap.size wz wy) (fun i _ => 4 - (intOf i).toNat)
        case atStart => exact ⟨0, by omega, rfl, Below.refl _ _⟩
        case round =>
          obtain ⟨j, hj, rfl, hby⟩ := hrel
          by_cases hj4 : j < 4
          · have hj1 : (1 : Int) ≤ (j : Int) + 1 := by omega
            have hj2 : (j : Int) + 1 ≤ 4 := by omega
            have k0 := (hby.cell (p := ⟨w1.heap.size, j, none⟩) hwz3).trans (cells_at IH.out.hB (Bx.cells_get p' j hj4)).1
            have k1 := (hby.cell (p := ⟨w1.heap.size + 1, j, none⟩) hwz1).trans (cells_at IH.out.hM (Bx.cells_get q' j hj4)).1
            have k2 := (hby.cell (p := ⟨wo.heap.size, j, none⟩) hwz2).trans (cells_at IH.out.hP (Bx.cells_get p j hj4)).1
            have k3 := (hby.cell (p := ⟨bb, oo + k * 2, none⟩) hwz4).trans G3.out
            have k4 := (hby.cell (p := ⟨bb, oo + k * 2 + 1, none⟩) hwz4).trans G4.out
            have SN1 := Lib.hid (fun n => sn_quiet _ _ wr n ((IH.out.pok'.below hby).get (j + 1)) ((IH.out.qok'.below hby).get (j + 1)) (IH.out.eq (j + 1) hj1 hj2))
            have SN2 := Lib.hid (fun (hv : (4 : Int) < 4) (hju : ((j : Int) + 1) ≠ u) n => sn_quiet _ _ wr n ((IH.out.pok'.below hby).get (j + 1)) ((IH.out.pok.below hby).get (j + 1)) (IH.out.keep hv (j + 1) hj1 hj2 hju))
            rcases (by omega : (j : Int) = u - 1 ∨ (j : Int) ≠ u - 1) with hju | hju
            · have hb : ((j : Int) != u - 1) = false := by simp [hju]
              clear hju
              go_wp2
              go_quiet ((first | (go_at_call 33; with_reducible exact SN1.out _)))
              go_wp2
              go_roundw
              case rel => exact ⟨j + 1, by omega, by go_num, below_drewN hby _⟩
              case measure => simp [intOf]; omega
            · have hb : ((j : Int) != u - 1) = true := by simp [hju]
              go_wp2
              go_quiet ((first | (go_at_call 33; with_reducible exact SN1.out _)))
              go_wp2
              go_roundw
              case rel => exact ⟨j + 1, by omega, by go_num, below_drewN hby _⟩
              case measure => simp [intOf]; omega
          · go_wp2
            go_roundw
            case rel => exact ⟨k + 1, p', q', by omega, by go_num, inn_ts IH.out hby⟩
            case measure => simp [intOf]; omega
      · have TSW := Lib.hid (fun (w' : World) (hb : Below (wr.alloc (.cells #[p.s1.v, p.s2.v, p.s3.v, p.s4.v] 39)).heap.size (wr.alloc (.cells #[p.s1.v, p.s2.v, p.s3.v, p.s4.v] 39)) w') => inf_start ts hb)
        have ADD := Lib.hid (fun (w' : World) (hb : Below (wr.alloc (.cells #[p.s1.v, p.s2.v, p.s3.v, p.s4.v] 39)).heap.size (wr.alloc (.cells #[p.s1.v, p.s2.v, p.s3.v, p.s4.v] 39)) w') => add_ts p u v w' ((ts.pok.below (bal wr _)).below hb) (by omega))
        have EQ := Lib.hid ts.eq
        have hvb : (v == 0) = false := by simpa using hv0
        have hvb4 : (v == 4) = false := by simpa using hv4
        have hv3 : v < 4 := by omega
        have hv3b : decide (v < 4) = true := by simpa using hv3
        have t2 : w1.heap.size < (wr.alloc (.cells #[p.s1.v, p.s2.v, p.s3.v, p.s4.v] 39)).heap.size := by simp; omega
        have k0 := ((bal wr (.cells #[p.s1.v, p.s2.v, p.s3.v, p.s4.v] 39)).cell (p := ⟨w1.heap.size, 0, none⟩) t1).trans p0
        clear ts
        go_wp2
        refine region_tail 5 (by kernel_rfl) (by kernel_rfl) ?_
        intro wd hwd hwh
        have inf0 := TSW.out wd hwd
        obtain ⟨⟨n0, n1, n2, n3⟩, -⟩ := box4 (Below.refl (w1.heap.size + 1) wd) (by omega) inf0.hB
        have m1 := (inf0.below.cell (p := ⟨bb, oo + k * 2, none⟩) (by show bb < _; omega)).trans G1.out
        have m2 := (inf0.below.cell (p := ⟨bb, oo + k * 2 + 1, none⟩) (by show bb < _; omega)).trans G2.out
        have HWD := Lib.hid hwd
        clear inf0 hwd hwh p0 p1 p2 p3 f0 f1 f2 f3 k0
        simp only [List.take_succ_cons, List.take_zero, List.drop_succ_cons, List.drop_zero]
        repeat still_step
        refine wpStill_nil ?_
        go_wp2_with fail
        refine (ADD.out wd HWD.out).mono ?_
        rintro e w2 ⟨p', rfl, hp', hup, hb2⟩
        have inf2 := TSW.out w2 (HWD.out.trans (hb2.mono HWD.out.size))
        obtain ⟨⟨r0, r1, r2, r3⟩, s0, s1, s2, s3⟩ := box4 (Below.refl (w1.heap.size + 1) w2) (by omega) inf2.hB
        have x1 := (inf2.below.cell (p := ⟨bb, oo + k * 2, none⟩) (by show bb < _; omega)).trans G1.out
        have x2 := (inf2.below.cell (p := ⟨bb, oo + k * 2 + 1, none⟩) (by show bb < _; omega)).trans G2.out
        have INF2 := Lib.hid inf2
        clear inf2 n0 n1 n2 n3 m1 m2 c1 c2 hb2
        have RP := Lib.hid (radd_ts q _ u v ((((w2.setCell ⟨w1.heap.size, 0, none⟩ (.slice p'.s1.a p'.s1.l.length p'.s1.c)).setCell ⟨w1.heap.size, 1, none⟩ (.slice p'.s2.a p'.s2.l.length p'.s2.c)).setCell ⟨w1.heap.size, 2, none⟩ (.slice p'.s3.a p'.s3.l.length p'.s3.c)).setCell ⟨w1.heap.size, 3, none⟩ (.slice p'.s4.a p'.s4.l.length p'.s4.c)) (inf_store INF2.out.pok hp' INF2.out.qok' INF2.out.hB INF2.out.hM INF2.out.hP (by omega) INF2.out.below).qok' (inf_store INF2.out.pok hp' INF2.out.qok' INF2.out.hB INF2.out.hM INF2.out.hP (by omega) INF2.out.below).hM (by omega))
        go_wp2_with fail
        refine RP.out.mono ?_
        rintro e w4 ⟨q', rfl, hq', hupq, hM4, kp4⟩
        have IN : INN w1 wr p p' q' u v w4 := by
          refine inf_inn (inf_M (inf_store INF2.out.pok hp' INF2.out.qok' INF2.out.hB INF2.out.hM INF2.out.hP (by omega) INF2.out.below) kp4 hq' hM4 (by omega)) ?_ ?_
          · intro j h1 h2
            rw [hup j h1 h2, hupq j h1 h2]
            split
            · rw [EQ.out u (by omega) (by omega)]
            · exact EQ.out j h1 h2
          · intro _ j h1 h2 hju
            rw [hup j h1 h2, if_neg hju]
        have HIN := Lib.hid IN
        clear IN kp4 hM4 RP
        go_wp2
        have IN := HIN.out
        clear HIN r0 r1 r2 r3 s0 s1 s2 s3 x1 x2 TSW ADD
        generalize w4 = wz at IN ⊢
        obtain ⟨wo, rfl⟩ : ∃ wo : World, wo = wr := ⟨_, rfl⟩
        have hwz1 : w1.heap.size + 1 < wz.heap.size := (Array.getElem?_eq_some_iff.1 IN.hM).1
        have hwz2 : wo.heap.size < wz.heap.size := (Array.getElem?_eq_some_iff.1 IN.hP).1
        have hwz3 : w1.heap.size < wz.heap.size := by omega
        have hwz4 : bb < wz.heap.size := by omega
        have g1 := (IN.below.cell (p := ⟨bb, oo + k * 2, none⟩) (by show bb < _; omega)).trans G1.out
        have g2 := (IN.below.cell (p := ⟨bb, oo + k * 2 + 1, none⟩) (by show bb < _; omega)).trans G2.out
        have IH := Lib.hid IN
        have G3 := Lib.hid g1
        have G4 := Lib.hid g2
        clear IN g1 g2
        have q5 : IntKind.i64.wrap (u - 1) = u - 1 := by rw [IntWalk.i64_in _ (by omega)]
        go_loopw [10] (fun i wy => ∃ j : Nat, j ≤ 4 ∧ i = .int .i64 j ∧ Below wz.heap.size wz wy) (fun i _ => 4 - (intOf i).toNat)
        case atStart => exact ⟨0, by omega, rfl, Below.refl _ _⟩
        case round =>
          obtain ⟨j, hj, rfl, hby⟩ := hrel
          by_cases hj4 : j < 4
          · have hj1 : (1 : Int) ≤ (j : Int) + 1 := by omega
            have hj2 : (j : Int) + 1 ≤ 4 := by omega
            have k0 := (hby.cell (p := ⟨w1.heap.size, j, none⟩) hwz3).trans (cells_at IH.out.hB (Bx.cells_get p' j hj4)).1
            have k1 := (hby.cell (p := ⟨w1.heap.size + 1, j, none⟩) hwz1).trans (cells_at IH.out.hM (Bx.cells_get q' j hj4)).1
            have k2 := (hby.cell (p := ⟨wo.heap.size, j, none⟩) hwz2).trans (cells_at IH.out.hP (Bx.cells_get p j hj4)).1
            have k3 := (hby.cell (p := ⟨bb, oo + k * 2, none⟩) hwz4).trans G3.out
            have k4 := (hby.cell (p := ⟨bb, oo + k * 2 + 1, none⟩) hwz4).trans G4.out
            have SN1 := Lib.hid (fun n => sn_quiet _ _ wr n ((IH.out.pok'.below hby).get (j + 1)) ((IH.out.qok'.below hby).get (j + 1)) (IH.out.eq (j + 1) hj1 hj2))
            have SN2 := Lib.hid (fun (hv : v < 4) (hju : ((j : Int) + 1) ≠ u) n => sn_quiet _ _ wr n ((IH.out.pok'.below hby).get (j + 1)) ((IH.out.pok.below hby).get (j + 1)) (IH.out.keep hv (j + 1) hj1 hj2 hju))
            rcases (by omega : (j : Int) = u - 1 ∨ (j : Int) ≠ u - 1) with hju | hju
            · have hb : ((j : Int) != u - 1) = false := by simp [hju]
              clear hju
              go_wp2
              go_quiet ((first | (go_at_call 33; with_reducible exact SN1.out _)))
              go_wp2
              go_roundw
              case rel => exact ⟨j + 1, by omega, by go_num, below_drewN hby _⟩
              case measure => simp [intOf]; omega
            · have hb : ((j : Int) != u - 1) = true := by simp [hju]
              go_wp2
              go_quiet ((first | (go_at_call 33; with_reducible exact SN1.out _) | (go_at_call 33; with_reducible exact SN2.out (by omega) (by omega) _)))
              go_wp2
              go_roundw
              case rel => exact ⟨j + 1, by omega, by go_num, below_drewN hby _⟩
              case measure => simp [intOf]; omega
          · go_wp2
            go_roundw
            case rel => exact ⟨k + 1, p', q', by omega, by go_num, inn_ts IH.out hby⟩
            case measure => simp [intOf]; omega
    · go_wp2
      go_ret
      exact ⟨rfl, B0⟩
end Go.Proofs.Ytkiogccpbdpfaaa
