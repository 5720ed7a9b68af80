/-
  Contracts: tell.Take and the document's Take.
-/
import Derived.Test.YtclhmpknkinjcaaTellBox
import Derived.Test.YtclhmpknkinjcaaKeeps
import Derived.RegionTactic
import Derived.ChangeAlike
namespace Go.Proofs.Ytclhmpknkinjcaa
open Go.RowKit

/-- what is left in a box, and what is told -/
def takeN (l : List Int) : Int := l.headD 0

theorem clone_int_n (l : List Int) (a : Option Addr) (cap n : Nat) (w : World) (hn : n = l.length) (hl : l.length * 8 ≤ 140737488355328) (hr : Ints w.heap.size w a l) :
    Calls Try.prog 105 #[.slice a n cap] w fun e w' => ∃ s : Sl, e = .returned s.v ∧ s.l = l ∧ Ints w'.heap.size w' s.a s.l ∧ OwnI w.heap.size w' s.v l ∧ s.l.length ≤ s.c ∧ Below w.heap.size w w' := by
  subst hn
  refine (clone_int l a cap w hl hr).mono ?_
  rintro e w' ⟨v, rfl, hown, hb⟩
  obtain ⟨a', c', rfl, hi⟩ := hown.shape
  exact ⟨⟨a', l, c'⟩, rfl, rfl, hi, hown, hown.cap, hb⟩

theorem ints_tail {B : Nat} {w : World} {b o : Nat} {x : Int} {t : List Int} (h : Ints B w (some ⟨b, o, none⟩) (x :: t)) : Ints B w (some ⟨b, o + 1, none⟩) t := by
  intro i hi
  obtain ⟨b', o', e, hb, c1⟩ := h (i + 1) (by simp; omega)
  obtain ⟨rfl, rfl⟩ : b = b' ∧ o = o' := by simpa using e
  exact ⟨b, o + 1, rfl, hb, by rw [show o + 1 + i = o + (i + 1) from by omega, c1]; rfl⟩

theorem bal2 (w : World) (o p : Obj) : Below w.heap.size w ((w.alloc o).alloc p) := (bal w o).alloc (by simp) _

theorem box4 {W w1 : World} {n : Nat} (hb : Below n W w1) {b : Nat} (hbn : b < n) {v0 v1 v2 v3 : Value} {T : TypeId} (h : W.heap[b]? = some (.cells #[v0, v1, v2, v3] T (0, 0))) :
    (w1.cell? ⟨b, 0, none⟩ = some v0 ∧ w1.cell? ⟨b, 1, none⟩ = some v1 ∧ w1.cell? ⟨b, 2, none⟩ = some v2 ∧ w1.cell? ⟨b, 3, none⟩ = some v3) ∧
    (w1.frozen? ⟨b, 0, none⟩ = false ∧ w1.frozen? ⟨b, 1, none⟩ = false ∧ w1.frozen? ⟨b, 2, none⟩ = false ∧ w1.frozen? ⟨b, 3, none⟩ = false) := by
  have h1 : w1.heap[b]? = some (.cells #[v0, v1, v2, v3] T (0, 0)) := (hb.block b hbn).trans h
  simp [World.cell?, World.frozen?, h1]

theorem clone_own (l : List Int) (a : Option Addr) (cap n : Nat) (w : World) (hn : n = l.length) (hl : l.length * 8 ≤ 140737488355328) (hr : Ints w.heap.size w a l) :
    Calls Try.prog 105 #[.slice a n cap] w fun e w' => ∃ a' c', e = .returned (.slice a' n c') ∧ OwnI w.heap.size w' (.slice a' n c') l ∧ Below w.heap.size w w' := by
  subst hn
  refine (clone_int l a cap w hl hr).mono ?_
  rintro e w' ⟨v, rfl, hown, hb⟩
  obtain ⟨a', c', rfl, hi⟩ := hown.shape
  exact ⟨a', c', rfl, hown, hb⟩

def TakePost (b : Bx) (who : Int) (w : World) (e : Ending) (w' : World) : Prop :=
  ∃ s : Sl, e = .returned (.tuple #[.agg (b.set who s).cells, .int .i64 (takeN (b.get who).l)]) ∧ s.ok w' ∧ s.l = (b.get who).l.tail ∧ Below w.heap.size w w'

theorem TakePost.mk {b : Bx} {who : Int} {w : World} {e : Ending} {w' : World} {s : Sl} (h1 : e = .returned (.tuple #[.agg (b.set who s).cells, .int .i64 (takeN (b.get who).l)])) (h2 : s.ok w') (h3 : s.l = (b.get who).l.tail) (h4 : Below w.heap.size w w') : TakePost b who w e w' := ⟨s, h1, h2, h3, h4⟩

theorem take_end {b : Bx} {who : Int} {w W1 w1 w' : World} {a' : Option Addr} {l' t : List Int} {c' : Nat} {e : Ending} (hl : l' = t) (hown : OwnI W1.heap.size w1 (.slice a' l'.length c') t) (hcap : l'.length ≤ c') (hlen : t.length + 1 ≤ 5)
    (hb : Below W1.heap.size W1 w1) (hW : Below w.heap.size w W1 ∧ w.heap.size + 2 = W1.heap.size) (kp : Keeps (fun k => k = w.heap.size ∨ k = w.heap.size + 1) w1 w')
    (he : e = .returned (.tuple #[.agg (b.set who ⟨a', l', c'⟩).cells, .int .i64 (takeN (b.get who).l)])) (ht : t = (b.get who).l.tail) : TakePost b who w e w' := by
  subst hl
  have hk : ∀ k, (k = w.heap.size ∨ k = w.heap.size + 1) → k < W1.heap.size := fun k hk => by have := hW.2; omega
  have hz := hb.size
  have h0 := hW.2
  refine TakePost.mk (s := ⟨a', l', c'⟩) he ⟨(hown.keeps kp hk).ints, by show l'.length ≤ 5; omega, hcap⟩ ht ?_
  exact (hW.1.trans (hb.mono (by omega))).trans (kp.below (by omega) (fun k hk => by omega))

set_option maxRecDepth 100000 in
set_option maxHeartbeats 1000000 in
theorem take_any (b : Bx) (who : Int) (w : World) (hr : b.ok w) (hw : 1 ≤ who ∧ who ≤ 4) :
    Calls Try.prog 67 #[.agg b.cells, .int .i64 who] w (TakePost b who w) := by
  obtain ⟨⟨a1, l1, c1⟩, ⟨a2, l2, c2⟩, ⟨a3, l3, c3⟩, ⟨a4, l4, c4⟩⟩ := b
  have hok := hr
  obtain ⟨o1, o2, o3, o4⟩ := hr
  have h4 : who = 1 ∨ who = 2 ∨ who = 3 ∨ who = 4 := by omega
  dsimp only [Bx.cells, Sl.v]
  rcases h4 with rfl | rfl | rfl | rfl
  · cases l1 with
    | nil =>
      dsimp only [List.length_nil]
      go_enter Try.func67, Try.ntmps67
      go_wp2
      exact bodyPost_ret (v := .tuple #[.agg #[.slice a1 0 c1, .slice a2 l2.length c2, .slice a3 l3.length c3, .slice a4 l4.length c4], .int .i64 0]) (by simp [results, Try.results67, go_sem]) rfl ⟨⟨a1, [], c1⟩, rfl, o1.below (bal2 w _ _), rfl, bal2 w _ _⟩
    | cons x t =>
      obtain ⟨bb, oo, rfl, hbs, hc0⟩ := o1.ints 0 (by simp)
      have hlen : t.length + 1 ≤ 5 := o1.len
      have CAP := Lib.hid (show t.length + 1 ≤ c1 from o1.cap)
      have TL := Lib.hid (ints_tail o1.ints)
      clear o1 o2 o3 o4 hok hw
      dsimp only [List.length_cons]
      simp only [Nat.add_zero, List.getElem_cons_zero] at hc0
      go_enter Try.func67, Try.ntmps67
      go_wp2_with fail
      · obtain rfl : t = [] := List.length_eq_zero_iff.1 (by have := CAP.out; omega)
        refine (clone_int_n [] _ _ _ _ rfl (by simp) (Ints.nil _ _ _)).mono ?_
        rintro e w1 ⟨⟨a', l', c'⟩, rfl, hsl, hi, hown, hcap, hb⟩
        dsimp only at hsl hi hown hcap
        obtain ⟨⟨d0, d1, d2, d3⟩, f0, f1, f2, f3⟩ := box4 hb (b := w.heap.size) (by simp; omega) (heap_alloc2_old w _ _)
        obtain ⟨⟨x0, x1, x2, x3⟩, y0, y1, y2, y3⟩ := box4 hb (b := w.heap.size + 1) (by simp) (heap_alloc2_new w _ _)
        have b0 : Below w.heap.size w w1 := (bal2 w _ _).trans (hb.mono (by simp; omega))
        have cx := (b0.cell (p := ⟨bb, oo, none⟩) hbs).trans hc0
        go_wp2
        go_region
        all_goals
          go_wp2
          refine bodyPost_ret (v := .tuple #[.agg #[.slice a' l'.length c', .slice a2 l2.length c2, .slice a3 l3.length c3, .slice a4 l4.length c4], .int .i64 x]) (by simp [results, Try.results67, go_sem, *]) rfl ?_
          refine take_end hsl hown hcap hlen hb ⟨bal2 w _ _, by simp⟩ ?_ (by simp [Bx.set, Bx.get, takeN]) (by simp [Bx.get])
          repeat (first | with_reducible exact Keeps.refl _ _ | (with_reducible refine Keeps.drew ?_) | (with_reducible refine Keeps.setCell ?_ (.inl rfl) _) | (with_reducible refine Keeps.setCell ?_ (.inr rfl) _))
      · refine (clone_int_n t _ _ _ _ rfl (by omega) ((TL.out.below (bal2 _ _ _) (Nat.le_refl _)).mono (by simp; omega))).mono ?_
        rintro e w1 ⟨⟨a', l', c'⟩, rfl, hsl, hi, hown, hcap, hb⟩
        dsimp only at hsl hi hown hcap
        obtain ⟨⟨d0, d1, d2, d3⟩, f0, f1, f2, f3⟩ := box4 hb (b := w.heap.size) (by simp; omega) (heap_alloc2_old w _ _)
        obtain ⟨⟨x0, x1, x2, x3⟩, y0, y1, y2, y3⟩ := box4 hb (b := w.heap.size + 1) (by simp) (heap_alloc2_new w _ _)
        have b0 : Below w.heap.size w w1 := (bal2 w _ _).trans (hb.mono (by simp; omega))
        have cx := (b0.cell (p := ⟨bb, oo, none⟩) hbs).trans hc0
        go_wp2
        go_region
        all_goals
          go_wp2
          refine bodyPost_ret (v := .tuple #[.agg #[.slice a' l'.length c', .slice a2 l2.length c2, .slice a3 l3.length c3, .slice a4 l4.length c4], .int .i64 x]) (by simp [results, Try.results67, go_sem, *]) rfl ?_
          refine take_end hsl hown hcap hlen hb ⟨bal2 w _ _, by simp⟩ ?_ (by simp [Bx.set, Bx.get, takeN]) (by simp [Bx.get])
          repeat (first | with_reducible exact Keeps.refl _ _ | (with_reducible refine Keeps.drew ?_) | (with_reducible refine Keeps.setCell ?_ (.inl rfl) _) | (with_reducible refine Keeps.setCell ?_ (.inr rfl) _))
  · cases l2 with
    | nil =>
      dsimp only [List.length_nil]
      go_enter Try.func67, Try.ntmps67
      go_wp2
      exact bodyPost_ret (v := .tuple #[.agg #[.slice a1 l1.length c1, .slice a2 0 c2, .slice a3 l3.length c3, .slice a4 l4.length c4], .int .i64 0]) (by simp [results, Try.results67, go_sem]) rfl ⟨⟨a2, [], c2⟩, rfl, o2.below (bal2 w _ _), rfl, bal2 w _ _⟩
    | cons x t =>
      obtain ⟨bb, oo, rfl, hbs, hc0⟩ := o2.ints 0 (by simp)
      have hlen : t.length + 1 ≤ 5 := o2.len
      have CAP := Lib.hid (show t.length + 1 ≤ c2 from o2.cap)
      have TL := Lib.hid (ints_tail o2.ints)
      clear o1 o2 o3 o4 hok hw
      dsimp only [List.length_cons]
      simp only [Nat.add_zero, List.getElem_cons_zero] at hc0
      go_enter Try.func67, Try.ntmps67
      go_wp2_with fail
      · obtain rfl : t = [] := List.length_eq_zero_iff.1 (by have := CAP.out; omega)
        refine (clone_int_n [] _ _ _ _ rfl (by simp) (Ints.nil _ _ _)).mono ?_
        rintro e w1 ⟨⟨a', l', c'⟩, rfl, hsl, hi, hown, hcap, hb⟩
        dsimp only at hsl hi hown hcap
        obtain ⟨⟨d0, d1, d2, d3⟩, f0, f1, f2, f3⟩ := box4 hb (b := w.heap.size) (by simp; omega) (heap_alloc2_old w _ _)
        obtain ⟨⟨x0, x1, x2, x3⟩, y0, y1, y2, y3⟩ := box4 hb (b := w.heap.size + 1) (by simp) (heap_alloc2_new w _ _)
        have b0 : Below w.heap.size w w1 := (bal2 w _ _).trans (hb.mono (by simp; omega))
        have cx := (b0.cell (p := ⟨bb, oo, none⟩) hbs).trans hc0
        go_wp2
        go_region
        all_goals
          go_wp2
          refine bodyPost_ret (v := .tuple #[.agg #[.slice a1 l1.length c1, .slice a' l'.length c', .slice a3 l3.length c3, .slice a4 l4.length c4], .int .i64 x]) (by simp [results, Try.results67, go_sem, *]) rfl ?_
          refine take_end hsl hown hcap hlen hb ⟨bal2 w _ _, by simp⟩ ?_ (by simp [Bx.set, Bx.get, takeN]) (by simp [Bx.get])
          repeat (first | with_reducible exact Keeps.refl _ _ | (with_reducible refine Keeps.drew ?_) | (with_reducible refine Keeps.setCell ?_ (.inl rfl) _) | (with_reducible refine Keeps.setCell ?_ (.inr rfl) _))
      · refine (clone_int_n t _ _ _ _ rfl (by omega) ((TL.out.below (bal2 _ _ _) (Nat.le_refl _)).mono (by simp; omega))).mono ?_
        rintro e w1 ⟨⟨a', l', c'⟩, rfl, hsl, hi, hown, hcap, hb⟩
        dsimp only at hsl hi hown hcap
        obtain ⟨⟨d0, d1, d2, d3⟩, f0, f1, f2, f3⟩ := box4 hb (b := w.heap.size) (by simp; omega) (heap_alloc2_old w _ _)
        obtain ⟨⟨x0, x1, x2, x3⟩, y0, y1, y2, y3⟩ := box4 hb (b := w.heap.size + 1) (by simp) (heap_alloc2_new w _ _)
        have b0 : Below w.heap.size w w1 := (bal2 w _ _).trans (hb.mono (by simp; omega))
        have cx := (b0.cell (p := ⟨bb, oo, none⟩) hbs).trans hc0
        go_wp2
        go_region
        all_goals
          go_wp2
          refine bodyPost_ret (v := .tuple #[.agg #[.slice a1 l1.length c1, .slice a' l'.length c', .slice a3 l3.length c3, .slice a4 l4.length c4], .int .i64 x]) (by simp [results, Try.results67, go_sem, *]) rfl ?_
          refine take_end hsl hown hcap hlen hb ⟨bal2 w _ _, by simp⟩ ?_ (by simp [Bx.set, Bx.get, takeN]) (by simp [Bx.get])
          repeat (first | with_reducible exact Keeps.refl _ _ | (with_reducible refine Keeps.drew ?_) | (with_reducible refine Keeps.setCell ?_ (.inl rfl) _) | (with_reducible refine Keeps.setCell ?_ (.inr rfl) _))
  · cases l3 with
    | nil =>
      dsimp only [List.length_nil]
      go_enter Try.func67, Try.ntmps67
      go_wp2
      exact bodyPost_ret (v := .tuple #[.agg #[.slice a1 l1.length c1, .slice a2 l2.length c2, .slice a3 0 c3, .slice a4 l4.length c4], .int .i64 0]) (by simp [results, Try.results67, go_sem]) rfl ⟨⟨a3, [], c3⟩, rfl, o3.below (bal2 w _ _), rfl, bal2 w _ _⟩
    | cons x t =>
      obtain ⟨bb, oo, rfl, hbs, hc0⟩ := o3.ints 0 (by simp)
      have hlen : t.length + 1 ≤ 5 := o3.len
      have CAP := Lib.hid (show t.length + 1 ≤ c3 from o3.cap)
      have TL := Lib.hid (ints_tail o3.ints)
      clear o1 o2 o3 o4 hok hw
      dsimp only [List.length_cons]
      simp only [Nat.add_zero, List.getElem_cons_zero] at hc0
      go_enter Try.func67, Try.ntmps67
      go_wp2_with fail
      · obtain rfl : t = [] := List.length_eq_zero_iff.1 (by have := CAP.out; omega)
        refine (clone_int_n [] _ _ _ _ rfl (by simp) (Ints.nil _ _ _)).mono ?_
        rintro e w1 ⟨⟨a', l', c'⟩, rfl, hsl, hi, hown, hcap, hb⟩
        dsimp only at hsl hi hown hcap
        obtain ⟨⟨d0, d1, d2, d3⟩, f0, f1, f2, f3⟩ := box4 hb (b := w.heap.size) (by simp; omega) (heap_alloc2_old w _ _)
        obtain ⟨⟨x0, x1, x2, x3⟩, y0, y1, y2, y3⟩ := box4 hb (b := w.heap.size + 1) (by simp) (heap_alloc2_new w _ _)
        have b0 : Below w.heap.size w w1 := (bal2 w _ _).trans (hb.mono (by simp; omega))
        have cx := (b0.cell (p := ⟨bb, oo, none⟩) hbs).trans hc0
        go_wp2
        go_region
        all_goals
          go_wp2
          refine bodyPost_ret (v := .tuple #[.agg #[.slice a1 l1.length c1, .slice a2 l2.length c2, .slice a' l'.length c', .slice a4 l4.length c4], .int .i64 x]) (by simp [results, Try.results67, go_sem, *]) rfl ?_
          refine take_end hsl hown hcap hlen hb ⟨bal2 w _ _, by simp⟩ ?_ (by simp [Bx.set, Bx.get, takeN]) (by simp [Bx.get])
          repeat (first | with_reducible exact Keeps.refl _ _ | (with_reducible refine Keeps.drew ?_) | (with_reducible refine Keeps.setCell ?_ (.inl rfl) _) | (with_reducible refine Keeps.setCell ?_ (.inr rfl) _))
      · refine (clone_int_n t _ _ _ _ rfl (by omega) ((TL.out.below (bal2 _ _ _) (Nat.le_refl _)).mono (by simp; omega))).mono ?_
        rintro e w1 ⟨⟨a', l', c'⟩, rfl, hsl, hi, hown, hcap, hb⟩
        dsimp only at hsl hi hown hcap
        obtain ⟨⟨d0, d1, d2, d3⟩, f0, f1, f2, f3⟩ := box4 hb (b := w.heap.size) (by simp; omega) (heap_alloc2_old w _ _)
        obtain ⟨⟨x0, x1, x2, x3⟩, y0, y1, y2, y3⟩ := box4 hb (b := w.heap.size + 1) (by simp) (heap_alloc2_new w _ _)
        have b0 : Below w.heap.size w w1 := (bal2 w _ _).trans (hb.mono (by simp; omega))
        have cx := (b0.cell (p := ⟨bb, oo, none⟩) hbs).trans hc0
        go_wp2
        go_region
        all_goals
          go_wp2
          refine bodyPost_ret (v := .tuple #[.agg #[.slice a1 l1.length c1, .slice a2 l2.length c2, .slice a' l'.length c', .slice a4 l4.length c4], .int .i64 x]) (by simp [results, Try.results67, go_sem, *]) rfl ?_
          refine take_end hsl hown hcap hlen hb ⟨bal2 w _ _, by simp⟩ ?_ (by simp [Bx.set, Bx.get, takeN]) (by simp [Bx.get])
          repeat (first | with_reducible exact Keeps.refl _ _ | (with_reducible refine Keeps.drew ?_) | (with_reducible refine Keeps.setCell ?_ (.inl rfl) _) | (with_reducible refine Keeps.setCell ?_ (.inr rfl) _))
  · cases l4 with
    | nil =>
      dsimp only [List.length_nil]
      go_enter Try.func67, Try.ntmps67
      go_wp2
      exact bodyPost_ret (v := .tuple #[.agg #[.slice a1 l1.length c1, .slice a2 l2.length c2, .slice a3 l3.length c3, .slice a4 0 c4], .int .i64 0]) (by simp [results, Try.results67, go_sem]) rfl ⟨⟨a4, [], c4⟩, rfl, o4.below (bal2 w _ _), rfl, bal2 w _ _⟩
    | cons x t =>
      obtain ⟨bb, oo, rfl, hbs, hc0⟩ := o4.ints 0 (by simp)
      have hlen : t.length + 1 ≤ 5 := o4.len
      have CAP := Lib.hid (show t.length + 1 ≤ c4 from o4.cap)
      have TL := Lib.hid (ints_tail o4.ints)
      clear o1 o2 o3 o4 hok hw
      dsimp only [List.length_cons]
      simp only [Nat.add_zero, List.getElem_cons_zero] at hc0
      go_enter Try.func67, Try.ntmps67
      go_wp2_with fail
      · obtain rfl : t = [] := List.length_eq_zero_iff.1 (by have := CAP.out; omega)
        refine (clone_int_n [] _ _ _ _ rfl (by simp) (Ints.nil _ _ _)).mono ?_
        rintro e w1 ⟨⟨a', l', c'⟩, rfl, hsl, hi, hown, hcap, hb⟩
        dsimp only at hsl hi hown hcap
        obtain ⟨⟨d0, d1, d2, d3⟩, f0, f1, f2, f3⟩ := box4 hb (b := w.heap.size) (by simp; omega) (heap_alloc2_old w _ _)
        obtain ⟨⟨x0, x1, x2, x3⟩, y0, y1, y2, y3⟩ := box4 hb (b := w.heap.size + 1) (by simp) (heap_alloc2_new w _ _)
        have b0 : Below w.heap.size w w1 := (bal2 w _ _).trans (hb.mono (by simp; omega))
        have cx := (b0.cell (p := ⟨bb, oo, none⟩) hbs).trans hc0
        go_wp2
        go_region
        all_goals
          go_wp2
          refine bodyPost_ret (v := .tuple #[.agg #[.slice a1 l1.length c1, .slice a2 l2.length c2, .slice a3 l3.length c3, .slice a' l'.length c'], .int .i64 x]) (by simp [results, Try.results67, go_sem, *]) rfl ?_
          refine take_end hsl hown hcap hlen hb ⟨bal2 w _ _, by simp⟩ ?_ (by simp [Bx.set, Bx.get, takeN]) (by simp [Bx.get])
          repeat (first | with_reducible exact Keeps.refl _ _ | (with_reducible refine Keeps.drew ?_) | (with_reducible refine Keeps.setCell ?_ (.inl rfl) _) | (with_reducible refine Keeps.setCell ?_ (.inr rfl) _))
      · refine (clone_int_n t _ _ _ _ rfl (by omega) ((TL.out.below (bal2 _ _ _) (Nat.le_refl _)).mono (by simp; omega))).mono ?_
        rintro e w1 ⟨⟨a', l', c'⟩, rfl, hsl, hi, hown, hcap, hb⟩
        dsimp only at hsl hi hown hcap
        obtain ⟨⟨d0, d1, d2, d3⟩, f0, f1, f2, f3⟩ := box4 hb (b := w.heap.size) (by simp; omega) (heap_alloc2_old w _ _)
        obtain ⟨⟨x0, x1, x2, x3⟩, y0, y1, y2, y3⟩ := box4 hb (b := w.heap.size + 1) (by simp) (heap_alloc2_new w _ _)
        have b0 : Below w.heap.size w w1 := (bal2 w _ _).trans (hb.mono (by simp; omega))
        have cx := (b0.cell (p := ⟨bb, oo, none⟩) hbs).trans hc0
        go_wp2
        go_region
        all_goals
          go_wp2
          refine bodyPost_ret (v := .tuple #[.agg #[.slice a1 l1.length c1, .slice a2 l2.length c2, .slice a3 l3.length c3, .slice a' l'.length c'], .int .i64 x]) (by simp [results, Try.results67, go_sem, *]) rfl ?_
          refine take_end hsl hown hcap hlen hb ⟨bal2 w _ _, by simp⟩ ?_ (by simp [Bx.set, Bx.get, takeN]) (by simp [Bx.get])
          repeat (first | with_reducible exact Keeps.refl _ _ | (with_reducible refine Keeps.drew ?_) | (with_reducible refine Keeps.setCell ?_ (.inl rfl) _) | (with_reducible refine Keeps.setCell ?_ (.inr rfl) _))
end Go.Proofs.Ytclhmpknkinjcaa
