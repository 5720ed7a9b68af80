/-
  Contracts: tell.Take and the document's Take.
-/
import Derived.Test.YtkiogccpbdpfaaaTellBox
import Derived.Test.YtkiogccpbdpfaaaKeeps
import Derived.RegionTactic
import Derived.ChangeAlike
namespace Go.Proofs.Ytkiogccpbdpfaaa
open Go.RowKit

/-- what is left in a box, and what is told -/
def takeN (l : List Int) : Int := l.headD 0

theorem clone_int_n (l : List Int) (a : Option Addr) (cap n : Nat) (w : World) (hn : n = l.length) (hl : l.length * 8 ≤ 140737488355328) (hr : Ints w.heap.size w a l) :
    Calls Try.prog 92 #[.slice a n cap] w fun e w' => ∃ s : Sl, e = .returned s.v ∧ s.l = l ∧ Ints w'.heap.size w' s.a s.l ∧ OwnI w.heap.size w' s.v l ∧ s.l.length ≤ s.c ∧ Below w.heap.size w w' := by
  subst hn
  refine (clone_int l a cap w hl hr).mono ?_
  rintro e w' ⟨v, rfl, hown, hb⟩
  obtain ⟨a', c', rfl, hi⟩ := hown.shape
  exact ⟨⟨a', l, c'⟩, rfl, rfl, hi, hown, hown.cap, hb⟩

theorem ints_tail {B : Nat} {w : World} {b o : Nat} {x : Int} {t : List Int} (h : Ints B w (some ⟨b, o, none⟩) (x :: t)) : Ints B w (some ⟨b, o + 1, none⟩) t := by
  intro i hi
  obtain ⟨b', o', e, hb, c1⟩ := h (i + 1) (by simp; omega)
  obtain ⟨rfl, rfl⟩ : b = b' ∧ o = o' := by simpa using e
  exact ⟨b, o + 1, rfl, hb, by rw [show o + 1 + i = o + (i + 1) from by omega, c1]; rfl⟩

theorem bal2 (w : World) (o p : Obj) : Below w.heap.size w ((w.alloc o).alloc p) := (bal w o).alloc (by simp) _

theorem box4 {W w1 : World} {n : Nat} (hb : Below n W w1) {b : Nat} (hbn : b < n) {v0 v1 v2 v3 : Value} {T : TypeId} (h : W.heap[b]? = some (.cells #[v0, v1, v2, v3] T (0, 0))) :
    (w1.cell? ⟨b, 0, none⟩ = some v0 ∧ w1.cell? ⟨b, 1, none⟩ = some v1 ∧ w1.cell? ⟨b, 2, none⟩ = some v2 ∧ w1.cell? ⟨b, 3, none⟩ = some v3) ∧
    (w1.frozen? ⟨b, 0, none⟩ = false ∧ w1.frozen? ⟨b, 1, none⟩ = false ∧ w1.frozen? ⟨b, 2, none⟩ = false ∧ w1.frozen? ⟨b, 3, none⟩ = false) := by
  have h1 : w1.heap[b]? = some (.cells #[v0, v1, v2, v3] T (0, 0)) := (hb.block b hbn).trans h
  simp [World.cell?, World.frozen?, h1]

theorem clone_own (l : List Int) (a : Option Addr) (cap n : Nat) (w : World) (hn : n = l.length) (hl : l.length * 8 ≤ 140737488355328) (hr : Ints w.heap.size w a l) :
    Calls Try.prog 92 #[.slice a n cap] w fun e w' => ∃ a' c', e = .returned (.slice a' n c') ∧ OwnI w.heap.size w' (.slice a' n c') l ∧ Below w.heap.size w w' := by
  subst hn
  refine (clone_int l a cap w hl hr).mono ?_
  rintro e w' ⟨v, rfl, hown, hb⟩
  obtain ⟨a', c', rfl, hi⟩ := hown.shape
  exact ⟨a', c', rfl, hown, hb⟩

def TakePost (b : Bx) (who : Int) (w : World) (e : Ending) (w' : World) : Prop :=
  ∃ s : Sl, e = .returned (.tuple #[.agg (b.set who s).cells, .int .i64 (takeN (b.get who).l)]) ∧ s.ok w' ∧ s.l = (b.get who).l.tail ∧ Below w.heap.size w w'

theorem TakePost.mk {b : Bx} {who : Int} {w : World} {e : Ending} {w' : World} {s : Sl} (h1 : e = .returned (.tuple #[.agg (b.set who s).cells, .int .i64 (takeN (b.get who).l)])) (h2 : s.ok w') (h3 : s.l = (b.get who).l.tail) (h4 : Below w.heap.size w w') : TakePost b who w e w' := ⟨s, h1, h2, h3, h4⟩

theorem take_end {b : Bx} {who : Int} {w W1 w1 w' : World} {a' : Option Addr} {l' t : List Int} {c' : Nat} {e : Ending} (hl : l' = t) (hown : OwnI W1.heap.size w1 (.slice a' l'.length c') t) (hcap : l'.length ≤ c') (hlen : t.length + 1 ≤ 5)
    (hb : Below W1.heap.size W1 w1) (hW : Below w.heap.size w W1 ∧ w.heap.size + 2 = W1.heap.size) (kp : Keeps (fun k => k = w.heap.size ∨ k = w.heap.size + 1) w1 w')
    (he : e = .returned (.tuple #[.agg (b.set who ⟨a', l', c'⟩).cells, .int .i64 (takeN (b.get who).l)])) (ht : t = (b.get who).l.tail) : TakePost b who w e w' := by
  subst hl
  have hk : ∀ k, (k = w.heap.size ∨ k = w.heap.size + 1) → k < W1.heap.size := fun k hk => by have := hW.2; omega
  have hz := hb.size
  have h0 := hW.2
  refine TakePost.mk (s := ⟨a', l', c'⟩) he ⟨(hown.keeps kp hk).ints, by show l'.length ≤ 5; omega, hcap⟩ ht ?_
  exact (hW.1.trans (hb.mono (by omega))).trans (kp.below (by omega) (fun k hk => by omega))

set_option maxRecDepth 100000 in
set_option maxHeartbeats 1000000 in
theorem take_any (b : Bx) (who : Int) (w : World) (hr : b.ok w) (hw : 1 ≤ who ∧ who ≤ 4) :
    Calls Try.prog 27 #[.agg b.cells, .int .i64 who] w (TakePost b who w) := by
  obtain ⟨⟨a1, l1, c1⟩, ⟨a2, l2, c2⟩, ⟨a3, l3, c3⟩, ⟨a4, l4, c4⟩⟩ := b
  have hok := hr
  obtain ⟨o1, o2, o3, o4⟩ := hr
  have h4 : who = 1 ∨ who = 2 ∨ who = 3 ∨ who = 4 := by omega
  dsimp only [Bx.cells, Sl.v]
  rcases h4 with rfl | rfl | rfl | rfl
  · cases l1 with
    | nil =>
      dsimp only [List.length_nil]
      go_enter Try.func27, Try.ntmps27
      go_wp2
      exact bodyPost_ret (v := .tuple #[.agg #[.slice a1 0 c1, .slice a2 l2.length c2, .slice a3 l3.length c3, .slice a4 l4.length c4], .int .i64 0]) (by simp [results, Try.results27, go_sem]) rfl ⟨⟨a1, [], c1⟩, rfl, o1.below (bal2 w _ _), rfl, bal2 w _ _⟩
    | cons x t =>
      obtain ⟨bb, oo, rfl, hbs, hc0⟩ := o1.ints 0 (by simp)
      have hlen : t.length + 1 ≤ 5 := o1.len
      have CAP := Lib.hid (show t.length + 1 ≤ c1 from o1.cap)
      have TL := Lib.hid (ints_tail o1.ints)
      clear o1 o2 o3 o4 hok hw
      dsimp only [List.length_cons]
      simp only [Nat.add_zero, List.getElem_cons_zero] at hc0
      go_enter Try.func27, Try.ntmps27
      go_wp2_with fail
      · obtain rfl : t = [] := List.length_eq_zero_iff.1 (by have := CAP.out; omega)
        refine (clone_int_n [] _ _ _ _ rfl (by simp) (Ints.nil _ _ _)).mono ?_
        rintro e w1 ⟨⟨a', l', c'⟩, rfl, hsl, hi, hown, hcap, hb⟩
        dsimp only at hsl hi hown hcap
        obtain ⟨⟨d0, d1, d2, d3⟩, f0, f1, f2, f3⟩ := box4 hb (b := w.heap.size) (by simp; omega) (heap_alloc2_old w _ _)
        obtain ⟨⟨x0, x1, x2, x3⟩, y0, y1, y2, y3⟩ := box4 hb (b := w.heap.size + 1) (by simp) (heap_alloc2_new w _ _)
        have b0 : Below w.heap.size w w1 := (bal2 w _ _).trans (hb.mono (by simp; omega))
        have cx := (b0.cell (p := ⟨bb, oo, none⟩) hbs).trans hc0
        go_wp2
        go_region
        all_goals
          go_wp2
          refine bodyPost_ret (v := .tuple #[.agg #[.slice a' l'.length c', .slice a2 l2.length c2, .slice a3 l3.length c3, .slice a4 l4.length c4], .int .i64 x]) (by simp [results, Try.results27, go_sem, *]) rfl ?_
          refine take_end hsl hown hcap hlen hb ⟨bal2 w _ _, by simp⟩ ?_ (by simp [Bx.set, Bx.get, takeN]) (by simp [Bx.get])
          repeat (first | with_reducible exact Keeps.refl _ _ | (with_reducible refine Keeps.drew ?_) | (with_reducible refine Keeps.setCell ?_ (.inl rfl) _) | (with_reducible refine Keeps.setCell ?_ (.inr rfl) _))
      · refine (clone_int_n t _ _ _ _ rfl (by omega) ((TL.out.below (bal2 _ _ _) (Nat.le_refl _)).mono (by simp; omega))).mono ?_
        rintro e w1 ⟨⟨a', l', c'⟩, rfl, hsl, hi, hown, hcap, hb⟩
        dsimp only at hsl hi hown hcap
        obtain ⟨⟨d0, d1, d2, d3⟩, f0, f1, f2, f3⟩ := box4 hb (b := w.heap.size) (by simp; omega) (heap_alloc2_old w _ _)
        obtain ⟨⟨x0, x1, x2, x3⟩, y0, y1, y2, y3⟩ := box4 hb (b := w.heap.size + 1) (by simp) (heap_alloc2_new w _ _)
        have b0 : Below w.heap.size w w1 := (bal2 w _ _).trans (hb.mono (by simp; omega))
        have cx := (b0.cell (p := ⟨bb, oo, none⟩) hbs).trans hc0
        go_wp2
        go_region
        all_goals
          go_wp2
          refine bodyPost_ret (v := .tuple #[.agg #[.slice a' l'.length c', .slice a2 l2.length c2, .slice a3 l3.length c3, .slice a4 l4.length c4], .int .i64 x]) (by simp [results, Try.results27, go_sem, *]) rfl ?_
          refine take_end hsl hown hcap hlen hb ⟨bal2 w _ _, by simp⟩ ?_ (by simp [Bx.set, Bx.get, takeN]) (by simp [Bx.get])
          repeat (first | with_reducible exact Keeps.refl _ _ | (with_reducible refine Keeps.drew ?_) | (with_reducible refine Keeps.setCell ?_ (.inl rfl) _) | (with_reducible refine Keeps.setCell ?_ (.inr rfl) _))
  · cases l2 with
    | nil =>
      dsimp only [List.length_nil]
      go_enter Try.func27, Try.ntmps27
      go_wp2
      exact bodyPost_ret (v := .tuple #[.agg #[.slice a1 l1.length c1, .slice a2 0 c2, .slice a3 l3.length c3, .slice a4 l4.length c4], .int .i64 0]) (by simp [results, Try.results27, go_sem]) rfl ⟨⟨a2, [], c2⟩, rfl, o2.below (bal2 w _ _), rfl, bal2 w _ _⟩
    | cons x t =>
      obtain ⟨bb, oo, rfl, hbs, hc0⟩ := o2.ints 0 (by simp)
      have hlen : t.length + 1 ≤ 5 := o2.len
      have CAP := Lib.hid (show t.length + 1 ≤ c2 from o2.cap)
      have TL := Lib.hid (ints_tail o2.ints)
      clear o1 o2 o3 o4 hok hw
      dsimp only [List.length_cons]
      simp only [Nat.add_zero, List.getElem_cons_zero] at hc0
      go_enter Try.func27, Try.ntmps27
      go_wp2_with fail
      · obtain rfl : t = [] := List.length_eq_zero_iff.1 (by have := CAP.out; omega)
        refine (clone_int_n [] _ _ _ _ rfl (by simp) (Ints.nil _ _ _)).mono ?_
        rintro e w1 ⟨⟨a', l', c'⟩, rfl, hsl, hi, hown, hcap, hb⟩
        dsimp only at hsl hi hown hcap
        obtain ⟨⟨d0, d1, d2, d3⟩, f0, f1, f2, f3⟩ := box4 hb (b := w.heap.size) (by simp; omega) (heap_alloc2_old w _ _)
        obtain ⟨⟨x0, x1, x2, x3⟩, y0, y1, y2, y3⟩ := box4 hb (b := w.heap.size + 1) (by simp) (heap_alloc2_new w _ _)
        have b0 : Below w.heap.size w w1 := (bal2 w _ _).trans (hb.mono (by simp; omega))
        have cx := (b0.cell (p := ⟨bb, oo, none⟩) hbs).trans hc0
        go_wp2
        go_region
        all_goals
          go_wp2
          refine bodyPost_ret (v := .tuple #[.agg #[.slice a1 l1.length c1, .slice a' l'.length c', .slice a3 l3.length c3, .slice a4 l4.length c4], .int .i64 x]) (by simp [results, Try.results27, go_sem, *]) rfl ?_
          refine take_end hsl hown hcap hlen hb ⟨bal2 w _ _, by simp⟩ ?_ (by simp [Bx.set, Bx.get, takeN]) (by simp [Bx.get])
          repeat (first | with_reducible exact Keeps.refl _ _ | (with_reducible refine Keeps.drew ?_) | (with_reducible refine Keeps.setCell ?_ (.inl rfl) _) | (with_reducible refine Keeps.setCell ?_ (.inr rfl) _))
      · refine (clone_int_n t _ _ _ _ rfl (by omega) ((TL.out.below (bal2 _ _ _) (Nat.le_refl _)).mono (by simp; omega))).mono ?_
        rintro e w1 ⟨⟨a', l', c'⟩, rfl, hsl, hi, hown, hcap, hb⟩
        dsimp only at hsl hi hown hcap
        obtain ⟨⟨d0, d1, d2, d3⟩, f0, f1, f2, f3⟩ := box4 hb (b := w.heap.size) (by simp; omega) (heap_alloc2_old w _ _)
        obtain ⟨⟨x0, x1, x2, x3⟩, y0, y1, y2, y3⟩ := box4 hb (b := w.heap.size + 1) (by simp) (heap_alloc2_new w _ _)
        have b0 : Below w.heap.size w w1 := (bal2 w _ _).trans (hb.mono (by simp; omega))
        have cx := (b0.cell (p := ⟨bb, oo, none⟩) hbs).trans hc0
        go_wp2
        go_region
        all_goals
          go_wp2
          refine bodyPost_ret (v := .tuple #[.agg #[.slice a1 l1.length c1, .slice a' l'.length c', .slice a3 l3.length c3, .slice a4 l4.length c4], .int .i64 x]) (by simp [results, Try.results27, go_sem, *]) rfl ?_
          refine take_end hsl hown hcap hlen hb ⟨bal2 w _ _, by simp⟩ ?_ (by simp [Bx.set, Bx.get, takeN]) (by simp [Bx.get])
          repeat (first | with_reducible exact Keeps.refl _ _ | (with_reducible refine Keeps.drew ?_) | (with_reducible refine Keeps.setCell ?_ (.inl rfl) _) | (with_reducible refine Keeps.setCell ?_ (.inr rfl) _))
  · cases l3 with
    | nil =>
      dsimp only [List.length_nil]
      go_enter Try.func27, Try.ntmps27
      go_wp2
      exact bodyPost_ret (v := .tuple #[.agg #[.slice a1 l1.length c1, .slice a2 l2.length c2, .slice a3 0 c3, .slice a4 l4.length c4], .int .i64 0]) (by simp [results, Try.results27, go_sem]) rfl ⟨⟨a3, [], c3⟩, rfl, o3.below (bal2 w _ _), rfl, bal2 w _ _⟩
    | cons x t =>
      obtain ⟨bb, oo, rfl, hbs, hc0⟩ := o3.ints 0 (by simp)
      have hlen : t.length + 1 ≤ 5 := o3.len
      have CAP := Lib.hid (show t.length + 1 ≤ c3 from o3.cap)
      have TL := Lib.hid (ints_tail o3.ints)
      clear o1 o2 o3 o4 hok hw
      dsimp only [List.length_cons]
      simp only [Nat.add_zero, List.getElem_cons_zero] at hc0
      go_enter Try.func27, Try.ntmps27
      go_wp2_with fail
      · obtain rfl : t = [] := List.length_eq_zero_iff.1 (by have := CAP.out; omega)
        refine (clone_int_n [] _ _ _ _ rfl (by simp) (Ints.nil _ _ _)).mono ?_
        rintro e w1 ⟨⟨a', l', c'⟩, rfl, hsl, hi, hown, hcap, hb⟩
        dsimp only at hsl hi hown hcap
        obtain ⟨⟨d0, d1, d2, d3⟩, f0, f1, f2, f3⟩ := box4 hb (b := w.heap.size) (by simp; omega) (heap_alloc2_old w _ _)
        obtain ⟨⟨x0, x1, x2, x3⟩, y0, y1, y2, y3⟩ := box4 hb (b := w.heap.size + 1) (by simp) (heap_alloc2_new w _ _)
        have b0 : Below w.heap.size w w1 := (bal2 w _ _).trans (hb.mono (by simp; omega))
        have cx := (b0.cell (p := ⟨bb, oo, none⟩) hbs).trans hc0
        go_wp2
        go_region
        all_goals
          go_wp2
          refine bodyPost_ret (v := .tuple #[.agg #[.slice a1 l1.length c1, .slice a2 l2.length c2, .slice a' l'.length c', .slice a4 l4.length c4], .int .i64 x]) (by simp [results, Try.results27, go_sem, *]) rfl ?_
          refine take_end hsl hown hcap hlen hb ⟨bal2 w _ _, by simp⟩ ?_ (by simp [Bx.set, Bx.get, takeN]) (by simp [Bx.get])
          repeat (first | with_reducible exact Keeps.refl _ _ | (with_reducible refine Keeps.drew ?_) | (with_reducible refine Keeps.setCell ?_ (.inl rfl) _) | (with_reducible refine Keeps.setCell ?_ (.inr rfl) _))
      · refine (clone_int_n t _ _ _ _ rfl (by omega) ((TL.out.below (bal2 _ _ _) (Nat.le_refl _)).mono (by simp; omega))).mono ?_
        rintro e w1 ⟨⟨a', l', c'⟩, rfl, hsl, hi, hown, hcap, hb⟩
        dsimp only at hsl hi hown hcap
        obtain ⟨⟨d0, d1, d2, d3⟩, f0, f1, f2, f3⟩ := box4 hb (b := w.heap.size) (by simp; omega) (heap_alloc2_old w _ _)
        obtain ⟨⟨x0, x1, x2, x3⟩, y0, y1, y2, y3⟩ := box4 hb (b := w.heap.size + 1) (by simp) (heap_alloc2_new w _ _)
        have b0 : Below w.heap.size w w1 := (bal2 w _ _).trans (hb.mono (by simp; omega))
        have cx := (b0.cell (p := ⟨bb, oo, none⟩) hbs).trans hc0
        go_wp2
        go_region
        all_goals
          go_wp2
          refine bodyPost_ret (v := .tuple #[.agg #[.slice a1 l1.length c1, .slice a2 l2.length c2, .slice a' l'.length c', .slice a4 l4.length c4], .int .i64 x]) (by simp [results, Try.results27, go_sem, *]) rfl ?_
          refine take_end hsl hown hcap hlen hb ⟨bal2 w _ _, by simp⟩ ?_ (by simp [Bx.set, Bx.get, takeN]) (by simp [Bx.get])
          repeat (first | with_reducible exact Keeps.refl _ _ | (with_reducible refine Keeps.drew ?_) | (with_reducible refine Keeps.setCell ?_ (.inl rfl) _) | (with_reducible refine Keeps.setCell ?_ (.inr rfl) _))
  · cases l4 with
    | nil =>
      dsimp only [List.length_nil]
      go_enter Try.func27, Try.ntmps27
      go_wp2
      exact bodyPost_ret (v := .tuple #[.agg #[.slice a1 l1.length c1, .slice a2 l2.length c2, .slice a3 l3.length c3, .slice a4 0 c4], .int .i64 0]) (by simp [results, Try.results27, go_sem]) rfl ⟨⟨a4, [], c4⟩, rfl, o4.below (bal2 w _ _), rfl, bal2 w _ _⟩
    | cons x t =>
      obtain ⟨bb, oo, rfl, hbs, hc0⟩ := o4.ints 0 (by simp)
      have hlen : t.length + 1 ≤ 5 := o4.len
      have CAP := Lib.hid (show t.length + 1 ≤ c4 from o4.cap)
      have TL := Lib.hid (ints_tail o4.ints)
      clear o1 o2 o3 o4 hok hw
      dsimp only [List.length_cons]
      simp only [Nat.add_zero, List.getElem_cons_zero] at hc0
      go_enter Try.func27, Try.ntmps27
      go_wp2_with fail
      · obtain rfl : t = [] := List.length_eq_zero_iff.1 (by have := CAP.out; omega)
        refine (clone_int_n [] _ _ _ _ rfl (by simp) (Ints.nil _ _ _)).mono ?_
        rintro e w1 ⟨⟨a', l', c'⟩, rfl, hsl, hi, hown, hcap, hb⟩
        dsimp only at hsl hi hown hcap
        obtain ⟨⟨d0, d1, d2, d3⟩, f0, f1, f2, f3⟩ := box4 hb (b := w.heap.size) (by simp; omega) (heap_alloc2_old w _ _)
        obtain ⟨⟨x0, x1, x2, x3⟩, y0, y1, y2, y3⟩ := box4 hb (b := w.heap.size + 1) (by simp) (heap_alloc2_new w _ _)
        have b0 : Below w.heap.size w w1 := (bal2 w _ _).trans (hb.mono (by simp; omega))
        have cx := (b0.cell (p := ⟨bb, oo, none⟩) hbs).trans hc0
        go_wp2
        go_region
        all_goals
          go_wp2
          refine bodyPost_ret (v := .tuple #[.agg #[.slice a1 l1.length c1, .slice a2 l2.length c2, .slice a3 l3.length c3, .slice a' l'.length c'], .int .i64 x]) (by simp [results, Try.results27, go_sem, *]) rfl ?_
          refine take_end hsl hown hcap hlen hb ⟨bal2 w _ _, by simp⟩ ?_ (by simp [Bx.set, Bx.get, takeN]) (by simp [Bx.get])
          repeat (first | with_reducible exact Keeps.refl _ _ | (with_reducible refine Keeps.drew ?_) | (with_reducible refine Keeps.setCell ?_ (.inl rfl) _) | (with_reducible refine Keeps.setCell ?_ (.inr rfl) _))
      · refine (clone_int_n t _ _ _ _ rfl (by omega) ((TL.out.below (bal2 _ _ _) (Nat.le_refl _)).mono (by simp; omega))).mono ?_
        rintro e w1 ⟨⟨a', l', c'⟩, rfl, hsl, hi, hown, hcap, hb⟩
        dsimp only at hsl hi hown hcap
        obtain ⟨⟨d0, d1, d2, d3⟩, f0, f1, f2, f3⟩ := box4 hb (b := w.heap.size) (by simp; omega) (heap_alloc2_old w _ _)
        obtain ⟨⟨x0, x1, x2, x3⟩, y0, y1, y2, y3⟩ := box4 hb (b := w.heap.size + 1) (by simp) (heap_alloc2_new w _ _)
        have b0 : Below w.heap.size w w1 := (bal2 w _ _).trans (hb.mono (by simp; omega))
        have cx := (b0.cell (p := ⟨bb, oo, none⟩) hbs).trans hc0
        go_wp2
        go_region
        all_goals
          go_wp2
          refine bodyPost_ret (v := .tuple #[.agg #[.slice a1 l1.length c1, .slice a2 l2.length c2, .slice a3 l3.length c3, .slice a' l'.length c'], .int .i64 x]) (by simp [results, Try.results27, go_sem, *]) rfl ?_
          refine take_end hsl hown hcap hlen hb ⟨bal2 w _ _, by simp⟩ ?_ (by simp [Bx.set, Bx.get, takeN]) (by simp [Bx.get])
          repeat (first | with_reducible exact Keeps.refl _ _ | (with_reducible refine Keeps.drew ?_) | (with_reducible refine Keeps.setCell ?_ (.inl rfl) _) | (with_reducible refine Keeps.setCell ?_ (.inr rfl) _))

/-- behind a method on the document's box in block M -/
def RTakePost (b : Bx) (M : Nat) (who : Int) (w : World) (e : Ending) (w' : World) : Prop :=
  ∃ s : Sl, e = .returned (.int .i64 (takeN (b.get who).l)) ∧ s.ok w' ∧ s.l = (b.get who).l.tail ∧ w'.heap[M]? = some (.cells (b.set who s).cells 41 (0, 0)) ∧ Keeps (· = M) w w'

theorem RTakePost.mk {b : Bx} {M : Nat} {who : Int} {w : World} {e : Ending} {w' : World} {s : Sl} (h1 : e = .returned (.int .i64 (takeN (b.get who).l))) (h2 : s.ok w') (h3 : s.l = (b.get who).l.tail) (h4 : w'.heap[M]? = some (.cells (b.set who s).cells 41 (0, 0))) (h5 : Keeps (· = M) w w') : RTakePost b M who w e w' := ⟨s, h1, h2, h3, h4, h5⟩

/-- a block of slices holds no integer: so no slice of integers lies in it -/
theorem far_of {w : World} {a : Option Addr} {l : List Int} {n M : Nat} {b : Bx} {T : TypeId} (h : Ints n w a l) (hl : l ≠ []) (hM : w.heap[M]? = some (.cells b.cells T (0, 0))) : ∀ x, a = some x → x.block ≠ M := by
  rintro x rfl
  obtain ⟨b', o', e, _, c⟩ := h 0 (List.length_pos_iff.2 hl)
  cases e
  rintro rfl
  simp only [World.cell?, hM] at c
  have : ∀ (o' : Nat) (z : Int), (b.cells)[o']? ≠ some (.int .i64 z) := by
    intro o' z
    match o' with
    | 0 => simp
    | 1 => simp
    | 2 => simp
    | 3 => simp
    | n + 4 => simp
  simp at c
  exact this _ _ (by simpa using c)

theorem Sl.ok.keeps {S : Nat → Prop} {s : Sl} {w w' : World} (h : s.ok w) (k : Keeps S w w') (hS : ∀ m, S m → m < w.heap.size → ∃ (b : Bx) (T : TypeId), w.heap[m]? = some (.cells b.cells T (0, 0))) : s.ok w' := by
  refine ⟨?_, h.len, h.cap⟩
  by_cases hl : s.l = []
  · rw [hl]; exact Ints.nil _ _ _
  intro i hi
  obtain ⟨b', o', e, hb, c⟩ := h.ints i hi
  refine ⟨b', o', e, Nat.lt_of_lt_of_le hb k.size, ?_⟩
  rw [k.cell (fun hs => ?_) hb]
  · exact c
  · obtain ⟨b, T, hM⟩ := hS _ hs hb
    exact far_of h.ints hl hM _ e rfl
theorem Bx.ok.keeps {S : Nat → Prop} {b : Bx} {w w' : World} (h : b.ok w) (k : Keeps S w w') (hS : ∀ m, S m → m < w.heap.size → ∃ (b : Bx) (T : TypeId), w.heap[m]? = some (.cells b.cells T (0, 0))) : b.ok w' :=
  ⟨h.o1.keeps k hS, h.o2.keeps k hS, h.o3.keeps k hS, h.o4.keeps k hS⟩

theorem tl_nil {B : Nat} {w : World} {a : Option Addr} {t : List Int} (h : t.length + 1 ≤ 1) : Ints B w a t := by
  obtain rfl : t = [] := List.length_eq_zero_iff.1 (by omega)
  exact Ints.nil _ _ _

theorem rtake_end {b : Bx} {M : Nat} {who : Int} {w w' : World} {a : Option Addr} {t : List Int} {c : Nat} {cs : Array Value} {e : Ending} (ht : Ints w.heap.size w a t) (hc : t.length + 1 ≤ c) (hlen : t.length + 1 ≤ 5)
    (hap : ∀ x, a = some x → x.block ≠ M) (kp : Keeps (· = M) w w') (h0 : cs = (b.set who ⟨a, t, c - 1⟩).cells) (he : e = .returned (.int .i64 (takeN (b.get who).l))) (hl : t = (b.get who).l.tail)
    (hm : w'.heap[M]? = some (.cells cs 41 (0, 0))) : RTakePost b M who w e w' := by
  subst h0
  refine RTakePost.mk (s := ⟨a, t, c - 1⟩) he ⟨?_, by show t.length ≤ 5; omega, by show t.length ≤ c - 1; omega⟩ hl hm kp
  intro i hi
  obtain ⟨b', o', e', hb', h1⟩ := ht i hi
  exact ⟨b', o', e', Nat.lt_of_lt_of_le hb' kp.size, by rw [kp.cell (hap _ e') hb']; exact h1⟩

/-- the slices of a box lie in other blocks than the box -/
def Apart (b : Bx) (M : Nat) : Prop := ∀ s : Sl, (s = b.s1 ∨ s = b.s2 ∨ s = b.s3 ∨ s = b.s4) → s.l ≠ [] → ∀ x, s.a = some x → x.block ≠ M

theorem apart_of {b b' : Bx} {w : World} {M : Nat} {T : TypeId} (h : b.ok w) (hM : w.heap[M]? = some (.cells b'.cells T (0, 0))) : Apart b M := by
  rintro s (rfl | rfl | rfl | rfl) hl x hx
  · exact far_of h.o1.ints hl hM x hx
  · exact far_of h.o2.ints hl hM x hx
  · exact far_of h.o3.ints hl hM x hx
  · exact far_of h.o4.ints hl hM x hx

set_option maxRecDepth 100000 in
set_option maxHeartbeats 1000000 in
theorem rtake_any (b : Bx) (M : Nat) (who : Int) (w : World) (hr : b.ok w) (hM : w.heap[M]? = some (.cells b.cells 41 (0, 0))) (hap : Apart b M) (hw : 1 ≤ who ∧ who ≤ 4) :
    Calls Try.prog 28 #[.pointer (some ⟨M, 0, none⟩), .int .i64 who] w (RTakePost b M who w) := by
  obtain ⟨⟨a1, l1, c1⟩, ⟨a2, l2, c2⟩, ⟨a3, l3, c3⟩, ⟨a4, l4, c4⟩⟩ := b
  have hok := hr
  obtain ⟨o1, o2, o3, o4⟩ := hr
  have h4 : who = 1 ∨ who = 2 ∨ who = 3 ∨ who = 4 := by omega
  dsimp only [Bx.cells, Sl.v] at hM
  obtain ⟨⟨d0, d1, d2, d3⟩, f0, f1, f2, f3⟩ := box4 (Below.refl (M+1) w) (by omega) hM
  rcases h4 with rfl | rfl | rfl | rfl
  · cases l1 with
    | nil =>
      dsimp only [List.length_nil] at *
      go_enter Try.func28, Try.ntmps28
      go_wp2
      go_ret
      exact ⟨⟨a1, [], c1⟩, rfl, o1, rfl, hM, Keeps.refl _ _⟩
    | cons x t =>
      obtain ⟨bb, oo, rfl, hbs, hc0⟩ := o1.ints 0 (by simp)
      have hne : bb ≠ M := hap _ (.inl rfl) (by simp) _ rfl
      have hlen : t.length + 1 ≤ 5 := o1.len
      have CAP := Lib.hid (show t.length + 1 ≤ c1 from o1.cap)
      have TL := Lib.hid (ints_tail o1.ints)
      have HM := Lib.hid hM
      clear o1 o2 o3 o4 hok hw hM hap
      dsimp only [List.length_cons] at *
      simp only [Nat.add_zero, List.getElem_cons_zero] at hc0
      rcases (by omega : c1 = 1 ∨ ¬ c1 = 1) with hc1 | hc1
      · subst hc1
        go_enter Try.func28, Try.ntmps28
        go_wp2
        go_region
        go_wp2
        go_ret
        refine rtake_end (a := some ⟨bb, oo, none⟩) (tl_nil CAP.out) CAP.out hlen (by rintro _ ⟨⟩; exact hne) (Keeps.drew (Keeps.setCell (S := (· = M)) (Keeps.refl _ _) rfl _)) ?_ (by simp [Bx.get, takeN]) (by simp [Bx.get]) (block_setCell HM.out _)
        simp [Bx.set]
      · go_enter Try.func28, Try.ntmps28
        go_wp2
        go_region
        go_wp2
        go_ret
        refine rtake_end TL.out CAP.out hlen (by rintro _ ⟨⟩; exact hne) (Keeps.drew (Keeps.setCell (S := (· = M)) (Keeps.refl _ _) rfl _)) ?_ (by simp [Bx.get, takeN]) (by simp [Bx.get]) (block_setCell HM.out _)
        simp [Bx.set]
  · cases l2 with
    | nil =>
      dsimp only [List.length_nil] at *
      go_enter Try.func28, Try.ntmps28
      go_wp2
      go_ret
      exact ⟨⟨a2, [], c2⟩, rfl, o2, rfl, hM, Keeps.refl _ _⟩
    | cons x t =>
      obtain ⟨bb, oo, rfl, hbs, hc0⟩ := o2.ints 0 (by simp)
      have hne : bb ≠ M := hap _ (.inr (.inl rfl)) (by simp) _ rfl
      have hlen : t.length + 1 ≤ 5 := o2.len
      have CAP := Lib.hid (show t.length + 1 ≤ c2 from o2.cap)
      have TL := Lib.hid (ints_tail o2.ints)
      have HM := Lib.hid hM
      clear o1 o2 o3 o4 hok hw hM hap
      dsimp only [List.length_cons] at *
      simp only [Nat.add_zero, List.getElem_cons_zero] at hc0
      rcases (by omega : c2 = 1 ∨ ¬ c2 = 1) with hc1 | hc1
      · subst hc1
        go_enter Try.func28, Try.ntmps28
        go_wp2
        go_region
        go_wp2
        go_ret
        refine rtake_end (a := some ⟨bb, oo, none⟩) (tl_nil CAP.out) CAP.out hlen (by rintro _ ⟨⟩; exact hne) (Keeps.drew (Keeps.setCell (S := (· = M)) (Keeps.refl _ _) rfl _)) ?_ (by simp [Bx.get, takeN]) (by simp [Bx.get]) (block_setCell HM.out _)
        simp [Bx.set]
      · go_enter Try.func28, Try.ntmps28
        go_wp2
        go_region
        go_wp2
        go_ret
        refine rtake_end TL.out CAP.out hlen (by rintro _ ⟨⟩; exact hne) (Keeps.drew (Keeps.setCell (S := (· = M)) (Keeps.refl _ _) rfl _)) ?_ (by simp [Bx.get, takeN]) (by simp [Bx.get]) (block_setCell HM.out _)
        simp [Bx.set]
  · cases l3 with
    | nil =>
      dsimp only [List.length_nil] at *
      go_enter Try.func28, Try.ntmps28
      go_wp2
      go_ret
      exact ⟨⟨a3, [], c3⟩, rfl, o3, rfl, hM, Keeps.refl _ _⟩
    | cons x t =>
      obtain ⟨bb, oo, rfl, hbs, hc0⟩ := o3.ints 0 (by simp)
      have hne : bb ≠ M := hap _ (.inr (.inr (.inl rfl))) (by simp) _ rfl
      have hlen : t.length + 1 ≤ 5 := o3.len
      have CAP := Lib.hid (show t.length + 1 ≤ c3 from o3.cap)
      have TL := Lib.hid (ints_tail o3.ints)
      have HM := Lib.hid hM
      clear o1 o2 o3 o4 hok hw hM hap
      dsimp only [List.length_cons] at *
      simp only [Nat.add_zero, List.getElem_cons_zero] at hc0
      rcases (by omega : c3 = 1 ∨ ¬ c3 = 1) with hc1 | hc1
      · subst hc1
        go_enter Try.func28, Try.ntmps28
        go_wp2
        go_region
        go_wp2
        go_ret
        refine rtake_end (a := some ⟨bb, oo, none⟩) (tl_nil CAP.out) CAP.out hlen (by rintro _ ⟨⟩; exact hne) (Keeps.drew (Keeps.setCell (S := (· = M)) (Keeps.refl _ _) rfl _)) ?_ (by simp [Bx.get, takeN]) (by simp [Bx.get]) (block_setCell HM.out _)
        simp [Bx.set]
      · go_enter Try.func28, Try.ntmps28
        go_wp2
        go_region
        go_wp2
        go_ret
        refine rtake_end TL.out CAP.out hlen (by rintro _ ⟨⟩; exact hne) (Keeps.drew (Keeps.setCell (S := (· = M)) (Keeps.refl _ _) rfl _)) ?_ (by simp [Bx.get, takeN]) (by simp [Bx.get]) (block_setCell HM.out _)
        simp [Bx.set]
  · cases l4 with
    | nil =>
      dsimp only [List.length_nil] at *
      go_enter Try.func28, Try.ntmps28
      go_wp2
      go_ret
      exact ⟨⟨a4, [], c4⟩, rfl, o4, rfl, hM, Keeps.refl _ _⟩
    | cons x t =>
      obtain ⟨bb, oo, rfl, hbs, hc0⟩ := o4.ints 0 (by simp)
      have hne : bb ≠ M := hap _ (.inr (.inr (.inr rfl))) (by simp) _ rfl
      have hlen : t.length + 1 ≤ 5 := o4.len
      have CAP := Lib.hid (show t.length + 1 ≤ c4 from o4.cap)
      have TL := Lib.hid (ints_tail o4.ints)
      have HM := Lib.hid hM
      clear o1 o2 o3 o4 hok hw hM hap
      dsimp only [List.length_cons] at *
      simp only [Nat.add_zero, List.getElem_cons_zero] at hc0
      rcases (by omega : c4 = 1 ∨ ¬ c4 = 1) with hc1 | hc1
      · subst hc1
        go_enter Try.func28, Try.ntmps28
        go_wp2
        go_region
        go_wp2
        go_ret
        refine rtake_end (a := some ⟨bb, oo, none⟩) (tl_nil CAP.out) CAP.out hlen (by rintro _ ⟨⟩; exact hne) (Keeps.drew (Keeps.setCell (S := (· = M)) (Keeps.refl _ _) rfl _)) ?_ (by simp [Bx.get, takeN]) (by simp [Bx.get]) (block_setCell HM.out _)
        simp [Bx.set]
      · go_enter Try.func28, Try.ntmps28
        go_wp2
        go_region
        go_wp2
        go_ret
        refine rtake_end TL.out CAP.out hlen (by rintro _ ⟨⟩; exact hne) (Keeps.drew (Keeps.setCell (S := (· = M)) (Keeps.refl _ _) rfl _)) ?_ (by simp [Bx.get, takeN]) (by simp [Bx.get]) (block_setCell HM.out _)
        simp [Bx.set]
end Go.Proofs.Ytkiogccpbdpfaaa
