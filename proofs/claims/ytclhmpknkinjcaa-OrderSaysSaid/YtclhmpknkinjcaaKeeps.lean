/-
  Worlds that turned in some blocks alone.
-/
import Derived.Test.YtclhmpknkinjcaaOthers
namespace Go.Proofs.Ytclhmpknkinjcaa
open Go.RowKit

/-- all blocks that lay there are as they were, but those of S -/
structure Keeps (S : Nat → Prop) (w w' : World) : Prop where
  os : w'.os = w.os
  tape : w'.tape = w.tape
  output : w'.output = w.output
  size : w.heap.size ≤ w'.heap.size
  block : ∀ k, ¬ S k → k < w.heap.size → w'.heap[k]? = w.heap[k]?

theorem Keeps.refl (S : Nat → Prop) (w : World) : Keeps S w w := ⟨rfl, rfl, rfl, Nat.le_refl _, fun _ _ _ => rfl⟩
theorem Keeps.trans {S : Nat → Prop} {a b c : World} (h : Keeps S a b) (k : Keeps S b c) : Keeps S a c :=
  ⟨k.os.trans h.os, k.tape.trans h.tape, k.output.trans h.output, Nat.le_trans h.size k.size, fun i hi hs => (k.block i hi (Nat.lt_of_lt_of_le hs h.size)).trans (h.block i hi hs)⟩
theorem Keeps.drew {S : Nat → Prop} {a w : World} (h : Keeps S a w) : Keeps S a w.drew := ⟨h.os, h.tape, h.output, h.size, h.block⟩
theorem Keeps.drewN {S : Nat → Prop} {a w : World} (h : Keeps S a w) (n : Nat) : Keeps S a (w.drewN n) := ⟨h.os, h.tape, h.output, h.size, h.block⟩
theorem Keeps.setCell {S : Nat → Prop} {a w : World} (h : Keeps S a w) {p : Addr} (hp : S p.block) (u : Value) : Keeps S a (w.setCell p u) :=
  h.trans ⟨rfl, rfl, rfl, by simp [World.setCell], fun k hk _ => Below.heap_setCell _ _ _ _ (fun e => hk (e ▸ hp))⟩
theorem Keeps.alloc {S : Nat → Prop} {a w : World} (h : Keeps S a w) (o : Obj) : Keeps S a (w.alloc o) :=
  h.trans ⟨rfl, rfl, rfl, by simp, fun k _ hk => Below.heap_alloc _ _ _ hk⟩
theorem Keeps.of_below {S : Nat → Prop} {w w' : World} (h : Below w.heap.size w w') : Keeps S w w' := ⟨h.os, h.tape, h.output, h.size, fun k _ hk => h.block k hk⟩
theorem Keeps.mono {S T : Nat → Prop} {w w' : World} (h : Keeps S w w') (hS : ∀ k, S k → T k) : Keeps T w w' := ⟨h.os, h.tape, h.output, h.size, fun k hk hs => h.block k (fun e => hk (hS k e)) hs⟩
theorem Keeps.below {S : Nat → Prop} {w w' : World} (h : Keeps S w w') {B : Nat} (hB : B ≤ w.heap.size) (hS : ∀ k, S k → B ≤ k) : Below B w w' :=
  ⟨h.os, h.tape, h.output, h.size, fun k hk => h.block k (fun e => by have := hS k e; omega) (by omega)⟩
theorem Keeps.cell {S : Nat → Prop} {w w' : World} (h : Keeps S w w') {b o : Nat} (hs : ¬ S b) (hb : b < w.heap.size) : w'.cell? ⟨b, o, none⟩ = w.cell? ⟨b, o, none⟩ :=
  World.cell?_of_block (w := w) (a := ⟨b, o, none⟩) (h.block b hs hb)

theorem block_setCell {w : World} {M o : Nat} {cs : Array Value} {T : TypeId} (h : w.heap[M]? = some (.cells cs T (0, 0))) (u : Value) : (w.setCell ⟨M, o, none⟩ u).heap[M]? = some (.cells (cs.setIfInBounds o u) T (0, 0)) := by
  simp only [World.setCell, Array.getElem?_modify, if_pos, h]
  rfl

theorem OwnI.keeps {S : Nat → Prop} {B : Nat} {w w' : World} {v : Value} {l : List Int} (h : OwnI B w v l) (k : Keeps S w w') (hS : ∀ k, S k → k < B) : OwnI B w' v l := by
  obtain ⟨h1, h2⟩ := h
  refine ⟨h1, ?_⟩
  rcases h2 with h2 | ⟨g, cap, cur, e1, e2, e3, e4⟩
  · exact .inl h2
  · refine .inr ⟨g, cap, cur, e1, e2, ?_, e4⟩
    rw [k.block g (fun e => by have := hS g e; omega) (Array.getElem?_eq_some_iff.1 e3).1]
    exact e3
theorem OwnI.ints {B : Nat} {w : World} {a : Option Addr} {l : List Int} {c : Nat} (h : OwnI B w (.slice a l.length c) l) : Ints w.heap.size w a l := by
  obtain ⟨a', c', e, hi⟩ := h.shape
  cases e; exact hi
theorem Ints.keeps {S : Nat → Prop} {B : Nat} {w w' : World} {a : Option Addr} {l : List Int} (h : Ints B w a l) (k : Keeps S w w') (hB : B ≤ w.heap.size) (hS : ∀ k, S k → B ≤ k) : Ints B w' a l :=
  h.below (k.below hB hS) (Nat.le_refl _)

/-- a slice of integers in blocks from B on -/
def HiI (B : Nat) (w : World) (a : Option Addr) (l : List Int) : Prop :=
  ∀ i (h : i < l.length), ∃ b o, a = some ⟨b, o, none⟩ ∧ B ≤ b ∧ b < w.heap.size ∧ w.cell? ⟨b, o + i, none⟩ = some (.int .i64 l[i])
theorem HiI.ints {B : Nat} {w : World} {a : Option Addr} {l : List Int} (h : HiI B w a l) : Ints w.heap.size w a l := by
  intro i hi
  obtain ⟨b, o, e, _, h2, h3⟩ := h i hi
  exact ⟨b, o, e, h2, h3⟩
theorem HiI.keeps {S : Nat → Prop} {B : Nat} {w w' : World} {a : Option Addr} {l : List Int} (h : HiI B w a l) (k : Keeps S w w') (hS : ∀ k, S k → k < B) : HiI B w' a l := by
  intro i hi
  obtain ⟨b, o, e, h1, h2, h3⟩ := h i hi
  exact ⟨b, o, e, h1, Nat.lt_of_lt_of_le h2 k.size, by rw [k.cell (fun x => by have := hS _ x; omega) h2]; exact h3⟩
theorem HiI.mono {B C : Nat} {w : World} {a : Option Addr} {l : List Int} (h : HiI B w a l) (hC : C ≤ B) : HiI C w a l := by
  intro i hi
  obtain ⟨b, o, e, h1, h2⟩ := h i hi
  exact ⟨b, o, e, by omega, h2⟩
theorem HiI.nil (B : Nat) (w : World) (a : Option Addr) : HiI B w a [] := fun i hi => absurd hi (by simp)
theorem HiI.tail {B : Nat} {w : World} {b o : Nat} {x : Int} {t : List Int} (h : HiI B w (some ⟨b, o, none⟩) (x :: t)) : HiI B w (some ⟨b, o + 1, none⟩) t := by
  intro i hi
  obtain ⟨b', o', e, h0, h1, c1⟩ := h (i + 1) (by simp; omega)
  obtain ⟨rfl, rfl⟩ : b = b' ∧ o = o' := by simpa using e
  exact ⟨b, o + 1, rfl, h0, h1, by rw [show o + 1 + i = o + (i + 1) from by omega, c1]; rfl⟩
theorem OwnI.hi {B : Nat} {w : World} {a : Option Addr} {l : List Int} {n c : Nat} (h : OwnI B w (.slice a n c) l) : HiI B w a l := by
  obtain ⟨h1, h2⟩ := h
  rcases h2 with ⟨e, hn⟩ | ⟨g, cap, cur, e, hg, hh, hc, hm, hs, ht⟩
  · obtain rfl := List.length_eq_zero_iff.1 hn
    exact HiI.nil _ _ _
  · cases e
    intro i hi
    have hlt : g < w.heap.size := (Array.getElem?_eq_some_iff.1 hh).1
    refine ⟨g, 0, rfl, hg, hlt, ?_⟩
    have hcell : w.cell? ⟨g, 0 + i, none⟩ = (l.map (Value.int .i64))[i]? := by
      rw [← ht, List.getElem?_take_of_lt (by omega)]
      simp [World.cell?, hh]
    rw [hcell]; simp [hi]
end Go.Proofs.Ytclhmpknkinjcaa
