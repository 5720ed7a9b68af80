/-
  How the plain values lie in memory; small laws on worlds.
-/
import Derived.Test.YtamjmejkffhmeaaGreatDoorModel
import Derived.Test.YtamjmejkffhmeaaGreatDoorProg
import Derived.WalkKit
import Derived.WalkLawsBesides
import Derived.Lib.Hide
import Derived.Lib.QuietBelow
import Derived.BigQuiet
namespace Go.Proofs.YtamjmejkffhmeaaGreatDoor
open Go.RowKit Go.Sort

theorem ret_int {k : IntKind} {a b : Int} (h : a = b) : Ending.returned (.int k a) = Ending.returned (.int k b) := by rw [h]
theorem ret_bool {a b : Bool} (h : a = b) : Ending.returned (.bool a) = Ending.returned (.bool b) := by rw [h]

/-- a slice of pairs of integers below block B -/
def Pairs (B : Nat) (w : World) (a : Option Addr) (l : List (Int × Int)) : Prop :=
  ∀ i (h : i < l.length), ∃ b o, a = some ⟨b, o, none⟩ ∧ b < B ∧ w.cell? ⟨b, o + i * 2, none⟩ = some (.int .i64 (l[i]).1) ∧ w.cell? ⟨b, o + i * 2 + 1, none⟩ = some (.int .i64 (l[i]).2)

theorem Pairs.below {B C : Nat} {w w' : World} {a : Option Addr} {l : List (Int × Int)} (h : Pairs B w a l) (hb : Below C w w') (hBC : B ≤ C) : Pairs B w' a l := by
  intro i hi
  obtain ⟨b, o, rfl, hbB, h1, h2⟩ := h i hi
  exact ⟨b, o, rfl, hbB, (hb.cell (p := ⟨b, o + i * 2, none⟩) (by show b < C; omega)).trans h1, (hb.cell (p := ⟨b, o + i * 2 + 1, none⟩) (by show b < C; omega)).trans h2⟩

theorem Pairs.mono {B C : Nat} {w : World} {a : Option Addr} {l : List (Int × Int)} (h : Pairs B w a l) (hBC : B ≤ C) : Pairs C w a l := by
  intro i hi
  obtain ⟨b, o, rfl, hbB, h1⟩ := h i hi
  exact ⟨b, o, rfl, by omega, h1⟩

theorem Pairs.nil (B : Nat) (w : World) (a : Option Addr) : Pairs B w a [] := fun i hi => absurd hi (by simp)

/-- all old cells and marks read as before -/
theorem bcell {W w1 : World} (hb : Below W.heap.size W w1) : (∀ b o, b < W.heap.size → w1.cell? ⟨b, o, none⟩ = W.cell? ⟨b, o, none⟩) ∧ (∀ b o, b < W.heap.size → w1.frozen? ⟨b, o, none⟩ = W.frozen? ⟨b, o, none⟩) :=
  ⟨fun b o h => hb.cell (p := ⟨b, o, none⟩) h, fun b o h => hb.frozen (p := ⟨b, o, none⟩) h⟩

theorem bal (w : World) (o : Obj) : Below w.heap.size w (w.alloc o) := (Below.refl _ _).alloc (Nat.le_refl _) _
theorem bsz {w w' : World} {o : Obj} {n : Nat} (h : Below n (w.alloc o) w') : w.heap.size + 1 ≤ w'.heap.size := by have := h.size; simpa using this

/-- one block laid, then anything above it -/
theorem bover {w w' : World} {o : Obj} {n : Nat} (h : Below n (w.alloc o) w') (hn : w.heap.size ≤ n) : Below w.heap.size w w' := (bal w o).trans (h.mono hn)

/-- in every world of a region's class all old cells read as before -/
theorem bregrown {W w1 : World} (hb : Below W.heap.size W w1) : ∀ (d : Nat) (os : Array Obj) (b o : Nat), b < W.heap.size → (grow (redrawn w1 d) os).cell? ⟨b, o, none⟩ = W.cell? ⟨b, o, none⟩ :=
  fun d os b o h => (((below_regrown w1 d os).mono hb.size).cell (p := ⟨b, o, none⟩) h).trans (hb.cell (p := ⟨b, o, none⟩) h)

theorem bclass {W w1 : World} {n : Nat} (hb : Below n W w1) (h : n ≤ W.heap.size) (d : Nat) (os : Array Obj) : Below n W (grow (redrawn w1 d) os) :=
  hb.trans ((below_regrown w1 d os).mono (Nat.le_trans h hb.size))

theorem heap3 (w : World) (A B C : Obj) : (((w.alloc A).alloc B).alloc C).heap[w.heap.size]? = some A ∧ (((w.alloc A).alloc B).alloc C).heap[w.heap.size + 1]? = some B ∧ (((w.alloc A).alloc B).alloc C).heap[w.heap.size + 1 + 1]? = some C := by
  have h1 : (w.alloc A).heap[w.heap.size]? = some A := heap_alloc_new _ _
  have h2 : ((w.alloc A).alloc B).heap[w.heap.size + 1]? = some B := by have := heap_alloc_new (w.alloc A) B; simpa using this
  have h3 : (((w.alloc A).alloc B).alloc C).heap[w.heap.size + 1 + 1]? = some C := by have := heap_alloc_new ((w.alloc A).alloc B) C; simpa using this
  refine ⟨?_, ?_, h3⟩
  · rw [Below.heap_alloc _ _ _ (by simp; omega), Below.heap_alloc _ _ _ (by simp)]; exact h1
  · rw [Below.heap_alloc _ _ _ (by simp)]; exact h2

/-- five cells of an old block, in a later world -/
theorem box5 {W w1 : World} {n : Nat} (hb : Below n W w1) {b : Nat} (hbn : b < n) {v0 v1 v2 v3 v4 : Value} {T : TypeId} (h : W.heap[b]? = some (.cells #[v0, v1, v2, v3, v4] T (0, 0))) :
    (w1.cell? ⟨b, 0, none⟩ = some v0 ∧ w1.cell? ⟨b, 1, none⟩ = some v1 ∧ w1.cell? ⟨b, 2, none⟩ = some v2 ∧ w1.cell? ⟨b, 3, none⟩ = some v3 ∧ w1.cell? ⟨b, 4, none⟩ = some v4) ∧
    (w1.frozen? ⟨b, 0, none⟩ = false ∧ w1.frozen? ⟨b, 1, none⟩ = false ∧ w1.frozen? ⟨b, 2, none⟩ = false ∧ w1.frozen? ⟨b, 3, none⟩ = false ∧ w1.frozen? ⟨b, 4, none⟩ = false) := by
  have h1 : w1.heap[b]? = some (.cells #[v0, v1, v2, v3, v4] T (0, 0)) := (hb.block b hbn).trans h
  simp [World.cell?, World.frozen?, h1]

abbrev stV (s : St) (a : Option Addr) (cap : Nat) : Value := .agg #[.int .i64 s.gen, .slice a s.regs.length cap, .int .i64 s.typ, .int .i64 s.holder, .bool s.stays]

/-- the state's list can be read -/
structure StR (w : World) (s : St) (a : Option Addr) : Prop where
  len : s.regs.length ≤ maxLen
  rep : Pairs w.heap.size w a s.regs

theorem StR.below {w w' : World} {s : St} {a : Option Addr} (h : StR w s a) (hb : Below w.heap.size w w') : StR w' s a :=
  ⟨h.len, (h.rep.below hb (Nat.le_refl _)).mono hb.size⟩
end Go.Proofs.YtamjmejkffhmeaaGreatDoor
