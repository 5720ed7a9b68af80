/-
  How the plain values lie in memory; small laws on worlds.
-/
import Derived.Test.YtdnkkdpcpbmbmaaModel
import Derived.Test.YtdnkkdpcpbmbmaaProg
import Derived.WalkKit
import Derived.WalkLawsBesides
import Derived.Lib.Hide
import Derived.Lib.QuietBelow
import Derived.BigQuiet
namespace Go.Proofs.Ytdnkkdpcpbmbmaa
open Go.RowKit Go.Sort

theorem ret_int {k : IntKind} {a b : Int} (h : a = b) : Ending.returned (.int k a) = Ending.returned (.int k b) := by rw [h]
theorem ret_bool {a b : Bool} (h : a = b) : Ending.returned (.bool a) = Ending.returned (.bool b) := by rw [h]

/-- a slice of pairs of integers below block B -/
def Pairs (B : Nat) (w : World) (a : Option Addr) (l : List (Int × Int)) : Prop :=
  ∀ i (h : i < l.length), ∃ b o, a = some ⟨b, o, none⟩ ∧ b < B ∧ w.cell? ⟨b, o + i * 2, none⟩ = some (.int .i64 (l[i]).1) ∧ w.cell? ⟨b, o + i * 2 + 1, none⟩ = some (.int .i64 (l[i]).2)

theorem Pairs.below {B C : Nat} {w w' : World} {a : Option Addr} {l : List (Int × Int)} (h : Pairs B w a l) (hb : Below C w w') (hBC : B ≤ C) : Pairs B w' a l := by
  intro i hi
  obtain ⟨b, o, rfl, hbB, h1, h2⟩ := h i hi
  exact ⟨b, o, rfl, hbB, (hb.cell (p := ⟨b, o + i * 2, none⟩) (by show b < C; omega)).trans h1, (hb.cell (p := ⟨b, o + i * 2 + 1, none⟩) (by show b < C; omega)).trans h2⟩

theorem Pairs.mono {B C : Nat} {w : World} {a : Option Addr} {l : List (Int × Int)} (h : Pairs B w a l) (hBC : B ≤ C) : Pairs C w a l := by
  intro i hi
  obtain ⟨b, o, rfl, hbB, h1⟩ := h i hi
  exact ⟨b, o, rfl, by omega, h1⟩

theorem Pairs.nil (B : Nat) (w : World) (a : Option Addr) : Pairs B w a [] := fun i hi => absurd hi (by simp)

/-- all old cells and marks read as before -/
theorem bcell {W w1 : World} (hb : Below W.heap.size W w1) : (∀ b o, b < W.heap.size → w1.cell? ⟨b, o, none⟩ = W.cell? ⟨b, o, none⟩) ∧ (∀ b o, b < W.heap.size → w1.frozen? ⟨b, o, none⟩ = W.frozen? ⟨b, o, none⟩) :=
  ⟨fun b o h => hb.cell (p := ⟨b, o, none⟩) h, fun b o h => hb.frozen (p := ⟨b, o, none⟩) h⟩

theorem bal (w : World) (o : Obj) : Below w.heap.size w (w.alloc o) := (Below.refl _ _).alloc (Nat.le_refl _) _
theorem bsz {w w' : World} {o : Obj} {n : Nat} (h : Below n (w.alloc o) w') : w.heap.size + 1 ≤ w'.heap.size := by have := h.size; simpa using this

/-- one block laid, then anything above it -/
theorem bover {w w' : World} {o : Obj} {n : Nat} (h : Below n (w.alloc o) w') (hn : w.heap.size ≤ n) : Below w.heap.size w w' := (bal w o).trans (h.mono hn)

/-- in every world of a region's class all old cells read as before -/
theorem bregrown {W w1 : World} (hb : Below W.heap.size W w1) : ∀ (d : Nat) (os : Array Obj) (b o : Nat), b < W.heap.size → (grow (redrawn w1 d) os).cell? ⟨b, o, none⟩ = W.cell? ⟨b, o, none⟩ :=
  fun d os b o h => (((below_regrown w1 d os).mono hb.size).cell (p := ⟨b, o, none⟩) h).trans (hb.cell (p := ⟨b, o, none⟩) h)

theorem bclass {W w1 : World} {n : Nat} (hb : Below n W w1) (h : n ≤ W.heap.size) (d : Nat) (os : Array Obj) : Below n W (grow (redrawn w1 d) os) :=
  hb.trans ((below_regrown w1 d os).mono (Nat.le_trans h hb.size))

abbrev stV (s : St) (a : Option Addr) (cap : Nat) : Value := .agg #[.int .i64 s.gen, .slice a s.regs.length cap, .int .i64 s.typ, .int .i64 s.holder, .bool s.stays]

/-- the state's list can be read -/
structure StR (w : World) (s : St) (a : Option Addr) : Prop where
  len : s.regs.length ≤ maxLen
  rep : Pairs w.heap.size w a s.regs

theorem StR.below {w w' : World} {s : St} {a : Option Addr} (h : StR w s a) (hb : Below w.heap.size w w') : StR w' s a :=
  ⟨h.len, (h.rep.below hb (Nat.le_refl _)).mono hb.size⟩
end Go.Proofs.Ytdnkkdpcpbmbmaa
