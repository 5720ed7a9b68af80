/-
  Small laws on worlds.
-/
import Derived.Test.YtclhmpknkinjcaaRep
namespace Go.Proofs.Ytclhmpknkinjcaa
open Go.RowKit

theorem at_end (w : World) (o : Obj) {n : Nat} (h : n = w.heap.size) : (w.alloc o).heap[n]? = some o := by subst h; exact heap_alloc_new _ _
theorem at_old {w : World} (o : Obj) {n : Nat} {p : Obj} (h : w.heap[n]? = some p) : (w.alloc o).heap[n]? = some p := by
  rw [Below.heap_alloc _ _ _ (Array.getElem?_eq_some_iff.1 h).1]; exact h
theorem cells_at {w : World} {M k : Nat} {cs : Array Value} {T : TypeId} {v : Value} (h : w.heap[M]? = some (.cells cs T (0, 0))) (hk : cs[k]? = some v) : w.cell? ⟨M, k, none⟩ = some v ∧ w.frozen? ⟨M, k, none⟩ = false := by
  simp [World.cell?, World.frozen?, h, hk]
theorem set_self {cs : Array Value} {k : Nat} {v : Value} (h : cs[k]? = some v) : cs.setIfInBounds k v = cs := by
  apply Array.ext
  · simp
  · intro i h1 h2
    rw [Array.getElem_setIfInBounds]
    split
    · subst_vars
      obtain ⟨_, e⟩ := Array.getElem?_eq_some_iff.1 h
      exact e.symm
    · rfl
end Go.Proofs.Ytclhmpknkinjcaa
