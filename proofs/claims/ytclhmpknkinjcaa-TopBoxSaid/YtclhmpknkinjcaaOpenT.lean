/-
  Arguments opened: a slice of tells.
-/
import Derived.Test.YtclhmpknkinjcaaOpen
namespace Go.Proofs.Ytclhmpknkinjcaa
open Go.ChangeShapes Go.WideShapes Go.ChangeAt Go.RowKit Go.Deep

section
variable {H : Type} {enc : TypeId × Value → H} {w : World} {base : Nat}

set_option maxRecDepth 100000 in
theorem open_tells {r : Reach} {b0 : Nat} {v : Value} {d : DataW H} {p : List MemPlace} (hv : Value.okWide Try.prog w r b0 102 v) (h : DataW.Trod enc Try.prog w base (fun _ => true) true 102 v d p) :
    ∃ (l : List (Int × Int)) (a : Option Addr) (cap : Nat), v = .slice a l.length cap ∧ (l.length ≤ maxLen ∧ Pairs w.heap.size w a l) := by
  obtain ⟨a0, len, cap, rfl⟩ := okWide_slice Try.underlying102 hv
  obtain ⟨fuel, hf⟩ := h
  have hC3 : Try.prog.cellsOf 3 = 1 := by kernel_rfl
  rcases open_slice Try.underlying102 hf with ⟨hcs, _⟩ | ⟨a', len', cap', m, n', D, Pl, hcs, hbs, hl, hm, hmm, hx1, hi⟩
  · have : Value.slice a0 len cap = .slice none 0 0 := by simpa [Value.cells] using hcs
    cases this
    exact ⟨[], none, 0, rfl, by simp, Pairs.nil _ _ _⟩
  · have : Value.slice a0 len cap = .slice (some a') len' cap' := by simpa [Value.cells] using hcs
    cases this
    have hC27 : Try.prog.cellsOf 121 = 2 := by kernel_rfl
    have hml : len ≤ m := by rw [hmm]; split <;> omega
    have key : ∀ i, i < len → ∃ u v : Int, w.cell? (a'.add (i * 2)) = some (.int .i64 u) ∧ w.cell? (a'.add (i * 2 + 1)) = some (.int .i64 v) := by
      intro i hi'
      obtain ⟨cs', hc, ht'⟩ := hi i (by omega)
      rw [hC27] at hc
      obtain ⟨ys, n2, _, _, hyl, hys, hg⟩ := DataW.trod_struct Try.underlying121 ht'
      rw [hC27] at hyl
      obtain ⟨d0, d1, rfl⟩ := len2 hyl
      obtain ⟨z0, z1, rfl⟩ := len2 hys
      have g0 := hg 0 _ rfl
      have g1 := hg 1 _ rfl
      simp only [List.getElem_toArray, List.getElem_cons_zero, List.getElem_cons_succ, hC3, List.drop_zero, List.drop_succ_cons, List.take_succ_cons, List.take_zero, List.getElem?_cons_zero, List.getElem?_cons_succ] at g0 g1
      obtain ⟨u, eu, _, _⟩ := DataW.trod_int Try.underlying3 g0
      obtain ⟨v, ev, _, _⟩ := DataW.trod_int Try.underlying3 g1
      simp only [List.cons.injEq, and_true] at eu ev
      subst eu ev
      obtain ⟨_, _, hat⟩ := World.cells?_some hc
      refine ⟨u, v, ?_, ?_⟩
      · have := hat 0 (by omega); simpa [Go.Deep.add_add] using this
      · have := hat 1 (by omega); simpa [Go.Deep.add_add] using this
    obtain ⟨l, hll, hl2⟩ := pairs_list w a' len key
    subst hll
    refine ⟨l, some a', cap, rfl, by omega, fun i (hi' : i < l.length) => ?_⟩
    obtain ⟨c1, c2⟩ := hl2 i hi'
    obtain ⟨ab, ao, asp⟩ := a'
    have has : asp = none := by
      cases asp with
      | none => rfl
      | some z =>
        exfalso
        have c0 := (hl2 0 (by omega)).1
        simp [Addr.add, World.cell?] at c0
        split at c0 <;> simp at c0
    subst has
    refine ⟨ab, ao, rfl, block_lt_of_cell (hl2 0 (by omega)).1, ?_, ?_⟩
    · cases i with
      | zero => simpa [Addr.add] using c1
      | succ j => simpa [Addr.add] using c1
    · simpa [Addr.add, Nat.add_assoc] using c2
end
end Go.Proofs.Ytclhmpknkinjcaa
