/-
  Arguments opened: a state.
-/
import Derived.Test.YtamjmejkffhmeaaGreatDoorRow
namespace Go.Proofs.YtamjmejkffhmeaaGreatDoor
open Go.ChangeShapes Go.WideShapes Go.ChangeAt Go.RowKit Go.Deep

section
variable {H : Type} {enc : TypeId × Value → H} {w : World} {base : Nat}

theorem pairs_list (w : World) (a : Addr) : ∀ n, (∀ i, i < n → ∃ u v : Int, w.cell? (a.add (i * 2)) = some (.int .i64 u) ∧ w.cell? (a.add (i * 2 + 1)) = some (.int .i64 v)) →
    ∃ l : List (Int × Int), l.length = n ∧ ∀ i (h : i < l.length), w.cell? (a.add (i * 2)) = some (.int .i64 (l[i]).1) ∧ w.cell? (a.add (i * 2 + 1)) = some (.int .i64 (l[i]).2)
  | 0, _ => ⟨[], rfl, fun i h => absurd h (by simp)⟩
  | k + 1, key => by
    obtain ⟨l, hl, hl2⟩ := pairs_list w a k (fun i hi => key i (by omega))
    obtain ⟨u, v, hu, hv⟩ := key k (by omega)
    refine ⟨l ++ [(u, v)], by simp [hl], fun i h => ?_⟩
    by_cases hik : i < l.length
    · rw [List.getElem_append_left hik]; exact hl2 i hik
    · have : i = k := by simp at h; omega
      subst this
      rw [List.getElem_append_right (by omega)]
      simp [hl, hu, hv]

/-- the cells of a state, wherever they lie -/
theorem trod_state {fuel : Nat} {cs : List Value} {x : DataW H × List MemPlace} (h : DataW.trod enc Tryz.prog w base (fun _ => true) true fuel 24 cs = some x) :
    ∃ (s : St) (a : Option Addr) (cap : Nat), cs = [.int .i64 s.gen, .slice a s.regs.length cap, .int .i64 s.typ, .int .i64 s.holder, .bool s.stays] ∧ StR w s a := by
  obtain ⟨xs, n, _, hx, hcl, hxl, hf⟩ := DataW.trod_struct Tryz.underlying24 h
  have hC : Tryz.prog.cellsOf 24 = 5 := by kernel_rfl
  have hC3 : Tryz.prog.cellsOf 3 = 1 := by kernel_rfl
  have hC22 : Tryz.prog.cellsOf 22 = 1 := by kernel_rfl
  have hC4 : Tryz.prog.cellsOf 4 = 1 := by kernel_rfl
  rw [hC] at hcl
  obtain ⟨c0, c1, c2, c3, c4, rfl⟩ := len5 hcl
  obtain ⟨y0, y1, y2, y3, y4, rfl⟩ := len5 hxl
  have f0 := hf 0 _ rfl
  have f1 := hf 1 _ rfl
  have f2 := hf 2 _ rfl
  have f3 := hf 3 _ rfl
  have f4 := hf 4 _ rfl
  simp only [List.getElem_toArray, List.getElem_cons_zero, List.getElem_cons_succ, hC3, hC22, hC4, List.drop_zero, List.drop_succ_cons, List.take_succ_cons, List.take_zero, List.getElem?_cons_zero, List.getElem?_cons_succ] at f0 f1 f2 f3 f4
  obtain ⟨i0, e0, _, w0⟩ := DataW.trod_int Tryz.underlying3 f0
  obtain ⟨i2, e2, _, w2⟩ := DataW.trod_int Tryz.underlying3 f2
  obtain ⟨i3, e3, _, w3⟩ := DataW.trod_int Tryz.underlying3 f3
  obtain ⟨b4, e4, _⟩ := DataW.trod_bool Tryz.underlying4 f4
  simp only [List.cons.injEq, and_true] at e0 e2 e3 e4
  subst e0 e2 e3 e4
  rcases open_slice Tryz.underlying22 f1 with ⟨hcs, _⟩ | ⟨a', len', cap', m, n', D, Pl, hcs, hbs, hl, hm, hmm, hx1, hi⟩
  · simp only [List.cons.injEq, and_true] at hcs
    subst hcs
    exact ⟨⟨i0, [], i2, i3, b4⟩, none, 0, rfl, ⟨by simp, Pairs.nil _ _ _⟩⟩
  · simp only [List.cons.injEq, and_true] at hcs
    subst hcs
    have hC27 : Tryz.prog.cellsOf 48 = 2 := by kernel_rfl
    have hml : len' ≤ m := by rw [hmm]; split <;> omega
    have key : ∀ i, i < len' → ∃ u v : Int, w.cell? (a'.add (i * 2)) = some (.int .i64 u) ∧ w.cell? (a'.add (i * 2 + 1)) = some (.int .i64 v) := by
      intro i hi'
      obtain ⟨cs', hc, ht'⟩ := hi i (by omega)
      rw [hC27] at hc
      obtain ⟨ys, n2, _, _, hyl, hys, hg⟩ := DataW.trod_struct Tryz.underlying48 ht'
      rw [hC27] at hyl
      obtain ⟨d0, d1, rfl⟩ := len2 hyl
      obtain ⟨z0, z1, rfl⟩ := len2 hys
      have g0 := hg 0 _ rfl
      have g1 := hg 1 _ rfl
      simp only [List.getElem_toArray, List.getElem_cons_zero, List.getElem_cons_succ, hC3, List.drop_zero, List.drop_succ_cons, List.take_succ_cons, List.take_zero, List.getElem?_cons_zero, List.getElem?_cons_succ] at g0 g1
      obtain ⟨u, eu, _, _⟩ := DataW.trod_int Tryz.underlying3 g0
      obtain ⟨v, ev, _, _⟩ := DataW.trod_int Tryz.underlying3 g1
      simp only [List.cons.injEq, and_true] at eu ev
      subst eu ev
      obtain ⟨_, _, hat⟩ := World.cells?_some hc
      refine ⟨u, v, ?_, ?_⟩
      · have := hat 0 (by omega); simpa [Go.Deep.add_add] using this
      · have := hat 1 (by omega); simpa [Go.Deep.add_add] using this
    have hall := pairs_list w a' len' key
    obtain ⟨l, hll, hl2⟩ := hall
    subst hll
    refine ⟨⟨i0, l, i2, i3, b4⟩, some a', cap', rfl, ⟨by show l.length ≤ maxLen; omega, fun i (hi' : i < l.length) => ?_⟩⟩
    obtain ⟨c1, c2⟩ := hl2 i hi'
    obtain ⟨ab, ao, asp⟩ := a'
    have has : asp = none := by
      cases asp with
      | none => rfl
      | some z =>
        exfalso
        have c0 := (hl2 0 (by omega)).1
        simp [Addr.add, World.cell?] at c0
        split at c0 <;> simp at c0
    subst has
    refine ⟨ab, ao, rfl, block_lt_of_cell (hl2 0 (by omega)).1, ?_, ?_⟩
    · cases i with
      | zero => simpa [Addr.add] using c1
      | succ j => simpa [Addr.add] using c1
    · simpa [Addr.add, Nat.add_assoc] using c2

set_option maxRecDepth 100000 in
theorem open_state {r : Reach} {b0 : Nat} {v : Value} {d : DataW H} {p : List MemPlace} (hv : Value.okWide Tryz.prog w r b0 24 v) (h : DataW.Trod enc Tryz.prog w base (fun _ => true) true 24 v d p) :
    ∃ (s : St) (a : Option Addr) (cap : Nat), v = stV s a cap ∧ StR w s a := by
  obtain ⟨cs, rfl, hsz⟩ := okWide_struct Tryz.underlying24 hv
  obtain ⟨fuel, hf⟩ := h
  obtain ⟨s, a, cap, hcs, hs⟩ := trod_state hf
  obtain ⟨l⟩ := cs
  simp only [Value.cells] at hcs
  subst hcs
  exact ⟨s, a, cap, rfl, hs⟩
end
end Go.Proofs.YtamjmejkffhmeaaGreatDoor
