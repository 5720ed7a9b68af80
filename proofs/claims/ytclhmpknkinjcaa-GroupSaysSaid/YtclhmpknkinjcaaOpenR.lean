/-
  Arguments opened: cells, replicas, slices of replicas.
-/
import Derived.Test.YtclhmpknkinjcaaOpen
import Derived.Test.YtclhmpknkinjcaaAdmit
namespace Go.Proofs.Ytclhmpknkinjcaa
open Go.ChangeShapes Go.WideShapes Go.ChangeAt Go.RowKit Go.Deep

/-- replicas in a slice -/
def RpsAt (w : World) (a : Option Addr) (l : List Rp) : Prop :=
  ∀ i (h : i < l.length), l[i].cells.length = 8 ∧ ∃ b o, a = some ⟨b, o, none⟩ ∧ b < w.heap.size ∧ w.rangeAt b (o + i * 25) l[i].arr.toList

theorem flat_of : ∀ (n : Nat) (cs : List Value), cs.length = n * 3 → (∀ i, i < n → ∃ c : Cel, (cs.drop (i * 3)).take 3 = c.vs) → ∃ l : List Cel, l.length = n ∧ cs = flat l
  | 0, cs, h, _ => ⟨[], rfl, List.length_eq_zero_iff.1 (by omega)⟩
  | n + 1, cs, h, hi => by
    obtain ⟨c, hc⟩ := hi 0 (by omega)
    obtain ⟨l, hl, hcs⟩ := flat_of n (cs.drop 3) (by simp; omega) (fun i h => by
      obtain ⟨c, hc⟩ := hi (i + 1) (by omega)
      exact ⟨c, by rw [List.drop_drop, show 3 + i * 3 = (i + 1) * 3 from by omega]; exact hc⟩)
    refine ⟨c :: l, by simp [hl], ?_⟩
    have e : flat (c :: l) = c.vs ++ flat l := rfl
    rw [e, ← hc, ← hcs]
    simp

section
variable {H : Type} {enc : TypeId × Value → H} {w : World} {base : Nat}

theorem trod_cell {fuel : Nat} {cs : List Value} {x : DataW H × List MemPlace} (h : DataW.trod enc Try.prog w base (fun _ => true) true fuel 23 cs = some x) : ∃ c : Cel, cs = c.vs := by
  obtain ⟨xs, n, _, hx, hcl, hxl, hf⟩ := DataW.trod_struct Try.underlying23 h
  have hC : Try.prog.cellsOf 23 = 3 := by kernel_rfl
  have hC3 : Try.prog.cellsOf 3 = 1 := by kernel_rfl
  have hC9 : Try.prog.cellsOf 9 = 1 := by kernel_rfl
  rw [hC] at hcl
  obtain ⟨c0, c1, c2, rfl⟩ := len3 hcl
  obtain ⟨y0, y1, y2, rfl⟩ := len3 hxl
  have f0 := hf 0 _ rfl
  have f1 := hf 1 _ rfl
  have f2 := hf 2 _ rfl
  simp only [List.getElem_toArray, List.getElem_cons_zero, List.getElem_cons_succ, hC3, hC9, List.drop_zero, List.drop_succ_cons, List.take_succ_cons, List.take_zero, List.getElem?_cons_zero, List.getElem?_cons_succ] at f0 f1 f2
  obtain ⟨i0, e0, _, _⟩ := DataW.trod_int Try.underlying3 f0
  obtain ⟨i1, e1, _, _⟩ := DataW.trod_int Try.underlying3 f1
  obtain ⟨s2, e2, _, _⟩ := DataW.trod_string Try.underlying9 f2
  simp only [List.cons.injEq, and_true] at e0 e1 e2
  subst e0 e1 e2
  exact ⟨⟨i0, i1, s2⟩, rfl⟩
theorem trod_rp {fuel : Nat} {cs : List Value} {x : DataW H × List MemPlace} (h : DataW.trod enc Try.prog w base (fun _ => true) true fuel 26 cs = some x) : ∃ r : Rp, r.cells.length = 8 ∧ cs = r.arr.toList := by
  obtain ⟨xs, n, _, hx, hcl, hxl, hf⟩ := DataW.trod_struct Try.underlying26 h
  have hC : Try.prog.cellsOf 26 = 25 := by kernel_rfl
  have hC3 : Try.prog.cellsOf 3 = 1 := by kernel_rfl
  have hC24 : Try.prog.cellsOf 24 = 24 := by kernel_rfl
  have hC23 : Try.prog.cellsOf 23 = 3 := by kernel_rfl
  rw [hC] at hcl
  obtain ⟨y0, y1, rfl⟩ := len2 hxl
  have f0 := hf 0 _ rfl
  have f1 := hf 1 _ rfl
  simp only [List.getElem_toArray, List.getElem_cons_zero, List.getElem_cons_succ, hC3, hC24, List.drop_zero, List.getElem?_cons_zero, List.getElem?_cons_succ] at f0 f1
  obtain ⟨i0, e0, _, _⟩ := DataW.trod_int Try.underlying3 f0
  obtain ⟨zs, m, _, _, hl, _, hg⟩ := DataW.trod_array Try.underlying24 f1
  rw [hC24] at hl
  obtain ⟨l, hl8, hcs⟩ := flat_of 8 ((cs.drop 1).take 24) hl (fun i hi => by
    have := hg i hi
    rw [hC23] at this
    cases hz : zs[i]? with
    | none => rw [hz] at this; simp at hz; omega
    | some z => rw [hz] at this; exact trod_cell this)
  refine ⟨⟨i0, l⟩, hl8, ?_⟩
  unfold Rp.arr
  show cs = .int .i64 i0 :: flat l
  rw [← hcs, List.take_of_length_le (by simp; omega)]
  cases cs with
  | nil => simp at hcl
  | cons c cs =>
    simp at e0
    subst e0
    rfl

set_option maxRecDepth 100000 in
theorem open_cell {r : Reach} {b0 : Nat} {v : Value} {d : DataW H} {p : List MemPlace} (hv : Value.okWide Try.prog w r b0 23 v) (h : DataW.Trod enc Try.prog w base (fun _ => true) true 23 v d p) :
    ∃ c : Cel, v = c.v ∧ True := by
  obtain ⟨cs, rfl, hsz⟩ := okWide_struct Try.underlying23 hv
  obtain ⟨fuel, hf⟩ := h
  obtain ⟨c, hcs⟩ := trod_cell hf
  obtain ⟨l⟩ := cs
  simp only [Value.cells] at hcs
  subst hcs
  exact ⟨c, rfl, trivial⟩
set_option maxRecDepth 100000 in
theorem open_replica {r : Reach} {b0 : Nat} {v : Value} {d : DataW H} {p : List MemPlace} (hv : Value.okWide Try.prog w r b0 26 v) (h : DataW.Trod enc Try.prog w base (fun _ => true) true 26 v d p) :
    ∃ q : Rp, v = .agg q.arr ∧ q.cells.length = 8 := by
  obtain ⟨cs, rfl, hsz⟩ := okWide_struct Try.underlying26 hv
  obtain ⟨fuel, hf⟩ := h
  obtain ⟨q, hq, hcs⟩ := trod_rp hf
  refine ⟨q, ?_, hq⟩
  simp only [Value.cells] at hcs
  rw [Array.toList_inj.1 hcs]

theorem rps_list (w : World) (a : Addr) : ∀ n, (∀ i, i < n → ∃ r : Rp, r.cells.length = 8 ∧ ∀ j v, r.arr.toList[j]? = some v → w.cell? ((a.add (i * 25)).add j) = some v) →
    ∃ l : List Rp, l.length = n ∧ ∀ i (h : i < l.length), l[i].cells.length = 8 ∧ ∀ j v, l[i].arr.toList[j]? = some v → w.cell? ((a.add (i * 25)).add j) = some v
  | 0, _ => ⟨[], rfl, fun i h => absurd h (by simp)⟩
  | k + 1, key => by
    obtain ⟨l, hl, hl2⟩ := rps_list w a k (fun i hi => key i (by omega))
    obtain ⟨r, hr⟩ := key k (by omega)
    refine ⟨l ++ [r], by simp [hl], fun i h => ?_⟩
    by_cases hik : i < l.length
    · rw [List.getElem_append_left hik]; exact hl2 i hik
    · have : i = k := by simp at h; omega
      subst this
      rw [List.getElem_append_right (by omega)]
      simp only [hl, Nat.sub_self, List.getElem_cons_zero]
      exact hr

set_option maxRecDepth 100000 in
theorem open_replicas {r : Reach} {b0 : Nat} {v : Value} {d : DataW H} {p : List MemPlace} (hv : Value.okWide Try.prog w r b0 27 v) (h : DataW.Trod enc Try.prog w base (fun _ => true) true 27 v d p) :
    ∃ (l : List Rp) (a : Option Addr) (cap : Nat), v = .slice a l.length cap ∧ (l.length ≤ maxLen ∧ RpsAt w a l) := by
  obtain ⟨a0, len, cap, rfl⟩ := okWide_slice Try.underlying27 hv
  obtain ⟨fuel, hf⟩ := h
  rcases open_slice Try.underlying27 hf with ⟨hcs, _⟩ | ⟨a', len', cap', m, n', D, Pl, hcs, hbs, hl, hm, hmm, hx1, hi⟩
  · have : Value.slice a0 len cap = .slice none 0 0 := by simpa [Value.cells] using hcs
    cases this
    exact ⟨[], none, 0, rfl, by simp, fun i hi => absurd hi (by simp)⟩
  · have : Value.slice a0 len cap = .slice (some a') len' cap' := by simpa [Value.cells] using hcs
    cases this
    have hC26 : Try.prog.cellsOf 26 = 25 := by kernel_rfl
    have hml : len ≤ m := by rw [hmm]; split <;> omega
    have key : ∀ i, i < len → ∃ r : Rp, r.cells.length = 8 ∧ ∀ j v, r.arr.toList[j]? = some v → w.cell? ((a'.add (i * 25)).add j) = some v := by
      intro i hi'
      obtain ⟨cs', hc, ht'⟩ := hi i (by omega)
      rw [hC26] at hc
      obtain ⟨q, hq, hcs'⟩ := trod_rp ht'
      obtain ⟨_, hlen, hat⟩ := World.cells?_some hc
      refine ⟨q, hq, fun j v hj => ?_⟩
      subst hcs'
      have hlt : j < q.arr.toList.length := (List.getElem?_eq_some_iff.1 hj).1
      have := hat j (by first | omega | (rw [← hlen]; omega))
      rw [this, hj]
    obtain ⟨l, hll, hl2⟩ := rps_list w a' len key
    subst hll
    refine ⟨l, some a', cap, rfl, by omega, fun i (hi' : i < l.length) => ?_⟩
    obtain ⟨h8, hc⟩ := hl2 i hi'
    refine ⟨h8, ?_⟩
    obtain ⟨ab, ao, asp⟩ := a'
    have has : asp = none := by
      cases asp with
      | none => rfl
      | some z =>
        exfalso
        have c0 := (hl2 0 (by omega)).2 0 (.int .i64 l[0].floor) (by simp [Rp.arr])
        simp [Addr.add, World.cell?] at c0
        split at c0 <;> simp at c0
    subst has
    have hbk := block_lt_of_cell ((hl2 0 (by omega)).2 0 (.int .i64 l[0].floor) (by simp [Rp.arr]))
    refine ⟨ab, ao, rfl, by simpa [Addr.add] using hbk, fun j v hj => ?_⟩
    have := hc j v hj
    rw [Addr.add_mid, Addr.add_mid] at this
    exact this
end
end Go.Proofs.Ytclhmpknkinjcaa
