/-
  Arguments opened: acts.
-/
import Derived.Test.YtkedmlkbepjnfaaGreatDoorOpenC
import Derived.Test.YtkedmlkbepjnfaaGreatDoorOpen
import Derived.Deep.MidRow
namespace Go.Proofs.YtkedmlkbepjnfaaGreatDoor
open Go.ChangeShapes Go.WideShapes Go.ChangeAt Go.RowKit Go.Deep

/-- an act -/
structure Ac where
  kind : ByteArray
  a : Int
  b : Int
  s : ByteArray
  k : Int
  st : St
  ra : Option Addr
  rc : Nat
  cm : Cmd
def Ac.cells (x : Ac) : List Value := [.string x.kind, .int .i64 x.a, .int .i64 x.b, .string x.s, .int .u64 x.k, .int .i64 x.st.gen, .slice x.ra x.st.regs.length x.rc, .int .i64 x.st.typ, .int .i64 x.st.holder, .bool x.st.stays,
  .int .i64 x.cm.op, .int .i64 x.cm.who, .int .i64 x.cm.key, .int .i64 x.cm.new, .int .i64 x.cm.typ, .int .i64 x.cm.at', .bool x.cm.stays, .string x.cm.data, .string x.cm.want]
def inI (x : Int) : Prop := -9223372036854775808 ≤ x ∧ x ≤ 9223372036854775807
structure AcOk (w : World) (x : Ac) : Prop where
  str : StR w x.st x.ra
  ki : x.kind.size ≤ maxLen
  si : x.s.size ≤ maxLen
  ai : inI x.a
  bi : inI x.b
  ku : 0 ≤ x.k ∧ x.k ≤ 18446744073709551615
  ci : x.cm.data.size ≤ maxLen ∧ x.cm.want.size ≤ maxLen
/-- acts in a slice -/
def ActsAt (w : World) (a : Option Addr) (l : List Ac) : Prop :=
  ∀ i (h : i < l.length), AcOk w l[i] ∧ ∃ b o, a = some ⟨b, o, none⟩ ∧ b < w.heap.size ∧ w.rangeAt b (o + i * 19) l[i].cells

section
variable {H : Type} {enc : TypeId × Value → H} {w : World} {base : Nat}

theorem len_s {α : Type} {l : List α} {n : Nat} (h : l.length = n + 1) : ∃ a t, l = a :: t ∧ t.length = n := by
  cases l with
  | nil => cases h
  | cons a t => exact ⟨a, t, rfl, by simpa using h⟩
theorem wf_i64 {n : Int} (h : (Lit.int .i64 n).wf = true) : inI n := by
  simp only [Lit.wf, Bool.and_eq_true, decide_eq_true_eq] at h
  exact h
theorem wf_u64 {n : Int} (h : (Lit.int .u64 n).wf = true) : 0 ≤ n ∧ n ≤ 18446744073709551615 := by
  simp only [Lit.wf, Bool.and_eq_true, decide_eq_true_eq] at h
  exact h
theorem trod_act {fuel : Nat} {cs : List Value} {x : DataW H × List MemPlace} (h : DataW.trod enc Tryz.prog w base (fun _ => true) true fuel 42 cs = some x) :
    ∃ y : Ac, cs = y.cells ∧ AcOk w y := by
  obtain ⟨xs, n, _, hx, hcl, hxl, hf⟩ := DataW.trod_struct Tryz.underlying42 h
  have hC : Tryz.prog.cellsOf 42 = 19 := by kernel_rfl
  have hC3 : Tryz.prog.cellsOf 3 = 1 := by kernel_rfl
  have hC9 : Tryz.prog.cellsOf 9 = 1 := by kernel_rfl
  have hCu : Tryz.prog.cellsOf 38 = 1 := by kernel_rfl
  have hCs : Tryz.prog.cellsOf 37 = 5 := by kernel_rfl
  have hCc : Tryz.prog.cellsOf 40 = 9 := by kernel_rfl
  rw [hC] at hcl
  obtain ⟨c0, cs0, rfl, hcl0⟩ := len_s hcl
  obtain ⟨c1, cs1, rfl, hcl1⟩ := len_s hcl0
  obtain ⟨c2, cs2, rfl, hcl2⟩ := len_s hcl1
  obtain ⟨c3, cs3, rfl, hcl3⟩ := len_s hcl2
  obtain ⟨c4, cs4, rfl, hcl4⟩ := len_s hcl3
  obtain ⟨c5, cs5, rfl, hcl5⟩ := len_s hcl4
  obtain ⟨c6, cs6, rfl, hcl6⟩ := len_s hcl5
  obtain ⟨c7, cs7, rfl, hcl7⟩ := len_s hcl6
  obtain ⟨c8, cs8, rfl, hcl8⟩ := len_s hcl7
  obtain ⟨c9, cs9, rfl, hcl9⟩ := len_s hcl8
  obtain ⟨c10, cs10, rfl, hcl10⟩ := len_s hcl9
  obtain ⟨c11, cs11, rfl, hcl11⟩ := len_s hcl10
  obtain ⟨c12, cs12, rfl, hcl12⟩ := len_s hcl11
  obtain ⟨c13, cs13, rfl, hcl13⟩ := len_s hcl12
  obtain ⟨c14, cs14, rfl, hcl14⟩ := len_s hcl13
  obtain ⟨c15, cs15, rfl, hcl15⟩ := len_s hcl14
  obtain ⟨c16, cs16, rfl, hcl16⟩ := len_s hcl15
  obtain ⟨c17, cs17, rfl, hcl17⟩ := len_s hcl16
  obtain ⟨c18, cs18, rfl, hcl18⟩ := len_s hcl17
  obtain rfl := List.length_eq_zero_iff.1 hcl18
  obtain ⟨y0, xs0, rfl, hxl0⟩ := len_s hxl
  obtain ⟨y1, xs1, rfl, hxl1⟩ := len_s hxl0
  obtain ⟨y2, xs2, rfl, hxl2⟩ := len_s hxl1
  obtain ⟨y3, xs3, rfl, hxl3⟩ := len_s hxl2
  obtain ⟨y4, xs4, rfl, hxl4⟩ := len_s hxl3
  obtain ⟨y5, xs5, rfl, hxl5⟩ := len_s hxl4
  obtain ⟨y6, xs6, rfl, hxl6⟩ := len_s hxl5
  obtain rfl := List.length_eq_zero_iff.1 hxl6
  have f0 := hf 0 _ rfl
  have f1 := hf 1 _ rfl
  have f2 := hf 2 _ rfl
  have f3 := hf 3 _ rfl
  have f4 := hf 4 _ rfl
  have f5 := hf 5 _ rfl
  have f6 := hf 6 _ rfl
  simp only [List.getElem_toArray, List.getElem_cons_zero, List.getElem_cons_succ, hC3, hC9, hCu, hCs, hCc, List.drop_zero, List.drop_succ_cons, List.take_succ_cons, List.take_zero, List.getElem?_cons_zero, List.getElem?_cons_succ] at f0 f1 f2 f3 f4 f5 f6
  obtain ⟨s0, e0, _, h0⟩ := DataW.trod_string Tryz.underlying9 f0
  obtain ⟨i1, e1, _, h1⟩ := DataW.trod_int Tryz.underlying3 f1
  obtain ⟨i2, e2, _, h2⟩ := DataW.trod_int Tryz.underlying3 f2
  obtain ⟨s3, e3, _, h3⟩ := DataW.trod_string Tryz.underlying9 f3
  obtain ⟨i4, e4, _, h4⟩ := DataW.trod_int Tryz.underlying38 f4
  obtain ⟨st, ra, rc, e5, h5⟩ := trod_state f5
  obtain ⟨cm, e6, h6⟩ := trod_command f6
  simp only [List.cons.injEq, and_true] at e0 e1 e2 e3 e4 e5 e6
  obtain ⟨rfl, rfl, rfl, rfl, rfl⟩ := e5
  obtain ⟨rfl, rfl, rfl, rfl, rfl, rfl, rfl, rfl, rfl⟩ := e6
  subst e0 e1 e2 e3 e4
  exact ⟨⟨s0, i1, i2, s3, i4, st, ra, rc, cm⟩, rfl, h5, h0, h3, wf_i64 h1, wf_i64 h2, wf_u64 h4, h6⟩

theorem acts_list (w : World) (a : Addr) : ∀ n, (∀ i, i < n → ∃ y : Ac, AcOk w y ∧ ∀ j v, y.cells[j]? = some v → w.cell? ((a.add (i * 19)).add j) = some v) →
    ∃ l : List Ac, l.length = n ∧ ∀ i (h : i < l.length), AcOk w l[i] ∧ ∀ j v, l[i].cells[j]? = some v → w.cell? ((a.add (i * 19)).add j) = some v
  | 0, _ => ⟨[], rfl, fun i h => absurd h (by simp)⟩
  | k + 1, key => by
    obtain ⟨l, hl, hl2⟩ := acts_list w a k (fun i hi => key i (by omega))
    obtain ⟨r, hr⟩ := key k (by omega)
    refine ⟨l ++ [r], by simp [hl], fun i h => ?_⟩
    by_cases hik : i < l.length
    · rw [List.getElem_append_left hik]; exact hl2 i hik
    · have : i = k := by simp at h; omega
      subst this
      rw [List.getElem_append_right (by omega)]
      simp only [hl, Nat.sub_self, List.getElem_cons_zero]
      exact hr

set_option maxRecDepth 100000 in
theorem open_acts {r : Reach} {b0 : Nat} {v : Value} {d : DataW H} {p : List MemPlace} (hv : Value.okWide Tryz.prog w r b0 22 v) (h : DataW.Trod enc Tryz.prog w base (fun _ => true) true 22 v d p) :
    ∃ (l : List Ac) (a : Option Addr) (cap : Nat), v = .slice a l.length cap ∧ (l.length ≤ maxLen ∧ ActsAt w a l) := by
  obtain ⟨a0, len, cap, rfl⟩ := okWide_slice Tryz.underlying22 hv
  obtain ⟨fuel, hf⟩ := h
  rcases open_slice Tryz.underlying22 hf with ⟨hcs, _⟩ | ⟨a', len', cap', m, n', D, Pl, hcs, hbs, hl, hm, hmm, hx1, hi⟩
  · have : Value.slice a0 len cap = .slice none 0 0 := by simpa [Value.cells] using hcs
    cases this
    exact ⟨[], none, 0, rfl, by simp, fun i hi => absurd hi (by simp)⟩
  · have : Value.slice a0 len cap = .slice (some a') len' cap' := by simpa [Value.cells] using hcs
    cases this
    have hC26 : Tryz.prog.cellsOf 42 = 19 := by kernel_rfl
    have hml : len ≤ m := by rw [hmm]; split <;> omega
    have key : ∀ i, i < len → ∃ y : Ac, AcOk w y ∧ ∀ j v, y.cells[j]? = some v → w.cell? ((a'.add (i * 19)).add j) = some v := by
      intro i hi'
      obtain ⟨cs', hc, ht'⟩ := hi i (by omega)
      rw [hC26] at hc
      obtain ⟨q, hcs', hq⟩ := trod_act ht'
      obtain ⟨_, hlen, hat⟩ := World.cells?_some hc
      refine ⟨q, hq, fun j v hj => ?_⟩
      subst hcs'
      have hlt : j < q.cells.length := (List.getElem?_eq_some_iff.1 hj).1
      have := hat j (by first | omega | (rw [← hlen]; omega))
      rw [this, hj]
    obtain ⟨l, hll, hl2⟩ := acts_list w a' len key
    subst hll
    refine ⟨l, some a', cap, rfl, by omega, fun i (hi' : i < l.length) => ?_⟩
    obtain ⟨h8, hc⟩ := hl2 i hi'
    refine ⟨h8, ?_⟩
    obtain ⟨ab, ao, asp⟩ := a'
    have has : asp = none := by
      cases asp with
      | none => rfl
      | some z =>
        exfalso
        have c0 := (hl2 0 (by omega)).2 0 (.string l[0].kind) (by simp [Ac.cells])
        simp [Addr.add, World.cell?] at c0
        split at c0 <;> simp at c0
    subst has
    have hbk := block_lt_of_cell ((hl2 0 (by omega)).2 0 (.string l[0].kind) (by simp [Ac.cells]))
    refine ⟨ab, ao, rfl, by simpa [Addr.add] using hbk, fun j v hj => ?_⟩
    have := hc j v hj
    rw [Addr.add_mid, Addr.add_mid] at this
    exact this
end
end Go.Proofs.YtkedmlkbepjnfaaGreatDoor
