/-
  Arguments opened: a message.
-/
import Derived.Test.YtclhmpknkinjcaaActs
namespace Go.Proofs.Ytclhmpknkinjcaa
open Go.ChangeShapes Go.WideShapes Go.ChangeAt Go.RowKit Go.Deep

/-- a message -/
structure Ms where
  tt : Int
  at' : Int
  c : Cel
  tag : Int
abbrev Ms.v (m : Ms) : Value := .agg #[.int .i64 m.tt, .int .i64 m.at', .int .i64 m.c.e, .int .i64 m.c.n, .string m.c.d, .int .i64 m.tag]

section
variable {H : Type} {enc : TypeId × Value → H} {w : World} {base : Nat}
theorem trod_message {fuel : Nat} {cs : List Value} {x : DataW H × List MemPlace} (h : DataW.trod enc Try.prog w base (fun _ => true) true fuel 66 cs = some x) :
    ∃ m : Ms, cs = [.int .i64 m.tt, .int .i64 m.at', .int .i64 m.c.e, .int .i64 m.c.n, .string m.c.d, .int .i64 m.tag] := by
  obtain ⟨xs, n, _, hx, hcl, hxl, hf⟩ := DataW.trod_struct Try.underlying66 h
  have hC : Try.prog.cellsOf 66 = 6 := by kernel_rfl
  have hC3 : Try.prog.cellsOf 3 = 1 := by kernel_rfl
  have hCc : Try.prog.cellsOf 23 = 3 := by kernel_rfl
  rw [hC] at hcl
  obtain ⟨c0, cs0, rfl, hcl0⟩ := len_s hcl
  obtain ⟨c1, cs1, rfl, hcl1⟩ := len_s hcl0
  obtain ⟨c2, cs2, rfl, hcl2⟩ := len_s hcl1
  obtain ⟨c3, cs3, rfl, hcl3⟩ := len_s hcl2
  obtain ⟨c4, cs4, rfl, hcl4⟩ := len_s hcl3
  obtain ⟨c5, cs5, rfl, hcl5⟩ := len_s hcl4
  obtain rfl := List.length_eq_zero_iff.1 hcl5
  obtain ⟨y0, xs0, rfl, hxl0⟩ := len_s hxl
  obtain ⟨y1, xs1, rfl, hxl1⟩ := len_s hxl0
  obtain ⟨y2, xs2, rfl, hxl2⟩ := len_s hxl1
  obtain ⟨y3, xs3, rfl, hxl3⟩ := len_s hxl2
  obtain rfl := List.length_eq_zero_iff.1 hxl3
  have f0 := hf 0 _ rfl
  have f1 := hf 1 _ rfl
  have f2 := hf 2 _ rfl
  have f3 := hf 3 _ rfl
  simp only [List.getElem_toArray, List.getElem_cons_zero, List.getElem_cons_succ, hC3, hCc, List.drop_zero, List.drop_succ_cons, List.take_succ_cons, List.take_zero, List.getElem?_cons_zero, List.getElem?_cons_succ] at f0 f1 f2 f3
  obtain ⟨i0, e0, _, _⟩ := DataW.trod_int Try.underlying3 f0
  obtain ⟨i1, e1, _, _⟩ := DataW.trod_int Try.underlying3 f1
  obtain ⟨c, e2⟩ := trod_cell f2
  obtain ⟨i3, e3, _, _⟩ := DataW.trod_int Try.underlying3 f3
  unfold Cel.vs at e2
  simp only [List.cons.injEq, and_true] at e0 e1 e2 e3
  obtain ⟨rfl, rfl, rfl⟩ := e2
  subst e0 e1 e3
  exact ⟨⟨i0, i1, c, i3⟩, rfl⟩
set_option maxRecDepth 100000 in
theorem open_message {r : Reach} {b0 : Nat} {v : Value} {d : DataW H} {p : List MemPlace} (hv : Value.okWide Try.prog w r b0 66 v) (h : DataW.Trod enc Try.prog w base (fun _ => true) true 66 v d p) :
    ∃ m : Ms, v = m.v ∧ True := by
  obtain ⟨cs, rfl, hsz⟩ := okWide_struct Try.underlying66 hv
  obtain ⟨fuel, hf⟩ := h
  obtain ⟨m, hcs⟩ := trod_message hf
  obtain ⟨l⟩ := cs
  simp only [Value.cells] at hcs
  subst hcs
  exact ⟨m, rfl, trivial⟩
end
end Go.Proofs.Ytclhmpknkinjcaa
