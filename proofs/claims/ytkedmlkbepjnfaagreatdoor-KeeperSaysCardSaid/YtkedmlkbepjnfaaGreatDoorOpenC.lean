/-
  Arguments opened: a command.
-/
import Derived.Test.YtkedmlkbepjnfaaGreatDoorOpen
import Derived.Test.YtkedmlkbepjnfaaGreatDoorCmdV
namespace Go.Proofs.YtkedmlkbepjnfaaGreatDoor
open Go.ChangeShapes Go.WideShapes Go.ChangeAt Go.RowKit Go.Deep

section
variable {H : Type} {enc : TypeId × Value → H} {w : World} {base : Nat}

theorem len9 {α : Type} {l : List α} (h : l.length = 9) : ∃ a b c d e f g i j, l = [a, b, c, d, e, f, g, i, j] := by
  match l, h with
  | [a, b, c, d, e, f, g, i, j], _ => exact ⟨a, b, c, d, e, f, g, i, j, rfl⟩

theorem trod_command {fuel : Nat} {cs : List Value} {x : DataW H × List MemPlace} (h : DataW.trod enc Tryz.prog w base (fun _ => true) true fuel 40 cs = some x) :
    ∃ c : Cmd, cs = [.int .i64 c.op, .int .i64 c.who, .int .i64 c.key, .int .i64 c.new, .int .i64 c.typ, .int .i64 c.at', .bool c.stays, .string c.data, .string c.want] ∧ (c.data.size ≤ maxLen ∧ c.want.size ≤ maxLen) := by
  obtain ⟨xs, n, _, hx, hcl, hxl, hf⟩ := DataW.trod_struct Tryz.underlying40 h
  have hC : Tryz.prog.cellsOf 40 = 9 := by kernel_rfl
  have hC3 : Tryz.prog.cellsOf 3 = 1 := by kernel_rfl
  have hC9 : Tryz.prog.cellsOf 9 = 1 := by kernel_rfl
  have hC4 : Tryz.prog.cellsOf 4 = 1 := by kernel_rfl
  rw [hC] at hcl
  obtain ⟨c0, c1, c2, c3, c4, c5, c6, c7, c8, rfl⟩ := len9 hcl
  obtain ⟨y0, y1, y2, y3, y4, y5, y6, y7, y8, rfl⟩ := len9 hxl
  have f0 := hf 0 _ rfl
  have f1 := hf 1 _ rfl
  have f2 := hf 2 _ rfl
  have f3 := hf 3 _ rfl
  have f4 := hf 4 _ rfl
  have f5 := hf 5 _ rfl
  have f6 := hf 6 _ rfl
  have f7 := hf 7 _ rfl
  have f8 := hf 8 _ rfl
  simp only [List.getElem_toArray, List.getElem_cons_zero, List.getElem_cons_succ, hC3, hC9, hC4, List.drop_zero, List.drop_succ_cons, List.take_succ_cons, List.take_zero, List.getElem?_cons_zero, List.getElem?_cons_succ] at f0 f1 f2 f3 f4 f5 f6 f7 f8
  obtain ⟨i0, e0, _, _⟩ := DataW.trod_int Tryz.underlying3 f0
  obtain ⟨i1, e1, _, _⟩ := DataW.trod_int Tryz.underlying3 f1
  obtain ⟨i2, e2, _, _⟩ := DataW.trod_int Tryz.underlying3 f2
  obtain ⟨i3, e3, _, _⟩ := DataW.trod_int Tryz.underlying3 f3
  obtain ⟨i4, e4, _, _⟩ := DataW.trod_int Tryz.underlying3 f4
  obtain ⟨i5, e5, _, _⟩ := DataW.trod_int Tryz.underlying3 f5
  obtain ⟨b6, e6, _⟩ := DataW.trod_bool Tryz.underlying4 f6
  obtain ⟨s7, e7, _, h7⟩ := DataW.trod_string Tryz.underlying9 f7
  obtain ⟨s8, e8, _, h8⟩ := DataW.trod_string Tryz.underlying9 f8
  simp only [List.cons.injEq, and_true] at e0 e1 e2 e3 e4 e5 e6 e7 e8
  subst e0 e1 e2 e3 e4 e5 e6 e7 e8
  exact ⟨⟨i0, i1, i2, i3, i4, i5, b6, s7, s8⟩, rfl, h7, h8⟩

set_option maxRecDepth 100000 in
theorem open_command {r : Reach} {b0 : Nat} {v : Value} {d : DataW H} {p : List MemPlace} (hv : Value.okWide Tryz.prog w r b0 40 v) (h : DataW.Trod enc Tryz.prog w base (fun _ => true) true 40 v d p) :
    ∃ c : Cmd, v = cmdV c ∧ (c.data.size ≤ maxLen ∧ c.want.size ≤ maxLen) := by
  obtain ⟨cs, rfl, hsz⟩ := okWide_struct Tryz.underlying40 hv
  obtain ⟨fuel, hf⟩ := h
  obtain ⟨c, hcs, hs⟩ := trod_command hf
  obtain ⟨l⟩ := cs
  simp only [Value.cells] at hcs
  subst hcs
  exact ⟨c, rfl, hs⟩
end
end Go.Proofs.YtkedmlkbepjnfaaGreatDoor
