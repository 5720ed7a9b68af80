/-
  Replicas as plain values: how they lie in memory, equality.
-/
import Derived.Test.YtclhmpknkinjcaaCel
import Derived.Deep.MidRow
namespace Go.Proofs.Ytclhmpknkinjcaa
open Go.RowKit

theorem under_int : Try.prog.underlying 3 = some (.int .i64) ∧ Try.prog.underlying 9 = some .string := by constructor <;> kernel_rfl
theorem ba_beq (a b : ByteArray) : (a.toList == b.toList) = decide (a = b) := by
  rw [Bool.eq_iff_iff, beq_iff_eq, decide_eq_true_eq, ByteArray.toList_eq, ByteArray.toList_eq]
  constructor
  · intro h; cases a with | mk a => cases b with | mk b => simp at h; rw [h]
  · rintro rfl; rfl

theorem eq_cell (d : Nat) (a b : Cel) (w : World) : (Op.equalIn (d + 2) 23 a.v b.v).run Try.prog w = .ok (decide (a = b)) w := by
  have := eq_struct (d + 1) 23 #[.int .i64 a.e, .int .i64 a.n, .string a.d] #[.int .i64 b.e, .int .i64 b.n, .string b.d] w fields_cell.1 fields_cell.2 _ fields_cell_list
    (fun o => if o = 0 then a.e == b.e else if o = 1 then a.n == b.n else a.d.toList == b.d.toList) ?_
  · rw [this]
    refine congrArg (fun b => Result.ok b w) ?_
    rw [Bool.eq_iff_iff]
    simp [ba_beq]
    constructor
    · rintro ⟨h1, h2, h3⟩; cases a; cases b; simp_all
    · rintro rfl; exact ⟨rfl, rfl, rfl⟩
  · intro s hs
    simp only [List.mem_cons, List.mem_nil_iff, or_false] at hs
    rcases hs with rfl | rfl | rfl
    · exact ⟨by decide, _, _, run_part_plain w plain_int.1 rfl, run_part_plain w plain_int.1 rfl, run_equalIn_int w d _ _ _ _ _ under_int.1⟩
    · exact ⟨by decide, _, _, run_part_plain w plain_int.1 rfl, run_part_plain w plain_int.1 rfl, run_equalIn_int w d _ _ _ _ _ under_int.1⟩
    · exact ⟨by decide, _, _, run_part_plain w plain_int.2 rfl, run_part_plain w plain_int.2 rfl, run_equalIn_string w d _ _ _ under_int.2⟩

theorem part_agg {P : Program} {T : TypeId} {cs : Array Value} {off n : Nat} {d : TypeDesc} (w : World) (hu : P.underlying T = some d) (hd : d.isRow = true) (hi : (P.info? T).map (·.size) = some n) :
    (part T cs off).run P w = .ok (.agg (cs.extract off (off + n))) w := by
  have hagg : (isAgg T).run P w = .ok true w := by
    unfold isAgg
    rw [Sem.run_bind, run_underlying hu w]
    cases d <;> simp_all
  cases hq : P.info? T with
  | none => simp [hq] at hi
  | some i =>
    have hs : i.size = n := by simpa [hq] using hi
    unfold part
    simp [Sem.run_bind, hagg, sizeOf, typeInfo, hq, hs]

theorem flat_extract : ∀ (l : List Cel) (i : Nat) (h : i < l.length), ((flat l).drop (i * 3)).take 3 = l[i].vs
  | c :: l, 0, _ => by simp [flat, Cel.vs]
  | c :: l, i + 1, h => by
    have := flat_extract l i (by simpa using h)
    have e : flat (c :: l) = .int .i64 c.e :: .int .i64 c.n :: .string c.d :: flat l := rfl
    rw [e, show (i + 1) * 3 = i * 3 + 1 + 1 + 1 from by omega]
    simpa using this
theorem flat_part {l : List Cel} {i : Nat} (h : i < l.length) : (flat l).toArray.extract (i * 3) (i * 3 + 3) = #[.int .i64 l[i].e, .int .i64 l[i].n, .string l[i].d] := by
  apply Array.toList_inj.1
  simp only [Array.toList_extract, List.extract_eq_take_drop]
  rw [show i * 3 + 3 - i * 3 = 3 from by omega]
  exact flat_extract l i h

theorem cell_row : Try.prog.underlying 23 = some (.struct (Try.prog.fieldsOf 23)) ∧ (Try.prog.info? 23).map (·.size) = some 3 := by constructor <;> kernel_rfl
theorem cells_row : Try.prog.underlying 24 = some (.array 8 23) ∧ (Try.prog.info? 24).map (·.size) = some 24 := by constructor <;> kernel_rfl
theorem rp_row : Try.prog.underlying 26 = some (.struct (Try.prog.fieldsOf 26)) ∧ (Try.prog.info? 26).map (·.size) = some 25 ∧ Try.prog.stoodInHeld 26 = false ∧
    ((Try.prog.fieldsOf 26).toList.map fun f => (f.name, f.type, f.offset)) = [("Floor", 3, 0), ("Cells", 24, 1)] := by
  refine ⟨?_, ?_, ?_, ?_⟩ <;> kernel_rfl

theorem list_all_eq {l m : List Cel} (hl : l.length = 8) (hm : m.length = 8) : ((List.range 8).all fun i => decide (l[i]? = m[i]?)) = decide (l = m) := by
  rw [Bool.eq_iff_iff, List.all_eq_true, decide_eq_true_eq]
  constructor
  · intro h
    apply List.ext_getElem?
    intro i
    by_cases hi : i < 8
    · simpa using h i (List.mem_range.2 hi)
    · rw [List.getElem?_eq_none (by omega), List.getElem?_eq_none (by omega)]
  · rintro rfl i _; simp

theorem eq_cells (d : Nat) (l m : List Cel) (hl : l.length = 8) (hm : m.length = 8) (w : World) :
    (Op.equalIn (d + 3) 24 (.agg (flat l).toArray) (.agg (flat m).toArray)).run Try.prog w = .ok (decide (l = m)) w := by
  rw [← list_all_eq hl hm]
  refine eq_array (d + 2) 24 23 8 3 _ _ w cells_row.1 cell_row.2 (fun i => if h : i < l.length then l[i].v else undef) (fun i => if h : i < m.length then m[i].v else undef) _ ?_
  intro i hi
  have h1 : i < l.length := by omega
  have h2 : i < m.length := by omega
  rw [part_agg w cell_row.1 rfl cell_row.2, part_agg w cell_row.1 rfl cell_row.2, flat_part h1, flat_part h2]
  simp only [dif_pos h1, dif_pos h2]
  refine ⟨trivial, trivial, ?_⟩
  rw [eq_cell d l[i] m[i] w]
  refine congrArg (fun b => Result.ok b w) ?_
  rw [List.getElem?_eq_getElem h1, List.getElem?_eq_getElem h2]
  simp

/-- a replica -/
structure Rp where
  floor : Int
  cells : List Cel
def Rp.arr (r : Rp) : Array Value := (.int .i64 r.floor :: flat r.cells).toArray
def Rp.zero : Rp := ⟨0, List.replicate 8 Cel.zero⟩
theorem Rp.size {r : Rp} (h : r.cells.length = 8) : r.arr.size = 25 := by
  unfold Rp.arr; simp [flat_length, h]
theorem Rp.one (r : Rp) : r.arr.all (·.oneCell') = true := by
  unfold Rp.arr
  apply all_oneCell_toArray
  intro v hv
  rcases List.mem_cons.1 hv with rfl | h
  · rfl
  · exact flat_one _ v h
theorem Rp.at0 (r : Rp) : r.arr[0]? = some (.int .i64 r.floor) := by simp [Rp.arr]
theorem Rp.at (r : Rp) {k : Nat} (h : k < r.cells.length) : r.arr[1 + k * 3]? = some (.int .i64 r.cells[k].e) ∧ r.arr[1 + k * 3 + 1]? = some (.int .i64 r.cells[k].n) ∧ r.arr[1 + k * 3 + 2]? = some (.string r.cells[k].d) := by
  obtain ⟨h1, h2, h3⟩ := flat_at r.cells k h
  unfold Rp.arr
  rw [show 1 + k * 3 = k * 3 + 1 from by omega, show k * 3 + 1 + 2 = k * 3 + 2 + 1 from by omega]
  refine ⟨?_, ?_, ?_⟩ <;> simpa
theorem Rp.set (r : Rp) {k : Nat} (c : Cel) (h : k < r.cells.length) :
    ((r.arr.setIfInBounds (1 + k * 3) (.int .i64 c.e)).setIfInBounds (1 + k * 3 + 1) (.int .i64 c.n)).setIfInBounds (1 + k * 3 + 2) (.string c.d) = (Rp.mk r.floor (r.cells.set k c)).arr := by
  unfold Rp.arr
  apply Array.toList_inj.1
  simp only [Array.toList_setIfInBounds]
  rw [show 1 + k * 3 = k * 3 + 1 from by omega, show k * 3 + 1 + 2 = k * 3 + 2 + 1 from by omega, List.set_cons_succ, List.set_cons_succ, List.set_cons_succ, flat_set r.cells k c h]
theorem Rp.setFloor (r : Rp) (f : Int) : r.arr.setIfInBounds 0 (.int .i64 f) = (Rp.mk f r.cells).arr := by simp [Rp.arr]
theorem Rp.ext' {r q : Rp} (h : r.floor = q.floor ∧ r.cells = q.cells) : r = q := by cases r; cases q; simp_all

def eqRp (r q : Rp) : Bool := decide (r.floor = q.floor ∧ r.cells = q.cells)
theorem eq_rp (d : Nat) (r q : Rp) (hr : r.cells.length = 8) (hq : q.cells.length = 8) (w : World) :
    (Op.equalIn (d + 4) 26 (.agg r.arr) (.agg q.arr)).run Try.prog w = .ok (eqRp r q) w := by
  have hx : ∀ r : Rp, r.cells.length = 8 → r.arr.extract 1 (1 + 24) = (flat r.cells).toArray := by
    intro r hr
    apply Array.toList_inj.1
    unfold Rp.arr
    simp only [Array.toList_extract, List.extract_eq_take_drop, List.drop_succ_cons, List.drop_zero]
    exact List.take_of_length_le (by rw [flat_length, hr]; omega)
  have := eq_struct (d + 3) 26 r.arr q.arr w rp_row.1 rp_row.2.2.1 _ rp_row.2.2.2
    (fun o => if o = 0 then r.floor == q.floor else decide (r.cells = q.cells)) ?_
  · rw [this]
    refine congrArg (fun b => Result.ok b w) ?_
    unfold eqRp
    rw [Bool.eq_iff_iff]
    simp
  · intro s hs
    simp only [List.mem_cons, List.mem_nil_iff, or_false] at hs
    rcases hs with rfl | rfl
    · exact ⟨by decide, _, _, run_part_plain w plain_int.1 r.at0, run_part_plain w plain_int.1 q.at0, run_equalIn_int w (d + 2) _ _ _ _ _ under_int.1⟩
    · refine ⟨by decide, _, _, part_agg w cells_row.1 rfl cells_row.2, part_agg w cells_row.1 rfl cells_row.2, ?_⟩
      rw [hx r hr, hx q hq]
      exact eq_cells d r.cells q.cells hr hq w

/-- '==' and '!=' as the walk meets them -/
theorem eql_rp (r q : Rp) (hr : r.cells.length = 8) (hq : q.cells.length = 8) (w : World) : (binOp .eql 26 (.agg r.arr) (.agg q.arr)).run Try.prog w = .ok (.bool (eqRp r q)) w := by
  rw [run_eql_struct, eq_rp 9996 r q hr hq]; rfl
theorem neq_rp (r q : Rp) (hr : r.cells.length = 8) (hq : q.cells.length = 8) (w : World) : (binOp .neq 26 (.agg r.arr) (.agg q.arr)).run Try.prog w = .ok (.bool (!eqRp r q)) w := by
  rw [run_neq_struct, eq_rp 9996 r q hr hq]; rfl
theorem eql_cell (a b : Cel) (w : World) : (binOp .eql 23 a.v b.v).run Try.prog w = .ok (.bool (decide (a = b))) w := by
  rw [run_eql_struct, eq_cell 9998 a b]; rfl
theorem neq_cell (a b : Cel) (w : World) : (binOp .neq 23 a.v b.v).run Try.prog w = .ok (.bool (!decide (a = b))) w := by
  rw [run_neq_struct, eq_cell 9998 a b]; rfl
end Go.Proofs.Ytclhmpknkinjcaa
