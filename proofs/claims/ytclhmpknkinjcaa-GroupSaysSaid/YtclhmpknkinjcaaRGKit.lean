/-
  What the walk of GroupSays keeps: two groups alike, an act, and the group as it was.
-/
import Derived.Test.YtclhmpknkinjcaaRGSame
import Derived.Test.YtclhmpknkinjcaaSame
import Derived.Deep.CutBlock
namespace Go.Proofs.Ytclhmpknkinjcaa
open Go.RowKit Go.Sort

theorem Gp.putAll_u (k : Nat) (c : Cel) : ∀ (l : List Int) (g : Gp), (g.putAll k c l).u = g.u
  | [], _ => rfl
  | x :: l, g => (Gp.putAll_u k c l (g.put1 k c x)).trans rfl
theorem Gp.read_u (g : Gp) (e : Int) (k : Nat) : (g.read e k).u = g.u := by
  unfold Gp.read; split
  · exact Gp.putAll_u _ _ _ _
  · rfl
theorem Gp.fence_u (g : Gp) (e : Int) : (g.fence e).u = g.u := by
  unfold Gp.fence; split
  · exact g.fenceTo_u e 3
  · rfl
theorem Gp.sync_u (g : Gp) (e : Int) (i : Nat) : (g.sync e i).u = g.u := by unfold Gp.sync; split <;> rfl
theorem Gp.deliver_u (g : Gp) (i k : Nat) (c : Cel) : (g.deliver i k c).u = g.u := by unfold Gp.deliver; split <;> rfl

structure GM (w : World) (G M : Nat) (h k : Gp) (wx : World) : Prop where
  below : Below w.heap.size w wx
  ok : h.ok
  okM : k.ok
  hG : wx.heap[G]? = some (.cells h.arr 40 (0, 0))
  hM : wx.heap[M]? = some (.cells k.arr 55 (0, 0))
  lo : w.heap.size ≤ G
  loM : w.heap.size ≤ M
  ne : G ≠ M
section
variable {w wx w' : World} {G M : Nat} {h k h' k' : Gp}
theorem GM.lt (f : GM w G M h k wx) : G < wx.heap.size := (Array.getElem?_eq_some_iff.1 f.hG).1
theorem GM.ltM (f : GM w G M h k wx) : M < wx.heap.size := (Array.getElem?_eq_some_iff.1 f.hM).1
theorem GM.over (f : GM w G M h k wx) (b : Below wx.heap.size wx w') : GM w G M h k w' :=
  ⟨f.below.trans (b.mono f.below.size), f.ok, f.okM, row_over f.hG b, row_over f.hM b, f.lo, f.loM, f.ne⟩
theorem GM.put (f : GM w G M h k wx) (ok : h'.ok) : GM w G M h' k (wx.setRow G h'.arr) := by
  have kp := (Keeps.refl (· = G) wx).setRow (g := G) rfl h'.arr
  exact ⟨f.below.trans (kp.below f.below.size (fun m hm => by have := f.lo; omega)), ok, f.okM, setRow_heap _ _ _ _ _ _ f.hG, (kp.block _ (Ne.symm f.ne) f.ltM).trans f.hM, f.lo, f.loM, f.ne⟩
theorem GM.pg (f : GM w G M h k wx) (p : PG wx M k' w') : GM w G M h k' w' :=
  ⟨f.below.trans (p.keeps.below f.below.size (fun m hm => by have := f.loM; omega)), f.ok, p.ok, (p.keeps.block _ f.ne f.lt).trans f.hG, p.hG, f.lo, f.loM, f.ne⟩
theorem GM.setU (f : GM w G M h k wx) (i : Nat) (b : Bool) : GM w G M (h.setU i b) k (wx.setCell ⟨G, 75 + i, none⟩ (.bool b)) := by
  have kp := (Keeps.refl (· = G) wx).setCell (p := ⟨G, 75 + i, none⟩) rfl (.bool b)
  exact ⟨f.below.trans (kp.below f.below.size (fun m hm => by have := f.lo; omega)), f.ok.setU i b, f.okM, gp_setU f.hG f.ok b, (kp.block _ (Ne.symm f.ne) f.ltM).trans f.hM, f.lo, f.loM, f.ne⟩
theorem GM.setUM (f : GM w G M h k wx) (i : Nat) (b : Bool) : GM w G M h (k.setU i b) (wx.setCell ⟨M, 75 + i, none⟩ (.bool b)) := by
  have kp := (Keeps.refl (· = M) wx).setCell (p := ⟨M, 75 + i, none⟩) rfl (.bool b)
  exact ⟨f.below.trans (kp.below f.below.size (fun m hm => by have := f.loM; omega)), f.ok, f.okM.setU i b, (kp.block _ f.ne f.lt).trans f.hG, gp_setU f.hM f.okM b, f.lo, f.loM, f.ne⟩
end
/-- .. with an act, and what was, in blocks of their own -/
structure GA (w : World) (G M V W : Nat) (x : Ac) (o h k : Gp) (wx : World) : Prop where
  gm : GM w G M h k wx
  hV : wx.heap[V]? = some (.cells x.cells.toArray 51 (0, 0))
  hW : wx.heap[W]? = some (.cells o.arr 40 (0, 0))
  vg : V ≠ G
  vm : V ≠ M
  wg : W ≠ G
  wm : W ≠ M
section
variable {w wx w' : World} {G M V W : Nat} {x : Ac} {o h k h' k' : Gp}
theorem GA.ltV (f : GA w G M V W x o h k wx) : V < wx.heap.size := (Array.getElem?_eq_some_iff.1 f.hV).1
theorem GA.ltW (f : GA w G M V W x o h k wx) : W < wx.heap.size := (Array.getElem?_eq_some_iff.1 f.hW).1
theorem GA.over (f : GA w G M V W x o h k wx) (b : Below wx.heap.size wx w') : GA w G M V W x o h k w' :=
  ⟨f.gm.over b, row_over f.hV b, row_over f.hW b, f.vg, f.vm, f.wg, f.wm⟩
theorem GA.put (f : GA w G M V W x o h k wx) (ok : h'.ok) : GA w G M V W x o h' k (wx.setRow G h'.arr) := by
  have kp := (Keeps.refl (· = G) wx).setRow (g := G) rfl h'.arr
  exact ⟨f.gm.put ok, (kp.block _ f.vg f.ltV).trans f.hV, (kp.block _ f.wg f.ltW).trans f.hW, f.vg, f.vm, f.wg, f.wm⟩
theorem GA.pg (f : GA w G M V W x o h k wx) (p : PG wx M k' w') : GA w G M V W x o h k' w' :=
  ⟨f.gm.pg p, (p.keeps.block _ f.vm f.ltV).trans f.hV, (p.keeps.block _ f.wm f.ltW).trans f.hW, f.vg, f.vm, f.wg, f.wm⟩
theorem GA.setU (f : GA w G M V W x o h k wx) (i : Nat) (b : Bool) : GA w G M V W x o (h.setU i b) k (wx.setCell ⟨G, 75 + i, none⟩ (.bool b)) := by
  have kp := (Keeps.refl (· = G) wx).setCell (p := ⟨G, 75 + i, none⟩) rfl (.bool b)
  exact ⟨f.gm.setU i b, (kp.block _ f.vg f.ltV).trans f.hV, (kp.block _ f.wg f.ltW).trans f.hW, f.vg, f.vm, f.wg, f.wm⟩
theorem GA.setUM (f : GA w G M V W x o h k wx) (i : Nat) (b : Bool) : GA w G M V W x o h (k.setU i b) (wx.setCell ⟨M, 75 + i, none⟩ (.bool b)) := by
  have kp := (Keeps.refl (· = M) wx).setCell (p := ⟨M, 75 + i, none⟩) rfl (.bool b)
  exact ⟨f.gm.setUM i b, (kp.block _ f.vm f.ltV).trans f.hV, (kp.block _ f.wm f.ltW).trans f.hW, f.vg, f.vm, f.wg, f.wm⟩
end

theorem eqg_ups : Try.prog.eqGuardType Try.prog.depth 38 = false := by kernel_rfl
theorem ups_row : Try.prog.underlying 38 = some (.array 3 4) ∧ (Try.prog.info? 38).map (·.size) = some 3 := by constructor <;> kernel_rfl
def upsA (l : List Bool) : Array Value := (l.map Value.bool).toArray
theorem neq_ups3 (a b c : Bool) (w : World) : (binOp .neq 38 (.agg #[.bool a, .bool b, .bool c]) (.agg #[.bool a, .bool b, .bool c])).run Try.prog w = .ok (.bool false) w := by
  cases a <;> cases b <;> cases c <;> kernel_rfl
theorem neq_ups (l : List Bool) (h : l.length = 3) (w : World) : (binOp .neq 38 (.agg (upsA l)) (.agg (upsA l))).run Try.prog w = .ok (.bool false) w := by
  match l, h with
  | [a, b, c], _ => exact neq_ups3 a b c w
theorem gp_rangeU {w : World} {N : Nat} {g : Gp} {T : TypeId} (h : w.heap[N]? = some (.cells g.arr T (0, 0))) (hg : g.ok) : w.rangeAt N 75 (upsA g.u).toList := fun j v hv => by
  have hj : j < g.u.length := by
    have := (List.getElem?_eq_some_iff.1 hv).1
    simpa [upsA] using this
  rw [cell_of_row w N (75 + j) g.arr T (0, 0) h, Gp.atU hg hj]
  simpa [upsA, hj] using hv
section
variable {P : Program} {ops : Array Oper} {rest : List Oper} {o : Oper} {a : Act} {w : World} {Q : Exit → Act → World → Prop}
theorem bin_g2 (op : BinOp) (t u : TypeId) (x y : Operand) (ho : o.op = .binOp op t x y u)
    (h : Region.wanted o (yielded ops a.tmps) = true ∧ ∃ (xs ys : Array Value) (v : Value), a.eval x = .agg xs ∧ a.eval y = .agg ys ∧ P.eqGuardType P.depth t = false ∧ (∀ w, (binOp op t (.agg xs) (.agg ys)).run P w = .ok v w) ∧ wpList P ops Q rest (a.put o.dst v) w) : wpList P ops Q (o :: rest) a w := by
  obtain ⟨hw, xs, ys, v, h1, h2, h3, h4, h5⟩ := h
  unfold wpList
  rw [if_pos hw]
  refine .inl ?_
  unfold Oper.wp execOp
  simp only [ho, h1, h2, Sem.run_bind, Sem.run_pure, Result.andThen_ok, run_eqGuard_agg _ op t x y xs ys h3, h4]
  exact h5
theorem ld_mid_g1 (ty : TypeId) (x : Operand) (ho : o.op = .load ty x)
    (h : Region.wanted o (yielded ops a.tmps) = true ∧ ∃ (b off : Nat) (cs : Array Value) (d : TypeDesc), a.eval x = .pointer (some ⟨b, off, none⟩) ∧ w.rangeAt b off cs.toList ∧ P.underlying ty = some d ∧ d.isRow = true ∧ (P.info? ty).map (·.size) = some cs.size ∧ wpList P ops Q rest (a.put o.dst (.agg cs)) w) : wpList P ops Q (o :: rest) a w := by
  obtain ⟨hw, b, off, cs, d, h1, h2, h3, h4, h5, h6⟩ := h
  unfold wpList
  rw [if_pos hw]
  refine .inl ?_
  have := run_loadVar_mid (P := P) w b off ty cs.toList d h2 h3 h4 (by simpa using h5)
  rw [show cs.toList.toArray = cs from by simp] at this
  unfold Oper.wp execOp
  simp only [ho, h1, Instr.loadAt, Instr.sureAddr, Sem.run_bind, Sem.run_pure, Result.andThen_ok, this]
  exact h6
end
theorem eqg_cellS : Try.prog.eqGuardType Try.prog.depth 23 = false := by kernel_rfl
theorem neq_cell_s (C : Cel) (w : World) : (binOp .neq 23 (.agg C.cells) (.agg C.cells)).run Try.prog w = .ok (.bool false) w := by
  rw [neq_cell C C w]; simp
theorem new_gc (w : World) (Y : Gp) (c : Cel) :
    ((w.alloc (.cells Try.zeroCells40 40)).alloc (.cells Cel.zero.cells 23)).heap[w.heap.size]? = some (.cells Gp.zero.arr 40 (0, 0)) ∧
    (((w.alloc (.cells Try.zeroCells40 40)).alloc (.cells Cel.zero.cells 23)).setRow w.heap.size Y.arr).heap[w.heap.size + 1]? = some (.cells Cel.zero.cells 23 (0, 0)) ∧
    ((((w.alloc (.cells Try.zeroCells40 40)).alloc (.cells Cel.zero.cells 23)).setRow w.heap.size Y.arr).setRow (w.heap.size + 1) c.cells).heap[w.heap.size]? = some (.cells Y.arr 40 (0, 0)) ∧
    ((((w.alloc (.cells Try.zeroCells40 40)).alloc (.cells Cel.zero.cells 23)).setRow w.heap.size Y.arr).setRow (w.heap.size + 1) c.cells).heap[w.heap.size + 1]? = some (.cells c.cells 23 (0, 0)) ∧
    Below w.heap.size w ((((w.alloc (.cells Try.zeroCells40 40)).alloc (.cells Cel.zero.cells 23)).setRow w.heap.size Y.arr).setRow (w.heap.size + 1) c.cells) := by
  have h0 : ((w.alloc (.cells Try.zeroCells40 40)).alloc (.cells Cel.zero.cells 23)).heap[w.heap.size]? = some (.cells Gp.zero.arr 40 (0, 0)) := gp_zero_arr ▸ heap_alloc2_old w _ _
  have h1 : (((w.alloc (.cells Try.zeroCells40 40)).alloc (.cells Cel.zero.cells 23)).setRow w.heap.size Y.arr).heap[w.heap.size + 1]? = some (.cells Cel.zero.cells 23 (0, 0)) := (setRow_other _ _ _ _ (by omega)).trans (heap_alloc2_new w _ _)
  refine ⟨h0, h1, (setRow_other _ _ _ _ (by omega)).trans (setRow_heap _ _ _ _ _ _ h0), setRow_heap _ _ _ _ _ _ h1, ?_⟩
  have b := (bal w (.cells Try.zeroCells40 40)).alloc (by simp) (.cells Cel.zero.cells 23)
  exact b.trans ((((Keeps.refl (fun m => m = w.heap.size ∨ m = w.heap.size + 1) ((w.alloc (.cells Try.zeroCells40 40)).alloc (.cells Cel.zero.cells 23))).setRow (.inl rfl) _).setRow (.inr rfl) _).below b.size (fun m hm => by omega))
end Go.Proofs.Ytclhmpknkinjcaa
