/-
  Contracts: replica.Newer, the document's Newer, replica.New, Admit, Fence.
-/
import Derived.Test.YtclhmpknkinjcaaRp
import Derived.Test.YtclhmpknkinjcaaKeeps
import Derived.Deep.DeepCutAuto
import Derived.RegionTactic
import Derived.BigQuiet
import Derived.Deep.RegionLaw
import Derived.Deep.RegionHeld3
import Derived.StillTailTactics
import Derived.Deep.QuietTactic
namespace Go.Proofs.Ytclhmpknkinjcaa
open Go.RowKit Go.Sort

theorem newer_any (a b : Cel) (w : World) : Calls Try.prog 20 #[a.v, b.v] w fun e w' => e = .returned (.bool (newerB a b)) ∧ Below w.heap.size w w' := by
  obtain ⟨ae, an, ad⟩ := a
  obtain ⟨be, bn, bd⟩ := b
  by_cases h1 : be < ae
  · have HN := Lib.hid (show newerB ⟨ae, an, ad⟩ ⟨be, bn, bd⟩ = true from by simp [newerB, h1])
    go_enter Try.func20, Try.ntmps20
    go_wp2
    go_ret
    exact ⟨ret_bool HN.out.symm, (bal w _).alloc (by simp) _⟩
  · by_cases h2 : ae = be
    · have e2 : (ae == be) = true := by simp [h2]
      have HN := Lib.hid (show newerB ⟨ae, an, ad⟩ ⟨be, bn, bd⟩ = decide (bn < an) from by simp [newerB, h2])
      clear h2
      go_enter Try.func20, Try.ntmps20
      go_wp2
      go_ret
      exact ⟨ret_bool HN.out.symm, (bal w _).alloc (by simp) _⟩
    · have e2 : (ae == be) = false := by simp [h2]
      have HN := Lib.hid (show newerB ⟨ae, an, ad⟩ ⟨be, bn, bd⟩ = false from by simp [newerB, h1, h2])
      clear h2
      go_enter Try.func20, Try.ntmps20
      go_wp2
      go_ret
      exact ⟨ret_bool HN.out.symm, (bal w _).alloc (by simp) _⟩
theorem rnewer_any (a b : Cel) (w : World) : Calls Try.prog 19 #[a.v, b.v] w fun e w' => e = .returned (.bool (newerB a b)) ∧ Below w.heap.size w w' := by
  obtain ⟨ae, an, ad⟩ := a
  obtain ⟨be, bn, bd⟩ := b
  by_cases h2 : ae = be
  · have e2 : (ae != be) = false := by simp [h2]
    have HN := Lib.hid (show newerB ⟨ae, an, ad⟩ ⟨be, bn, bd⟩ = decide (bn < an) from by simp [newerB, h2])
    clear h2
    go_enter Try.func19, Try.ntmps19
    go_wp2
    go_ret
    exact ⟨ret_bool HN.out.symm, (bal w _).alloc (by simp) _⟩
  · have e2 : (ae != be) = true := by simp [h2]
    have HN := Lib.hid (show newerB ⟨ae, an, ad⟩ ⟨be, bn, bd⟩ = decide (be < ae) from by simp [newerB, h2])
    clear h2
    go_enter Try.func19, Try.ntmps19
    go_wp2
    go_ret
    exact ⟨ret_bool HN.out.symm, (bal w _).alloc (by simp) _⟩

def Rp.get (r : Rp) (k : Nat) : Cel := r.cells.getD k Cel.zero
/-- what is admitted -/
def Rp.admitC (r : Rp) (k : Nat) (c : Cel) : Rp := if c.e = r.floor ∧ newerB c (r.get k) = true then ⟨r.floor, r.cells.set k c⟩ else r
theorem Rp.admit_len (r : Rp) (k : Nat) (c : Cel) : (r.admitC k c).cells.length = r.cells.length := by
  unfold Rp.admitC; split <;> simp
theorem Rp.get_at {r : Rp} {k : Nat} (h : k < r.cells.length) : r.get k = r.cells[k] := by simp [Rp.get, h]
def Rp.fence (r : Rp) (epoch : Int) : Rp := if r.floor = epoch - 1 then ⟨epoch, r.cells⟩ else r

theorem results_row_tmp {P : Program} {fn : Func} {p q : Tmp} {ty : TypeId} (h : fn.results = #[.cell p ty, .tmp q]) (tmps : Array Value) (w : World) (g : Nat) (t : TypeId) (cs : Array Value) (fr : Nat × Nat) (d : TypeDesc) (v : Value)
    (hp : tmps.getD p undef = .pointer (some ⟨g, 0, none⟩)) (hv : tmps.getD q undef = v) (hg : w.heap[g]? = some (.cells cs t fr))
    (hu : P.underlying ty = some d) (hd : (match d with | .struct _ | .array _ _ => true | _ => false) = true) (hi : (P.info? ty).map (·.size) = some cs.size) :
    (results fn tmps).run P w = .ok (.tuple #[.agg cs, v]) w := by
  have hp' : tmps[p]?.getD undef = .pointer (some ⟨g, 0, none⟩) := by simpa using hp
  have hv' : tmps[q]?.getD undef = v := by simpa using hv
  simp [results, h, hp', hv', asAddr, run_loadVar_row w g t ty cs fr d hg hu hd hi]

theorem rp_zero_arr : Rp.zero.arr = #[.int .i64 0, .int .i64 0, .int .i64 0, .string ⟨#[]⟩, .int .i64 0, .int .i64 0, .string ⟨#[]⟩, .int .i64 0, .int .i64 0, .string ⟨#[]⟩, .int .i64 0, .int .i64 0, .string ⟨#[]⟩, .int .i64 0, .int .i64 0, .string ⟨#[]⟩, .int .i64 0, .int .i64 0, .string ⟨#[]⟩, .int .i64 0, .int .i64 0, .string ⟨#[]⟩, .int .i64 0, .int .i64 0, .string ⟨#[]⟩] := rfl

theorem Keeps.setRow {S : Nat → Prop} {a w : World} (h : Keeps S a w) {g : Nat} (hg : S g) (cs : Array Value) : Keeps S a (w.setRow g cs) :=
  h.trans ⟨rfl, rfl, rfl, by simp, fun k hk _ => setRow_other w g k cs (fun e => hk (e ▸ hg))⟩
theorem bal3a (w : World) (o p q : Obj) : Below w.heap.size w (((w.alloc o).alloc p).alloc q) := ((bal w o).alloc (by simp) p).alloc (by simp; omega) q
theorem cell_box {w : World} {b : Nat} {c : Cel} {T : TypeId} (h : w.heap[b]? = some (.cells #[.int .i64 c.e, .int .i64 c.n, .string c.d] T (0, 0))) : w.cell? ⟨b, 0, none⟩ = some (.int .i64 c.e) ∧ w.cell? ⟨b, 1, none⟩ = some (.int .i64 c.n) ∧ w.cell? ⟨b, 2, none⟩ = some (.string c.d) := by
  simp [World.cell?, h]
theorem rp_cell {w : World} {b k : Nat} {r : Rp} {T : TypeId} (h : w.heap[b]? = some (.cells r.arr T (0, 0))) (hk : k < r.cells.length) :
    (w.cell? ⟨b, 1 + k * 3, none⟩ = some (.int .i64 r.cells[k].e) ∧ w.cell? ⟨b, 1 + k * 3 + 1, none⟩ = some (.int .i64 r.cells[k].n) ∧ w.cell? ⟨b, 1 + k * 3 + 2, none⟩ = some (.string r.cells[k].d)) ∧
    w.frozen? ⟨b, 1 + k * 3, none⟩ = false ∧ w.frozen? ⟨b, 1 + k * 3 + 1, none⟩ = false ∧ w.frozen? ⟨b, 1 + k * 3 + 2, none⟩ = false := by
  obtain ⟨h1, h2, h3⟩ := r.at hk
  simp [World.cell?, World.frozen?, h, h1, h2, h3]
theorem rp_floor {w : World} {b : Nat} {r : Rp} {T : TypeId} (h : w.heap[b]? = some (.cells r.arr T (0, 0))) : w.cell? ⟨b, 0, none⟩ = some (.int .i64 r.floor) ∧ w.frozen? ⟨b, 0, none⟩ = false := by
  have := r.at0
  simp [World.cell?, World.frozen?, h, this]

set_option maxRecDepth 100000 in
set_option maxHeartbeats 2000000 in
theorem admit_any (r : Rp) (k : Nat) (c : Cel) (w : World) (hr : r.cells.length = 8) (hk : k < 8) :
    Calls Try.prog 18 #[.agg r.arr, .int .i64 k, c.v] w fun e w' => e = .returned (.tuple #[.agg (r.admitC k c).arr, .bool (decide (c.e = r.floor))]) ∧ Below w.heap.size w w' := by
  have HR := Lib.hid hr
  have hz := Lib.hid (Rp.size hr)
  clear hr
  go_enter Try.func18, Try.ntmps18
  go_upto_region 1 with fail
  obtain ⟨w3, hw3⟩ : ∃ w3, w3 = ((w.alloc (.cells r.arr 26)).alloc (.cells #[.int .i64 c.e, .int .i64 c.n, .string c.d] 23)).alloc (.cells Rp.zero.arr 26) := ⟨_, rfl⟩
  rw [rp_zero_arr] at hw3
  rw [← hw3]
  rw [← rp_zero_arr] at hw3
  have HB := Lib.hid (show Below w.heap.size w w3 from hw3 ▸ bal3a w _ _ _)
  have hs3 : w3.heap.size = w.heap.size + 1 + 1 + 1 := by rw [hw3]; simp
  have HA := Lib.hid (show w3.heap[w.heap.size]? = some (.cells r.arr 26 (0, 0)) from hw3 ▸ (heap3 w _ _ _).1)
  have HC := Lib.hid (show w3.heap[w.heap.size + 1]? = some (.cells #[.int .i64 c.e, .int .i64 c.n, .string c.d] 23 (0, 0)) from hw3 ▸ (heap3 w _ _ _).2.1)
  have HZ := Lib.hid (show w3.heap[w.heap.size + 1 + 1]? = some (.cells Rp.zero.arr 26 (0, 0)) from hw3 ▸ (heap3 w _ _ _).2.2)
  have hv0 : w.heap.size < w3.heap.size := by omega
  have hv1 : w.heap.size + 1 < w3.heap.size := by omega
  have hv2 : w.heap.size + 1 + 1 < w3.heap.size := by omega
  clear hw3 hs3
  obtain ⟨c0, c1, c2⟩ := cell_box HC.out
  obtain ⟨f0, -⟩ := rp_floor HA.out
  by_cases he : c.e = r.floor
  · have eb : (c.e != r.floor) = false := by simp [he]
    have HE := Lib.hid he
    clear he
    obtain ⟨⟨r0, r1, r2⟩, -⟩ := rp_cell (k := k) HA.out (by rw [HR.out]; exact hk)
    have hq := bregrown (Below.refl w3.heap.size w3)
    have hkr : k < r.cells.length := by rw [HR.out]; exact hk
    have HKR := Lib.hid hkr
    obtain ⟨X, hX⟩ : ∃ X, newerB c r.cells[k] = X := ⟨_, rfl⟩
    have HX := Lib.hid hX
    have NW := Lib.hid (fun (w : World) => newer_any c r.cells[k] w)
    have hk8 : decide ((k : Int) < 8) = true := by simpa using (by omega : (k : Int) < 8)
    clear hX
    go_upto_region 3 with fail
    go_cut [19] (fun v wx => v = .bool X ∧ Below w3.heap.size w3 wx)
    case first =>
      refine wp_region_quiet_below (by kernel_rfl) (by kernel_rfl) ?_
      repeat (go_big_quiet_step (exact Calls.regrown_of (NW.out _)))
      refine wpQuiet_nil ?_
      rintro w' ⟨⟨dq, osq⟩, rfl⟩
      go_wp2_with fail
      go_meet
      exact ⟨by rw [HX.out], below_regrown _ dq osq⟩
    case rest =>
      obtain ⟨rfl, b4⟩ := hcut
      have HB4 := Lib.hid (HB.out.trans (b4.mono HB.out.size))
      have HA4 := Lib.hid ((b4.block _ hv0).trans HA.out)
      have HC4 := Lib.hid ((b4.block _ hv1).trans HC.out)
      have HZ4 := Lib.hid ((b4.block _ hv2).trans HZ.out)
      have hu2 : w.heap.size + 1 + 1 < wc.heap.size := Nat.lt_of_lt_of_le hv2 b4.size
      have HG := Lib.hid (Rp.get_at (r := r) hkr)
      clear b4 hq c0 c1 c2 f0 r0 r1 r2
      go_upto_if 19 with fail
      go_cut [19] (fun _ wx => wx.heap[w.heap.size]? = some (.cells (r.admitC k c).arr 26 (0, 0)) ∧ Keeps (· = w.heap.size) wc wx)
      case first =>
        cases X
        · have HM := Lib.hid (show r.admitC k c = r from if_neg (fun h => by have h2 := h.2; rw [HG.out] at h2; exact absurd (h2.symm.trans HX.out) (by decide)))
          go_wp2_with fail
          go_meet
          exact ⟨by rw [HM.out]; exact HA4.out, Keeps.refl _ _⟩
        · have HM := Lib.hid (show r.admitC k c = ⟨r.floor, r.cells.set k c⟩ from if_pos ⟨HE.out, by rw [HG.out]; exact HX.out⟩)
          obtain ⟨c0, c1, c2⟩ := cell_box HC4.out
          obtain ⟨⟨r0, r1, r2⟩, s0, s1, s2⟩ := rp_cell (k := k) HA4.out hkr
          go_wp2_with fail
          go_meet
          refine ⟨?_, Keeps.setCell (S := (· = w.heap.size)) (Keeps.setCell (S := (· = w.heap.size)) (Keeps.setCell (S := (· = w.heap.size)) (Keeps.refl _ _) rfl _) rfl _) rfl _⟩
          rw [HM.out, ← Rp.set r c HKR.out]
          exact block_setCell (block_setCell (block_setCell HA4.out _) _) _
      case rest =>
        obtain ⟨wo, rfl⟩ : ∃ wo : World, wo = wc := ⟨_, rfl⟩
        obtain ⟨ha5, hk5⟩ := hcut
        have HA5 := Lib.hid ha5
        have HZ5 := Lib.hid ((hk5.block (w.heap.size + 1 + 1) (by omega) hu2).trans HZ4.out)
        have HB5 := Lib.hid (HB4.out.trans (hk5.below HB4.out.size (fun m hm => by omega)))
        have hz5 := Lib.hid (Rp.size (r := r.admitC k c) (by rw [Rp.admit_len, HR.out]))
        clear ha5 hk5
        go_wp2_with (first | (refine wpList_load_row rfl 26 _ rfl w.heap.size rfl 26 (r.admitC k c).arr (0, 0) _ HA5.out rp_row.1 rfl (by rw [rp_row.2.1, hz5.out]) ?_) | (refine wpList_store_row rfl 26 _ _ rfl (w.heap.size + 1 + 1) (r.admitC k c).arr rfl rfl 26 Rp.zero.arr HZ5.out (by rw [rp_row.2.1, hz5.out]) (by rw [hz5.out]; rfl) (Rp.one _) ?_))
        refine bodyPost_ret (v := .tuple #[.agg (r.admitC k c).arr, .bool true]) (results_row_tmp Try.results18 _ _ (w.heap.size + 1 + 1) 26 (r.admitC k c).arr (0, 0) _ _ rfl rfl (setRow_heap _ _ _ _ _ _ HZ5.out) rp_row.1 rfl (by rw [rp_row.2.1, hz5.out])) rfl ?_
        exact ⟨by rw [decide_eq_true HE.out], HB5.out.trans (((Keeps.refl (· = w.heap.size + 1 + 1) wo).setRow rfl _).below HB5.out.size (fun m hm => by omega))⟩
  · have eb : (c.e != r.floor) = true := by simp [he]
    have HE := Lib.hid he
    clear he
    go_wp2_with (first | (refine wpList_load_row rfl 26 _ rfl w.heap.size rfl 26 r.arr (0, 0) _ HA.out rp_row.1 rfl (by rw [rp_row.2.1, hz.out]) ?_) | (refine wpList_store_row rfl 26 _ _ rfl (w.heap.size + 1 + 1) r.arr rfl rfl 26 Rp.zero.arr HZ.out (by rw [rp_row.2.1, hz.out]) (by rw [hz.out]; rfl) r.one ?_))
    refine bodyPost_ret (v := .tuple #[.agg r.arr, .bool false]) (results_row_tmp Try.results18 _ _ (w.heap.size + 1 + 1) 26 r.arr (0, 0) _ _ rfl rfl (setRow_heap _ _ _ _ _ _ HZ.out) rp_row.1 rfl (by rw [rp_row.2.1, hz.out])) rfl ?_
    refine ⟨?_, HB.out.trans (((Keeps.refl (· = w.heap.size + 1 + 1) w3).setRow rfl _).below HB.out.size (fun m hm => by omega))⟩
    rw [show r.admitC k c = r from if_neg (fun h => HE.out h.1), decide_eq_false HE.out]

theorem wpStill_load_row {P : Program} {ops : Array Oper} {rest : List Oper} {o : Oper} {a : Act} {w : World} {Q : Act → Prop} (hgd : o.guard = none) (ty : TypeId) (x : Operand) (ho : o.op = .load ty x)
    (g : Nat) (hx : a.eval x = .pointer (some ⟨g, 0, none⟩)) (t : TypeId) (cs : Array Value) (fr : Nat × Nat) (d : TypeDesc) (hg : w.heap[g]? = some (.cells cs t fr))
    (hu : P.underlying ty = some d) (hd : (match d with | .struct _ | .array _ _ => true | _ => false) = true) (hi : (P.info? ty).map (·.size) = some cs.size)
    (h : wpStill P ops w Q rest (a.put o.dst (.agg cs))) : wpStill P ops w Q (o :: rest) a := by
  have hw : Region.wanted o (yielded ops a.tmps) = true := by simp [Region.wanted, hgd]
  unfold wpStill
  rw [if_pos hw]
  unfold Oper.still execOp
  simp only [ho, hx, Instr.loadAt, Instr.sureAddr, Sem.run_bind, Sem.run_pure, Result.andThen_ok, run_loadVar_row w g t ty cs fr d hg hu hd hi]
  exact ⟨rfl, h⟩
theorem wpQuiet_load_row {P : Program} {ops : Array Oper} {rest : List Oper} {o : Oper} {a : Act} {C : World → Prop} {Q : Act → Prop} (hw : Region.wanted o (yielded ops a.tmps) = true) (ty : TypeId) (x : Operand) (ho : o.op = .load ty x)
    (g : Nat) (hx : a.eval x = .pointer (some ⟨g, 0, none⟩)) (t : TypeId) (cs : Array Value) (fr : Nat × Nat) (d : TypeDesc) (hg : ∀ w, C w → w.heap[g]? = some (.cells cs t fr))
    (hu : P.underlying ty = some d) (hd : (match d with | .struct _ | .array _ _ => true | _ => false) = true) (hi : (P.info? ty).map (·.size) = some cs.size)
    (h : wpQuiet P ops C Q rest (a.put o.dst (.agg cs))) : wpQuiet P ops C Q (o :: rest) a := by
  unfold wpQuiet
  rw [if_pos hw]
  refine ⟨.agg cs, fun w hC => ?_, h⟩
  unfold Oper.quietAt execOp
  simp only [ho, hx, Instr.loadAt, Instr.sureAddr, Sem.run_bind, Sem.run_pure, Result.andThen_ok, run_loadVar_row w g t ty cs fr d (hg w hC) hu hd hi]
  exact ⟨rfl, rfl⟩
/-- a row of n cells lies in block N, and may be written -/
def RowIn (w : World) (N n : Nat) (T : TypeId) : Prop := ∃ old, w.heap[N]? = some (.cells old T (0, 0)) ∧ old.size = n
theorem RowIn.drew {w : World} {N n : Nat} {T : TypeId} (h : RowIn w N n T) : RowIn w.drew N n T := h
theorem RowIn.setRow {w : World} {N n : Nat} {T : TypeId} (h : RowIn w N n T) {cs : Array Value} (hs : cs.size = n) : RowIn (w.setRow N cs) N n T := by
  obtain ⟨old, h1, h2⟩ := h
  exact ⟨cs, setRow_heap w N old cs T (0, 0) h1, hs⟩
theorem step_store_row {P : Program} {ops : Array Oper} {o : Oper} {a : Act} {w : World} {K : Act → World → Prop} {Q : Exit → Act → World → Prop} {E : Prop} (hgd : o.guard = none) (ty : TypeId) (x y : Operand) (ho : o.op = .store ty x y)
    (g : Nat) (cells : Array Value) (hx : a.eval x = .pointer (some ⟨g, 0, none⟩)) (hy : a.eval y = .agg cells)
    (t : TypeId) (old : Array Value) (hg : w.heap[g]? = some (.cells old t (0, 0))) (hi : (P.info? ty).map (·.size) = some cells.size)
    (hold : old.size = cells.size) (h1 : cells.all (·.oneCell') = true)
    (h : K (a.put o.dst undef) (w.setRow g cells)) : if Region.wanted o (yielded ops a.tmps) = true then Oper.wp P o a w K Q else E := by
  have hw : Region.wanted o (yielded ops a.tmps) = true := by simp [Region.wanted, hgd]
  rw [if_pos hw]
  exact wp_store_row ty x y ho g cells hx hy t old hg hi hold h1 h
theorem step_load_row {P : Program} {ops : Array Oper} {o : Oper} {a : Act} {w : World} {K : Act → World → Prop} {Q : Exit → Act → World → Prop} {E : Prop} (hgd : o.guard = none) (ty : TypeId) (x : Operand) (ho : o.op = .load ty x)
    (g : Nat) (hx : a.eval x = .pointer (some ⟨g, 0, none⟩)) (t : TypeId) (cs : Array Value) (fr : Nat × Nat) (d : TypeDesc) (hg : w.heap[g]? = some (.cells cs t fr))
    (hu : P.underlying ty = some d) (hd : (match d with | .struct _ | .array _ _ => true | _ => false) = true) (hi : (P.info? ty).map (·.size) = some cs.size)
    (h : K (a.put o.dst (.agg cs)) w) : if Region.wanted o (yielded ops a.tmps) = true then Oper.wp P o a w K Q else E := by
  have hw : Region.wanted o (yielded ops a.tmps) = true := by simp [Region.wanted, hgd]
  rw [if_pos hw]
  exact wp_load_row ty x ho g hx t cs fr d hg hu hd hi h
theorem range_of {w : World} {N : Nat} {cs : Array Value} {T : TypeId} (h : w.heap[N]? = some (.cells cs T (0, 0))) : w.rangeAt N 0 cs.toList := by
  intro j v hj
  rw [cell_of_row w N (0 + j) cs T (0, 0) h, Nat.zero_add]
  simpa using hj
theorem rp_lit {Y : Rp} (h : Y.cells.length = 8) : ∃ (f : Int) (d0 d1 d2 d3 d4 d5 d6 d7 : Cel), Y = ⟨f, [d0, d1, d2, d3, d4, d5, d6, d7]⟩ := by
  obtain ⟨f, l⟩ := Y
  match l, h with
  | [d0, d1, d2, d3, d4, d5, d6, d7], _ => exact ⟨f, d0, d1, d2, d3, d4, d5, d6, d7, rfl⟩
theorem arr_lit (f : Int) (d0 d1 d2 d3 d4 d5 d6 d7 : Cel) : (Rp.mk f [d0, d1, d2, d3, d4, d5, d6, d7]).arr = #[.int .i64 f, .int .i64 d0.e, .int .i64 d0.n, .string d0.d, .int .i64 d1.e, .int .i64 d1.n, .string d1.d, .int .i64 d2.e, .int .i64 d2.n, .string d2.d, .int .i64 d3.e, .int .i64 d3.n, .string d3.d, .int .i64 d4.e, .int .i64 d4.n, .string d4.d, .int .i64 d5.e, .int .i64 d5.n, .string d5.d, .int .i64 d6.e, .int .i64 d6.n, .string d6.d, .int .i64 d7.e, .int .i64 d7.n, .string d7.d] := rfl
theorem keep_row {wc : World} {N M : Nat} {f : Int} {d0 d1 d2 d3 d4 d5 d6 d7 : Cel} {T : TypeId} (hne : N ≠ M) (h : wc.heap[N]? = some (.cells #[.int .i64 f, .int .i64 d0.e, .int .i64 d0.n, .string d0.d, .int .i64 d1.e, .int .i64 d1.n, .string d1.d, .int .i64 d2.e, .int .i64 d2.n, .string d2.d, .int .i64 d3.e, .int .i64 d3.n, .string d3.d, .int .i64 d4.e, .int .i64 d4.n, .string d4.d, .int .i64 d5.e, .int .i64 d5.n, .string d5.d, .int .i64 d6.e, .int .i64 d6.n, .string d6.d, .int .i64 d7.e, .int .i64 d7.n, .string d7.d] T (0, 0))) :
    ∀ w', Keeps (· = M) wc w' → RowIn w' M 25 T → (Keeps (· = M) wc w' ∧ RowIn w' M 25 T) ∧ w'.cell? ⟨N, 0, none⟩ = some (.int .i64 f) ∧ w'.cell? ⟨N, 1, none⟩ = some (.int .i64 d0.e) ∧ w'.cell? ⟨N, 2, none⟩ = some (.int .i64 d0.n) ∧ w'.cell? ⟨N, 3, none⟩ = some (.string d0.d) ∧ w'.cell? ⟨N, 4, none⟩ = some (.int .i64 d1.e) ∧ w'.cell? ⟨N, 5, none⟩ = some (.int .i64 d1.n) ∧ w'.cell? ⟨N, 6, none⟩ = some (.string d1.d) ∧ w'.cell? ⟨N, 7, none⟩ = some (.int .i64 d2.e) ∧ w'.cell? ⟨N, 8, none⟩ = some (.int .i64 d2.n) ∧ w'.cell? ⟨N, 9, none⟩ = some (.string d2.d) ∧ w'.cell? ⟨N, 10, none⟩ = some (.int .i64 d3.e) ∧ w'.cell? ⟨N, 11, none⟩ = some (.int .i64 d3.n) ∧ w'.cell? ⟨N, 12, none⟩ = some (.string d3.d) ∧ w'.cell? ⟨N, 13, none⟩ = some (.int .i64 d4.e) ∧ w'.cell? ⟨N, 14, none⟩ = some (.int .i64 d4.n) ∧ w'.cell? ⟨N, 15, none⟩ = some (.string d4.d) ∧ w'.cell? ⟨N, 16, none⟩ = some (.int .i64 d5.e) ∧ w'.cell? ⟨N, 17, none⟩ = some (.int .i64 d5.n) ∧ w'.cell? ⟨N, 18, none⟩ = some (.string d5.d) ∧ w'.cell? ⟨N, 19, none⟩ = some (.int .i64 d6.e) ∧ w'.cell? ⟨N, 20, none⟩ = some (.int .i64 d6.n) ∧ w'.cell? ⟨N, 21, none⟩ = some (.string d6.d) ∧ w'.cell? ⟨N, 22, none⟩ = some (.int .i64 d7.e) ∧ w'.cell? ⟨N, 23, none⟩ = some (.int .i64 d7.n) ∧ w'.cell? ⟨N, 24, none⟩ = some (.string d7.d) := by
  intro w' k r
  have h' : w'.heap[N]? = some (.cells #[.int .i64 f, .int .i64 d0.e, .int .i64 d0.n, .string d0.d, .int .i64 d1.e, .int .i64 d1.n, .string d1.d, .int .i64 d2.e, .int .i64 d2.n, .string d2.d, .int .i64 d3.e, .int .i64 d3.n, .string d3.d, .int .i64 d4.e, .int .i64 d4.n, .string d4.d, .int .i64 d5.e, .int .i64 d5.n, .string d5.d, .int .i64 d6.e, .int .i64 d6.n, .string d6.d, .int .i64 d7.e, .int .i64 d7.n, .string d7.d] T (0, 0)) := (k.block N hne (Array.getElem?_eq_some_iff.1 h).1).trans h
  refine ⟨⟨k, r⟩, ?_⟩
  simp [World.cell?, h']
theorem region_tail1 {P : Program} {id : Nat} {Q : Exit → Act → World → Prop} {a : Act} {w : World} {l : List Oper} (n : Nat) (hm : P.follows .mixedOrders = true) (hB : Region.lexTailB .any l.toArray n = true)
    (h : ∀ wd, Below w.heap.size w wd → wd.heap = w.heap → wpStill P l.toArray wd (fun a' => wpList P l.toArray Q (l.drop n) a' wd) (l.take n) a) : (Code.region id l.toArray true).wp P Q a w :=
  wp_region_still_tail n hm hB (h w.drew (Below.refl _ _).drew rfl)

theorem yieldsIf_load_row {P : Program} {ops : Array Oper} {S : World → Prop} {op : Oper} {a : Act} (hw : Region.wanted op (yielded ops a.tmps) = true) (ty : TypeId) (x : Operand) (ho : op.op = .load ty x)
    (g : Nat) (hx : a.eval x = .pointer (some ⟨g, 0, none⟩)) (t : TypeId) (cs : Array Value) (fr : Nat × Nat) (d : TypeDesc) (hg : ∀ w, S w → w.heap[g]? = some (.cells cs t fr))
    (hu : P.underlying ty = some d) (hd : (match d with | .struct _ | .array _ _ => true | _ => false) = true) (hi : (P.info? ty).map (·.size) = some cs.size) : YieldsIf P ops S op (.agg cs) a :=
  .inl ⟨hw, fun w hC => by
    unfold execOp
    simp only [ho, hx, Instr.loadAt, Instr.sureAddr, Sem.run_bind, Sem.run_pure, Result.andThen_ok, run_loadVar_row w g t ty cs fr d (hg w hC) hu hd hi]⟩

set_option maxRecDepth 100000 in
set_option maxHeartbeats 2000000 in
theorem fence_any (r : Rp) (epoch : Int) (w : World) (hr : r.cells.length = 8) (he : -4611686018427387904 ≤ epoch ∧ epoch ≤ 4611686018427387904) :
    Calls Try.prog 21 #[.agg r.arr, .int .i64 epoch] w fun e w' => e = .returned (.tuple #[.agg (r.fence epoch).arr, .bool ((r.fence epoch).floor == epoch)]) ∧ Below w.heap.size w w' := by
  have hz := Lib.hid (Rp.size (r := r.fence epoch) (by unfold Rp.fence; split <;> exact hr))
  have q1 : IntKind.i64.wrap (epoch - 1) = epoch - 1 := IntWalk.i64_in _ (by omega)
  clear hr
  go_enter Try.func21, Try.ntmps21
  go_upto_region 1 with fail
  obtain ⟨w3, hw3⟩ : ∃ w3, w3 = (w.alloc (.cells r.arr 26)).alloc (.cells Rp.zero.arr 26) := ⟨_, rfl⟩
  rw [rp_zero_arr] at hw3
  rw [← hw3]
  rw [← rp_zero_arr] at hw3
  have HB := Lib.hid (show Below w.heap.size w w3 from hw3 ▸ (bal w _).alloc (by simp) _)
  have hs3 : w3.heap.size = w.heap.size + 1 + 1 := by rw [hw3]; simp
  have HA := Lib.hid (show w3.heap[w.heap.size]? = some (.cells r.arr 26 (0, 0)) from hw3 ▸ heap_alloc2_old w _ _)
  have HZ := Lib.hid (show w3.heap[w.heap.size + 1]? = some (.cells Rp.zero.arr 26 (0, 0)) from hw3 ▸ heap_alloc2_new w _ _)
  have hv0 : w.heap.size < w3.heap.size := by omega
  have hv1 : w.heap.size + 1 < w3.heap.size := by omega
  clear hw3 hs3
  obtain ⟨f0, g0⟩ := rp_floor HA.out
  go_upto_if 10 with fail
  go_cut [10] (fun _ wx => wx.heap[w.heap.size]? = some (.cells (r.fence epoch).arr 26 (0, 0)) ∧ Keeps (· = w.heap.size) w3 wx)
  case first =>
    by_cases hf : r.floor = epoch - 1
    · have eb : (r.floor == epoch - 1) = true := by simp [hf]
      have HF := Lib.hid (show r.fence epoch = ⟨epoch, r.cells⟩ from if_pos hf)
      clear hf
      go_wp2_with fail
      go_meet
      exact ⟨by rw [HF.out, ← Rp.setFloor]; exact block_setCell HA.out _, Keeps.setCell (S := (· = w.heap.size)) (Keeps.refl _ _) rfl _⟩
    · have eb : (r.floor == epoch - 1) = false := by simp [hf]
      have HF := Lib.hid (show r.fence epoch = r from if_neg hf)
      clear hf
      go_wp2_with fail
      go_meet
      exact ⟨by rw [HF.out]; exact HA.out, Keeps.refl _ _⟩
  case rest =>
    obtain ⟨ha5, hk5⟩ := hcut
    have HB5 := Lib.hid (HB.out.trans (hk5.below HB.out.size (fun m hm => by omega)))
    have HA5 := Lib.hid ha5
    have HZ5 := Lib.hid ((hk5.block (w.heap.size + 1) (by omega) hv1).trans HZ.out)
    clear ha5 hk5 f0 g0
    obtain ⟨Y, hY⟩ : ∃ Y, r.fence epoch = Y := ⟨_, rfl⟩
    rw [hY] at HA5 hz
    have HY := Lib.hid hY
    clear hY
    go_wp2_with fail
    obtain ⟨S, hS⟩ : ∃ S : World → Prop, S = fun w' => w'.heap[w.heap.size]? = some (.cells Y.arr 26 (0, 0)) ∧ RowIn w' (w.heap.size + 1) 25 26 := ⟨_, rfl⟩
    have S1 : ∀ w', S w' → w'.heap[w.heap.size]? = some (.cells Y.arr 26 (0, 0)) := fun w' h => by rw [hS] at h; exact h.1
    have S3 : ∀ w', S w' → RowIn w' (w.heap.size + 1) 25 26 := fun w' h => by rw [hS] at h; exact h.2
    have S0 : S wc.drew := by rw [hS]; exact ⟨HA5.out, ⟨Rp.zero.arr, HZ5.out, rfl⟩⟩
    have S4 : ∀ w', S w' → S (w'.setRow (w.heap.size + 1) Y.arr) := fun w' h => by
      rw [hS] at h ⊢
      exact ⟨(setRow_other _ _ _ _ (by omega)).trans h.1, h.2.setRow hz.out⟩
    refine wp_region_held_drew (S := S) (by kernel_rfl) S0 (fun hHeld => ?_)
    refine wpAnyH_take (i := 0) (oi := _) (v := .agg Y.arr) rfl (by kernel_rfl) (by kernel_rfl) (by kernel_rfl) (fun _ _ _ h => h) (yieldsIf_load_row (by rfl) 26 _ rfl w.heap.size rfl 26 Y.arr (0, 0) _ S1 rp_row.1 rfl (by rw [rp_row.2.1, hz.out])) hHeld ?_
    simp only [Act.put, List.getElem_toArray, List.getElem_cons_zero, List.setIfInBounds_toArray, List.set_cons_zero, List.set_cons_succ]
    refine wpAnyH_take (i := 1) (oi := _) (v := .pointer (some ⟨w.heap.size, 0, none⟩)) rfl (by kernel_rfl) (by kernel_rfl) (by kernel_rfl) (fun _ _ _ h => h) (Or.inl ⟨by rfl, fun w' hSw => by go_simp⟩) hHeld ?_
    simp only [Act.put, List.getElem_toArray, List.getElem_cons_zero, List.getElem_cons_succ, List.setIfInBounds_toArray, List.set_cons_zero, List.set_cons_succ]
    refine wpAnyH_take (i := 2) (oi := _) (v := .int .i64 Y.floor) rfl (by kernel_rfl) (by kernel_rfl) (by kernel_rfl) (fun _ _ _ h => h) (Or.inl ⟨by rfl, fun w' hSw => by have hc := (rp_floor (S1 w' hSw)).1; go_simp⟩) hHeld ?_
    simp only [Act.put, List.getElem_toArray, List.getElem_cons_zero, List.getElem_cons_succ, List.setIfInBounds_toArray, List.set_cons_zero, List.set_cons_succ]
    refine wpAnyH_take (i := 3) (oi := _) (v := .int .i64 epoch) rfl (by kernel_rfl) (by kernel_rfl) (by kernel_rfl) (fun _ _ _ h => h) (Or.inl ⟨by rfl, fun w' hSw => by go_simp⟩) hHeld ?_
    simp only [Act.put, List.getElem_toArray, List.getElem_cons_zero, List.getElem_cons_succ, List.setIfInBounds_toArray, List.set_cons_zero, List.set_cons_succ]
    refine wpAnyH_take (i := 4) (oi := _) (v := .bool (Y.floor == epoch)) rfl (by kernel_rfl) (by kernel_rfl) (by kernel_rfl) (fun _ _ _ h => h) (Or.inl ⟨by rfl, fun w' hSw => by go_simp⟩) hHeld ?_
    simp only [Act.put, List.getElem_toArray, List.getElem_cons_zero, List.getElem_cons_succ, List.setIfInBounds_toArray, List.set_cons_zero, List.set_cons_succ]
    refine wpAnyH_ready (rs := [5]) (by kernel_rfl) (by simp) ?_
    refine AllReadyH.cons (o := _) rfl (fun K hK => ?_) AllReadyH.nil
    obtain ⟨old, ho1, ho2⟩ := S3 _ hHeld
    refine step_store_row rfl 26 _ _ rfl (w.heap.size + 1) Y.arr rfl rfl 26 old ho1 (by rw [rp_row.2.1, hz.out]) (by rw [ho2, hz.out]) (Rp.one _) ?_
    refine hK.out _ _ (S4 _ hHeld) (fun hHeld2 => ?_)
    clear hK K
    simp only [Act.put, List.getElem_toArray, List.getElem_cons_zero, List.getElem_cons_succ]
    refine wpAnyH_ready (rs := [6]) (by kernel_rfl) (by simp) ?_
    refine AllReadyH.cons (o := _) rfl (fun K hK => ?_) AllReadyH.nil
    go_simp
    refine hK.out _ _ hHeld2 (fun hHeld3 => ?_)
    clear hK K
    refine wpAnyH_done (by kernel_rfl) ?_ _
    go_wp2
    have hb : Below w.heap.size w (wc.drew.setRow (w.heap.size + 1) Y.arr) := HB5.out.trans ((((Keeps.refl (· = w.heap.size + 1) wc).drew).setRow rfl _).below HB5.out.size (fun m hm => by omega))
    refine bodyPost_ret (v := .tuple #[.agg Y.arr, .bool (Y.floor == epoch)]) (results_row_tmp Try.results21 _ _ (w.heap.size + 1) 26 Y.arr (0, 0) _ _ rfl rfl (setRow_heap _ _ _ _ _ _ ho1) rp_row.1 rfl (by rw [rp_row.2.1, hz.out])) rfl ?_
    exact ⟨by rw [HY.out], hb⟩
end Go.Proofs.Ytclhmpknkinjcaa
