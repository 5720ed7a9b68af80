/-
  Contract: replica.New. Plain laws on what is admitted.
-/
import Derived.Test.YtclhmpknkinjcaaAdmit
namespace Go.Proofs.Ytclhmpknkinjcaa
open Go.RowKit Go.Sort

/-- what a replica starts as -/
def Rp.start : Rp := ⟨1, List.replicate 8 Cel.zero⟩
theorem rp_start_arr : Rp.start.arr = #[.int .i64 1, .int .i64 0, .int .i64 0, .string ⟨#[]⟩, .int .i64 0, .int .i64 0, .string ⟨#[]⟩, .int .i64 0, .int .i64 0, .string ⟨#[]⟩, .int .i64 0, .int .i64 0, .string ⟨#[]⟩, .int .i64 0, .int .i64 0, .string ⟨#[]⟩, .int .i64 0, .int .i64 0, .string ⟨#[]⟩, .int .i64 0, .int .i64 0, .string ⟨#[]⟩, .int .i64 0, .int .i64 0, .string ⟨#[]⟩] := rfl

theorem Rp.admit_floor (r : Rp) (k : Nat) (c : Cel) : (r.admitC k c).floor = r.floor := by
  unfold Rp.admitC; split <;> rfl
theorem Rp.admit_no {r : Rp} {k : Nat} {c : Cel} (h : c.e ≠ r.floor) : r.admitC k c = r := if_neg (fun e => h e.1)
theorem Rp.get_set {f : Int} {cs : List Cel} {k : Nat} (c : Cel) (h : k < cs.length) : (Rp.mk f (cs.set k c)).get k = c := by
  simp [Rp.get, h]
theorem newer_irrefl (c : Cel) : newerB c c = false := by unfold newerB; simp
theorem newer_not {a b : Cel} (h : newerB a b = true) : newerB b a = false := by
  unfold newerB at h ⊢
  simp only [decide_eq_true_eq, decide_eq_false_iff_not] at h ⊢
  omega
theorem Rp.admit_older (r : Rp) {k : Nat} (c : Cel) (h : k < r.cells.length) : newerB (r.get k) ((r.admitC k c).get k) = false := by
  unfold Rp.admitC
  split
  · rename_i hc
    rw [Rp.get_set c h]
    exact newer_not hc.2
  · exact newer_irrefl _
theorem Rp.admit_twice (r : Rp) {k : Nat} (c : Cel) (h : k < r.cells.length) : (r.admitC k c).admitC k c = r.admitC k c := by
  by_cases hc : c.e = r.floor ∧ newerB c (r.get k) = true
  · have e : r.admitC k c = ⟨r.floor, r.cells.set k c⟩ := if_pos hc
    rw [e]
    exact if_neg (fun hd => by
      have h2 := hd.2
      rw [Rp.get_set c h, newer_irrefl] at h2
      cases h2)
  · have e : r.admitC k c = r := if_neg hc
    rw [e, e]
theorem Rp.admit_comm (r : Rp) {k : Nat} (x o : Cel) (h : k < r.cells.length) (hn : ¬ (x.e = o.e ∧ x.n = o.n)) : (r.admitC k x).admitC k o = (r.admitC k o).admitC k x := by
  by_cases hx : x.e = r.floor
  · by_cases ho : o.e = r.floor
    · have hne : x.n ≠ o.n := fun e => hn ⟨hx.trans ho.symm, e⟩
      have step : ∀ (a b : Cel), a.e = r.floor → b.e = r.floor → a.n < b.n → (r.admitC k a).admitC k b = r.admitC k b ∧ (r.admitC k b).admitC k a = r.admitC k b := by
        intro a b ha hb hl
        have hba : newerB b a = true := by unfold newerB; simp [ha, hb, hl]
        have hab : newerB a b = false := newer_not hba
        have htr : newerB a (r.get k) = true → newerB b (r.get k) = true := by
          unfold newerB
          simp only [decide_eq_true_eq]
          omega
        by_cases na : newerB a (r.get k) = true
        · have nb := htr na
          have ea : r.admitC k a = ⟨r.floor, r.cells.set k a⟩ := if_pos ⟨ha, na⟩
          have eb : r.admitC k b = ⟨r.floor, r.cells.set k b⟩ := if_pos ⟨hb, nb⟩
          rw [ea, eb]
          refine ⟨?_, ?_⟩
          · refine (if_pos ⟨hb, by rw [Rp.get_set a h]; exact hba⟩).trans ?_
            simp
          · exact if_neg (fun hd => by have h2 := hd.2; rw [Rp.get_set b h, hab] at h2; cases h2)
        · have ea : r.admitC k a = r := if_neg (fun hd => na hd.2)
          rw [ea]
          refine ⟨rfl, ?_⟩
          by_cases nb : newerB b (r.get k) = true
          · have eb : r.admitC k b = ⟨r.floor, r.cells.set k b⟩ := if_pos ⟨hb, nb⟩
            rw [eb]
            exact if_neg (fun hd => by have h2 := hd.2; rw [Rp.get_set b h, hab] at h2; cases h2)
          · have eb : r.admitC k b = r := if_neg (fun hd => nb hd.2)
            rw [eb, ea]
      by_cases hl : x.n < o.n
      · have := step x o hx ho hl
        exact this.1.trans this.2.symm
      · have := step o x ho hx (by omega)
        exact this.2.trans this.1.symm
    · rw [Rp.admit_no (r := r.admitC k x) (by rw [Rp.admit_floor]; exact ho), Rp.admit_no (r := r) (c := o) ho]
  · rw [Rp.admit_no (r := r) (c := x) hx, Rp.admit_no (r := r.admitC k o) (by rw [Rp.admit_floor]; exact hx)]
theorem results_row1 {P : Program} {fn : Func} {p : Tmp} {ty : TypeId} (h : fn.results = #[.cell p ty]) (tmps : Array Value) (w : World) (g : Nat) (t : TypeId) (cs : Array Value) (fr : Nat × Nat) (d : TypeDesc)
    (hp : tmps.getD p undef = .pointer (some ⟨g, 0, none⟩)) (hg : w.heap[g]? = some (.cells cs t fr))
    (hu : P.underlying ty = some d) (hd : (match d with | .struct _ | .array _ _ => true | _ => false) = true) (hi : (P.info? ty).map (·.size) = some cs.size) :
    (results fn tmps).run P w = .ok (.agg cs) w := by
  have hp' : tmps[p]?.getD undef = .pointer (some ⟨g, 0, none⟩) := by simpa using hp
  simp [results, h, hp', asAddr, run_loadVar_row w g t ty cs fr d hg hu hd hi]
theorem eqRp_self (r : Rp) : eqRp r r = true := by simp [eqRp]
theorem start_admit : (Rp.start.admitC 1 ⟨1, 2, ⟨#[120]⟩⟩).get 1 = ⟨1, 2, ⟨#[120]⟩⟩ := by decide +kernel

set_option maxRecDepth 100000 in
theorem new_any (w : World) : Calls Try.prog 66 #[] w fun e w' => e = .returned (.agg Rp.start.arr) ∧ Below w.heap.size w w' := by
  go_enter Try.func66, Try.ntmps66
  go_upto_region 1 with fail
  obtain ⟨w1, hw1⟩ : ∃ w1, w1 = w.alloc (.cells Rp.zero.arr 26) := ⟨_, rfl⟩
  rw [rp_zero_arr] at hw1
  rw [← hw1]
  rw [← rp_zero_arr] at hw1
  have HB := Lib.hid (show Below w.heap.size w w1 from hw1 ▸ bal w _)
  have HZ := Lib.hid (show w1.heap[w.heap.size]? = some (.cells Rp.zero.arr 26 (0, 0)) from hw1 ▸ heap_alloc_new w _)
  clear hw1
  go_wp2_with (refine wpList_store_row rfl 26 _ _ rfl w.heap.size Rp.start.arr rfl rfl 26 Rp.zero.arr HZ.out (by rw [rp_row.2.1]; rfl) (by rfl) (Rp.one _) ?_)
  refine bodyPost_ret (v := .agg Rp.start.arr) (results_row1 Try.results66 _ _ w.heap.size 26 Rp.start.arr (0, 0) _ rfl (setRow_heap _ _ _ _ _ _ HZ.out) rp_row.1 rfl (by rw [rp_row.2.1]; rfl)) rfl ?_
  exact ⟨rfl, HB.out.trans (((Keeps.refl (· = w.heap.size) w1).setRow rfl _).below HB.out.size (fun m hm => by omega))⟩

/-- a block with a row, told by its facts -/
theorem admit_x (r : Rp) (i : Int) (k : Nat) (hi : i = (k : Int)) (c : Cel) (w : World) (hr : r.cells.length = 8) (hk : k < 8) (m : Rp) (hm : r.admitC k c = m) (b : Bool) (hb : decide (c.e = r.floor) = b) :
    Calls Try.prog 18 #[.agg r.arr, .int .i64 i, c.v] w fun e w' => e = .returned (.tuple #[.agg m.arr, .bool b]) ∧ Below w.heap.size w w' := by
  subst hi hm hb; exact admit_any r k c w hr hk

theorem newer_no {a b : Cel} (h : newerB a b = false) (w : World) : Calls Try.prog 20 #[a.v, b.v] w fun e w' => e = .returned (.bool false) ∧ Below w.heap.size w w' := by
  have := newer_any a b w
  rwa [h] at this
theorem eqg_rp : Try.prog.eqGuardType Try.prog.depth 26 = false := by kernel_rfl
theorem wpList_load_row_g {P : Program} {ops : Array Oper} {rest : List Oper} {o : Oper} {a : Act} {w : World} {Q : Exit → Act → World → Prop} (hw : Region.wanted o (yielded ops a.tmps) = true) (ty : TypeId) (x : Operand) (ho : o.op = .load ty x)
    (g : Nat) (hx : a.eval x = .pointer (some ⟨g, 0, none⟩)) (t : TypeId) (cs : Array Value) (fr : Nat × Nat) (d : TypeDesc) (hg : w.heap[g]? = some (.cells cs t fr))
    (hu : P.underlying ty = some d) (hd : (match d with | .struct _ | .array _ _ => true | _ => false) = true) (hi : (P.info? ty).map (·.size) = some cs.size)
    (h : wpList P ops Q rest (a.put o.dst (.agg cs)) w) : wpList P ops Q (o :: rest) a w := by
  unfold wpList
  rw [if_pos hw]
  exact .inl (wp_load_row ty x ho g hx t cs fr d hg hu hd hi h)
theorem wpQuiet_bin {P : Program} {ops : Array Oper} {rest : List Oper} {o : Oper} {a : Act} {C : World → Prop} {Q : Act → Prop} (hw : Region.wanted o (yielded ops a.tmps) = true) (op : BinOp) (t u : TypeId) (x y : Operand) (ho : o.op = .binOp op t x y u) (xs ys : Array Value)
    (hx : a.eval x = .agg xs) (hy : a.eval y = .agg ys) (hm : P.eqGuardType P.depth t = false) (v : Value) (hb : ∀ w, (binOp op t (.agg xs) (.agg ys)).run P w = .ok v w)
    (h : wpQuiet P ops C Q rest (a.put o.dst v)) : wpQuiet P ops C Q (o :: rest) a := by
  unfold wpQuiet
  rw [if_pos hw]
  refine ⟨v, fun w hC => ?_, h⟩
  unfold Oper.quietAt execOp
  simp only [ho, hx, hy, Sem.run_bind, Sem.run_pure, Result.andThen_ok, run_eqGuard_agg _ op t x y xs ys hm, hb]
  exact ⟨rfl, rfl⟩
theorem bel_row (wx : World) (z cs : Array Value) (T : TypeId) : Below wx.heap.size wx ((wx.alloc (.cells z T)).setRow wx.heap.size cs) :=
  (bal wx _).trans (((Keeps.refl (· = wx.heap.size) (wx.alloc (.cells z T))).setRow rfl _).below (bal wx _).size (fun m hm => by omega))
end Go.Proofs.Ytclhmpknkinjcaa
