/-
  Contract: (group.Group).Read.
-/
import Derived.Test.YtclhmpknkinjcaaGSync
namespace Go.Proofs.Ytclhmpknkinjcaa
open Go.RowKit Go.Sort

theorem results_rows_tmp {P : Program} {fn : Func} {p q r : Tmp} {ty ty' : TypeId} (h : fn.results = #[.cell p ty, .cell q ty', .tmp r]) (tmps : Array Value) (w : World) (g g' : Nat) (t t' : TypeId) (cs cs' : Array Value) (d d' : TypeDesc) (v : Value)
    (hp : tmps.getD p undef = .pointer (some ⟨g, 0, none⟩)) (hq : tmps.getD q undef = .pointer (some ⟨g', 0, none⟩)) (hv : tmps.getD r undef = v) (hg : w.heap[g]? = some (.cells cs t (0, 0))) (hg' : w.heap[g']? = some (.cells cs' t' (0, 0)))
    (hu : P.underlying ty = some d) (hd : (match d with | .struct _ | .array _ _ => true | _ => false) = true) (hi : (P.info? ty).map (·.size) = some cs.size)
    (hu' : P.underlying ty' = some d') (hd' : (match d' with | .struct _ | .array _ _ => true | _ => false) = true) (hi' : (P.info? ty').map (·.size) = some cs'.size) :
    (results fn tmps).run P w = .ok (.tuple #[.agg cs, .agg cs', v]) w := by
  have hp' : tmps[p]?.getD undef = .pointer (some ⟨g, 0, none⟩) := by simpa using hp
  have hq' : tmps[q]?.getD undef = .pointer (some ⟨g', 0, none⟩) := by simpa using hq
  have hv' : tmps[r]?.getD undef = v := by simpa using hv
  simp [results, h, hp', hq', hv', asAddr, run_loadVar_row w g t ty cs (0, 0) d hg hu hd hi, run_loadVar_row w g' t' ty' cs' (0, 0) d' hg' hu' hd' hi']

abbrev Cel.cells (c : Cel) : Array Value := #[.int .i64 c.e, .int .i64 c.n, .string c.d]
theorem cel_zero_arr : Cel.zero.cells = #[.int .i64 0, .int .i64 0, .string ⟨#[]⟩] := rfl
theorem cel_one (c : Cel) : c.cells.all (·.oneCell') = true := by simp [Cel.cells, Value.oneCell']
theorem built_cell0 : Try.prog.built 23 [] = some Cel.zero.cells := by kernel_rfl

def Gp.put1 (g : Gp) (k : Nat) (c : Cel) (x : Int) : Gp := g.setR x.toNat ⟨(g.r.getD x.toNat Rp.zero).floor, (g.r.getD x.toNat Rp.zero).cells.set k c⟩
def Gp.putAll (g : Gp) (k : Nat) (c : Cel) (l : List Int) : Gp := l.foldl (fun h x => h.put1 k c x) g
theorem Gp.putAll_snoc (g : Gp) (k : Nat) (c : Cel) (l : List Int) (x : Int) : g.putAll k c (l ++ [x]) = (g.putAll k c l).put1 k c x := by simp [Gp.putAll]
def Gp.readC (g : Gp) (epoch : Int) (k : Nat) : Cel := if 2 ≤ (g.mem epoch).length then bestL k (g.frm epoch) else Cel.zero
def Gp.read (g : Gp) (epoch : Int) (k : Nat) : Gp := if 2 ≤ (g.mem epoch).length then g.putAll k (g.readC epoch k) (g.mem epoch) else g
theorem Gp.put1_ok {g : Gp} (h : g.ok) (k : Nat) (c : Cel) {i : Nat} (hi : i < 3) : (g.put1 k c i).ok := h.setR _ (by simpa using Gp.getR h hi)
theorem Gp.putAll_ok {g : Gp} (h : g.ok) (k : Nat) (c : Cel) : ∀ l : List Int, (∀ x ∈ l, ∃ i : Nat, x = i ∧ i < 3) → (g.putAll k c l).ok := by
  intro l
  induction l generalizing g with
  | nil => intro _; exact h
  | cons x l ih =>
    intro hl
    obtain ⟨i, rfl, hi⟩ := hl x (by simp)
    exact ih (Gp.put1_ok h k c hi) (fun y hy => hl y (by simp [hy]))
theorem Gp.read_ok {g : Gp} (h : g.ok) (epoch : Int) (k : Nat) : (g.read epoch k).ok := by
  unfold Gp.read; split
  · exact Gp.putAll_ok h _ _ _ (fun x hx => by obtain ⟨i, h1, h2, -⟩ := Gp.mem_lt hx; exact ⟨i, h1, h2⟩)
  · exact h

structure RF (w : World) (h : Gp) (wx : World) : Prop where
  below : Below w.heap.size w wx
  ok : h.ok
  hG : wx.heap[w.heap.size]? = some (.cells h.arr 40 (0, 0))
  hZ : wx.heap[w.heap.size + 1]? = some (.cells Gp.zero.arr 40 (0, 0))
  hC : wx.heap[w.heap.size + 1 + 1]? = some (.cells Cel.zero.cells 23 (0, 0))
theorem RF.lt {w wx : World} {h : Gp} (f : RF w h wx) : w.heap.size + 1 + 1 < wx.heap.size := (Array.getElem?_eq_some_iff.1 f.hC).1
theorem RF.over {w wx w' : World} {h : Gp} (f : RF w h wx) (b : Below wx.heap.size wx w') : RF w h w' :=
  ⟨f.below.trans (b.mono f.below.size), f.ok, (b.block _ (by have := f.lt; omega)).trans f.hG, (b.block _ (by have := f.lt; omega)).trans f.hZ, (b.block _ f.lt).trans f.hC⟩
theorem RF.keeps {w wx w' : World} {h : Gp} {B : Nat} (f : RF w h wx) (k : Keeps (· = B) wx w') (hB : w.heap.size + 1 + 1 < B) : RF w h w' := by
  have := f.lt
  exact ⟨f.below.trans (k.below f.below.size (fun m hm => by omega)), f.ok, (k.block _ (by omega) (by omega)).trans f.hG, (k.block _ (by omega) (by omega)).trans f.hZ, (k.block _ (by omega) f.lt).trans f.hC⟩
theorem RF.done {w wx : World} {h : Gp} (f : RF w h wx) (cs cs' : Array Value) : Below w.heap.size w ((wx.setRow (w.heap.size + 1) cs).setRow (w.heap.size + 1 + 1) cs') :=
  f.below.trans ((((Keeps.refl (fun m => m = w.heap.size + 1 ∨ m = w.heap.size + 1 + 1) wx).setRow (.inl rfl) _).setRow (.inr rfl) _).below f.below.size (fun m hm => by omega))

/-- the best cell so far lies in a block behind -/
structure RB (w : World) (h : Gp) (B : Nat) (c : Cel) (wx : World) : Prop where
  rf : RF w h wx
  hB : wx.heap[B]? = some (.cells c.cells 23 (0, 0))
  lo : w.heap.size + 1 + 1 < B
theorem RB.lt {w wx : World} {h : Gp} {B : Nat} {c : Cel} (f : RB w h B c wx) : B < wx.heap.size := (Array.getElem?_eq_some_iff.1 f.hB).1
theorem RB.over {w wx w' : World} {h : Gp} {B : Nat} {c : Cel} (f : RB w h B c wx) (b : Below wx.heap.size wx w') : RB w h B c w' :=
  ⟨f.rf.over b, (b.block _ f.lt).trans f.hB, f.lo⟩
theorem RB.put {w wx : World} {h : Gp} {B : Nat} {c : Cel} (f : RB w h B c wx) (d : Cel) : RB w h B d (wx.setRow B d.cells) :=
  ⟨f.rf.keeps ((Keeps.refl (· = B) wx).setRow rfl _) f.lo, setRow_heap _ _ _ _ _ _ f.hB, f.lo⟩

theorem gp_rangeC {w : World} {N i k : Nat} {g : Gp} {T : TypeId} (h : w.heap[N]? = some (.cells g.arr T (0, 0))) (hg : g.ok) (hi : i < g.r.length) (hk : k < g.r[i].cells.length) : w.rangeAt N (i * 25 + 1 + k * 3) g.r[i].cells[k].cells.toList := by
  obtain ⟨⟨h0, h1, h2⟩, -⟩ := gp_cellA h hg hi hk
  intro j v hv
  match j, hv with
  | 0, hv => simp at hv; subst hv; exact h0
  | 1, hv => simp at hv; subst hv; exact h1
  | 2, hv => simp at hv; subst hv; exact h2
  | j + 3, hv => simp at hv
theorem RB.setC {w wx : World} {h : Gp} {B i k : Nat} {c : Cel} (f : RB w h B c wx) (hi : i < 3) (hk : k < 8) :
    RB w (h.put1 k c (i : Int)) B c (((wx.setCell ⟨w.heap.size, i * 25 + 1 + k * 3, none⟩ (.int .i64 c.e)).setCell ⟨w.heap.size, i * 25 + 1 + k * 3 + 1, none⟩ (.int .i64 c.n)).setCell ⟨w.heap.size, i * 25 + 1 + k * 3 + 2, none⟩ (.string c.d)) ∧
    Keeps (· = w.heap.size) wx (((wx.setCell ⟨w.heap.size, i * 25 + 1 + k * 3, none⟩ (.int .i64 c.e)).setCell ⟨w.heap.size, i * 25 + 1 + k * 3 + 1, none⟩ (.int .i64 c.n)).setCell ⟨w.heap.size, i * 25 + 1 + k * 3 + 2, none⟩ (.string c.d)) := by
  have kp : Keeps (· = w.heap.size) wx (((wx.setCell ⟨w.heap.size, i * 25 + 1 + k * 3, none⟩ (.int .i64 c.e)).setCell ⟨w.heap.size, i * 25 + 1 + k * 3 + 1, none⟩ (.int .i64 c.n)).setCell ⟨w.heap.size, i * 25 + 1 + k * 3 + 2, none⟩ (.string c.d)) :=
    Keeps.setCell (S := (· = w.heap.size)) (Keeps.setCell (S := (· = w.heap.size)) (Keeps.setCell (S := (· = w.heap.size)) (Keeps.refl _ _) rfl _) rfl _) rfl _
  have hir : i < h.r.length := by rw [f.rf.ok.r3]; exact hi
  have hkr : k < h.r[i].cells.length := by rw [f.rf.ok.c8 _ (List.getElem_mem hir)]; exact hk
  have hlt := f.rf.lt
  have hlo := f.lo
  have e : h.put1 k c (i : Int) = h.setR i ⟨h.r[i].floor, h.r[i].cells.set k c⟩ := by simp [Gp.put1, hir]
  refine ⟨⟨⟨f.rf.below.trans (kp.below f.rf.below.size (fun m hm => by omega)), Gp.put1_ok f.rf.ok k c hi, ?_, (kp.block _ (by omega) (by omega)).trans f.rf.hZ, (kp.block _ (by omega) hlt).trans f.rf.hC⟩, (kp.block _ (by omega) f.lt).trans f.hB, f.lo⟩, kp⟩
  rw [e]
  exact gp_setCA f.rf.hG f.rf.ok hir hkr c

set_option maxRecDepth 100000 in
set_option maxHeartbeats 2000000 in
theorem gread_any (g : Gp) (epoch : Int) (k : Nat) (w : World) (hg : g.ok) (hk8 : k < 8) :
    Calls Try.prog 29 #[.agg g.arr, .int .i64 epoch, .int .i64 k] w fun e w' => e = .returned (.tuple #[.agg (g.read epoch k).arr, .agg (g.readC epoch k).cells, .bool (decide (2 ≤ (g.mem epoch).length))]) ∧ Below w.heap.size w w' := by
  have OK := Lib.hid hg
  have Z := Lib.hid (Gp.size hg)
  clear hg
  go_enter Try.func29, Try.ntmps29
  go_upto_region 1 with fail
  obtain ⟨w1, hw1⟩ : ∃ w1, w1 = ((w.alloc (.cells g.arr 40)).alloc (.cells Gp.zero.arr 40)).alloc (.cells Cel.zero.cells 23) := ⟨_, rfl⟩
  have hw1' := hw1
  rw [← gp_zero_arr] at hw1
  rw [cel_zero_arr] at hw1
  rw [← hw1]
  clear hw1
  have F1 := Lib.hid (show RF w g w1 from hw1' ▸ ⟨bal3a w _ _ _, OK.out, (heap3 w _ _ _).1, (heap3 w _ _ _).2.1, (heap3 w _ _ _).2.2⟩)
  clear hw1'
  have hw1N : w.heap.size + 1 + 1 < w1.heap.size := F1.out.lt
  go_wp2_with ((with_reducible refine ld_row1 rfl 40 _ rfl ?_); refine ⟨w.heap.size, _, g.arr, _, rfl, F1.out.hG, gp_row.1, rfl, by rw [gp_row.2, Z.out], ?_⟩)
  refine (members_any g _ _ OK.out).mono ?_
  rintro e w2 ⟨a2, c2, rfl, hown, b2⟩
  have F2 := Lib.hid (F1.out.over b2)
  have HI := Lib.hid hown.hi
  obtain ⟨m, hm⟩ : ∃ m, (g.mem epoch).length = m := ⟨_, rfl⟩
  rw [hm]
  have HM := Lib.hid hm
  have hm3 : m ≤ 3 := hm ▸ g.mem_len epoch 3
  clear hm b2 F1 hown
  by_cases hm2 : m < 2
  · have HN := Lib.hid (show g.read epoch k = g ∧ g.readC epoch k = Cel.zero ∧ decide (2 ≤ (g.mem epoch).length) = false from by
      have : ¬ 2 ≤ (g.mem epoch).length := by rw [HM.out]; omega
      exact ⟨if_neg this, if_neg this, decide_eq_false this⟩)
    obtain ⟨C0, hC0⟩ : ∃ C0, Cel.zero = C0 := ⟨_, rfl⟩
    have BC := Lib.hid (show Try.prog.built 23 [] = some C0.cells from hC0 ▸ built_cell0)
    have HZC := Lib.hid (show w2.heap[w.heap.size + 1 + 1]? = some (.cells C0.cells 23 (0, 0)) from hC0 ▸ F2.out.hC)
    rw [hC0] at HN
    clear hC0
    go_wp2_with (first | ((with_reducible refine bld1 rfl 23 _ rfl ?_); refine ⟨[], C0.cells, rfl, BC.out, ?_⟩) | ((with_reducible refine ld_row1 rfl 40 _ rfl ?_); refine ⟨w.heap.size, _, g.arr, _, rfl, F2.out.hG, gp_row.1, rfl, by rw [gp_row.2, Z.out], ?_⟩) | ((with_reducible refine st_row1 rfl 40 _ _ rfl ?_); refine ⟨w.heap.size + 1, _, g.arr, _, rfl, rfl, F2.out.hZ, by rw [gp_row.2, Z.out], by rw [Z.out]; rfl, Gp.one _, ?_⟩) | ((with_reducible refine st_row1 rfl 23 _ _ rfl ?_); refine ⟨w.heap.size + 1 + 1, _, C0.cells, _, rfl, rfl, (setRow_other _ _ _ _ (by omega)).trans HZC.out, cell_row.2, rfl, cel_one _, ?_⟩))
    refine bodyPost_ret (v := .tuple #[.agg g.arr, .agg C0.cells, .bool false]) (results_rows_tmp Try.results29 _ _ (w.heap.size + 1) (w.heap.size + 1 + 1) 40 23 g.arr C0.cells _ _ _ rfl rfl rfl ((setRow_other _ _ _ _ (by omega)).trans (setRow_heap _ _ _ _ _ _ F2.out.hZ)) (setRow_heap _ _ _ _ _ _ ((setRow_other _ _ _ _ (by omega)).trans HZC.out)) gp_row.1 rfl (by rw [gp_row.2, Z.out]) cell_row.1 rfl cell_row.2) rfl ?_
    exact ⟨by rw [HN.out.1, HN.out.2.1, HN.out.2.2], F2.out.done _ _⟩
  · have hm2' : 2 ≤ (g.mem epoch).length := by rw [HM.out]; omega
    have HD := Lib.hid (show decide (2 ≤ (g.mem epoch).length) = true from decide_eq_true hm2')
    obtain ⟨L, hL⟩ : ∃ L, g.frm epoch = L := ⟨_, rfl⟩
    have HC := Lib.hid (show g.readC epoch k = bestL k L from hL ▸ if_pos hm2')
    have HN := Lib.hid (show g.read epoch k = g.putAll k (bestL k L) (g.mem epoch) from by rw [← HC.out]; exact if_pos hm2')
    have LM := Lib.hid (show L.length = m from by rw [← hL, ← HM.out]; simp [Gp.frm])
    have LAT := Lib.hid (show ∀ j (h : j < (g.mem epoch).length), ∃ i' : Nat, i' < 3 ∧ (g.mem epoch)[j] = (i' : Int) ∧ L[j]? = some (g.r.getD i' Rp.zero) from fun j h => by
      obtain ⟨i', e, h3, -⟩ := Gp.mem_lt (List.getElem_mem h)
      refine ⟨i', h3, e, ?_⟩
      rw [← hL]
      unfold Gp.frm
      rw [List.getElem?_map, List.getElem?_eq_getElem h, e]
      rfl)
    have hd2 : decide ((m : Int) < 2) = false := by simp; omega
    have hk8' : (k : Int) < 8 := by omega
    clear hm2' hL
    go_upto_region 5 with fail
    obtain ⟨w3, hw3⟩ : ∃ w3, w3 = w2.alloc (.cells Cel.zero.cells 23) := ⟨_, rfl⟩
    have hw3' := hw3
    rw [cel_zero_arr] at hw3
    rw [← hw3]
    clear hw3
    have R3 := Lib.hid (show RB w g w2.heap.size Cel.zero w3 from hw3' ▸ ⟨F2.out.over (bal w2 _), heap_alloc_new _ _, F2.out.lt⟩)
    have K3 := Lib.hid (show Below w2.heap.size w2 w3 from hw3' ▸ bal w2 _)
    clear hw3'
    obtain ⟨B, hB⟩ : ∃ B, w2.heap.size = B := ⟨_, rfl⟩
    rw [hB] at R3 K3
    rw [hB]
    have HBB := Lib.hid hB
    clear hB F2
    have hB2 : w.heap.size + 1 + 1 < B := R3.out.lo
    go_wp2
    go_loopw [12, 25] (fun _ i wr => ∃ j : Nat, j ≤ m ∧ i = .int .i64 j ∧ RB w g B (bestL k (L.take j)) wr ∧ Below B w2 wr) (fun _ i _ => m - (intOf i).toNat)
    case atStart => exact ⟨0, by omega, rfl, R3.out, K3.out⟩
    case round =>
      obtain ⟨j, hj, rfl, rb, hb⟩ := hrel
      obtain ⟨b, hbb⟩ : ∃ b, bestL k (L.take j) = b := ⟨_, rfl⟩
      rw [hbb] at rb
      have RBH := Lib.hid rb
      have HB := Lib.hid hb
      have BB := Lib.hid hbb
      clear rb hb hbb R3 K3
      by_cases hjm : j < m
      · obtain ⟨i', h3, hx, hLj⟩ := LAT.out j (by rw [HM.out]; exact hjm)
        obtain ⟨bb, oo, rfl, -, hbk, hcell⟩ := HI.out j (by rw [HM.out]; exact hjm)
        rw [hx] at hcell
        rw [HBB.out] at hbk
        have c0 := (HB.out.cell (p := ⟨bb, oo + j, none⟩) hbk).trans hcell
        have h3i : (i' : Int) < 3 := by omega
        have hkr : i' < g.r.length := by rw [OK.out.r3]; exact h3
        have hkc : k < g.r[i'].cells.length := by rw [OK.out.c8 _ (List.getElem_mem hkr)]; exact hk8
        obtain ⟨⟨g0, g1, g2⟩, -⟩ := gp_cellA RBH.out.rf.hG OK.out hkr hkc
        obtain ⟨d, hd⟩ : ∃ d, g.r[i'].cells[k] = d := ⟨_, rfl⟩
        rw [hd] at g0 g1 g2
        obtain ⟨b0, b1, b2⟩ := cell_box RBH.out.hB
        obtain ⟨X, hX⟩ : ∃ X, newerB d b = X := ⟨_, rfl⟩
        have hjl : j < L.length := by rw [LM.out]; exact hjm
        have HT := Lib.hid (show bestL k (L.take (j + 1)) = if X then d else b from by
          have e : L[j].get k = d := by
            have e2 : L[j] = g.r[i'] := by
              have := hLj
              rw [List.getElem?_eq_getElem hjl] at this
              simpa [hkr] using this
            rw [e2, Rp.get_at hkc, hd]
          rw [bestL_take hjl, e, BB.out, hX])
        have NW := Lib.hid (fun (w : World) => newer_x hX w)
        have hN0 : w.heap.size < wr.heap.size := by have := RBH.out.rf.lt; omega
        have hNB : B < wr.heap.size := RBH.out.lt
        have hq := bregrown (Below.refl wr.heap.size wr)
        have RCF := Lib.hid (show ∀ w' : World, w'.heap[w.heap.size]? = some (.cells g.arr 40 (0, 0)) → w'.rangeAt w.heap.size (i' * 25 + 1 + k * 3) d.cells.toList from fun w' h => hd ▸ gp_rangeC h OK.out hkr hkc)
        clear hd hX hkr hkc hLj hjl hx hcell
        go_upto_region 8 with fail
        go_cut [37] (fun v wx => v = .bool X ∧ Below wr.heap.size wr wx)
        case first =>
          refine wp_region_quiet_below (by kernel_rfl) (by kernel_rfl) ?_
          repeat (go_big_quiet_step (exact Calls.regrown_of (NW.out _)))
          refine wpQuiet_nil ?_
          rintro w' ⟨⟨dq, osq⟩, rfl⟩
          go_wp2_with fail
          go_meet
          exact ⟨rfl, below_regrown _ dq osq⟩
        case rest =>
          obtain ⟨wo, rfl⟩ : ∃ wo : World, wo = wr := ⟨_, rfl⟩
          obtain ⟨rfl, b4⟩ := hcut
          have RB4 := Lib.hid (RBH.out.over b4)
          have HB4 := Lib.hid (HB.out.trans (b4.mono (by omega)))
          clear b4 hq
          cases X
          · go_wp2
            go_roundw
            case rel => exact ⟨j + 1, by omega, by go_num, by rw [HT.out]; exact RB4.out, HB4.out⟩
            case measure => simp [intOf]; omega
          · have RB5 := Lib.hid (RB4.out.put d)
            have KB5 := Lib.hid (HB4.out.trans (((Keeps.refl (· = B) wc).setRow (g := B) rfl d.cells).below (Nat.le_of_lt RB4.out.lt) (fun m hm => by omega)))
            go_wp2_with (first | ((with_reducible refine ld_mid1 rfl 23 _ rfl ?_); refine ⟨w.heap.size, i' * 25 + 1 + k * 3, d.cells, _, rfl, RCF.out _ RB4.out.rf.hG, cell_row.1, rfl, cell_row.2, ?_⟩) | ((with_reducible refine st_row1 rfl 23 _ _ rfl ?_); refine ⟨B, _, d.cells, _, rfl, rfl, RB4.out.hB, cell_row.2, rfl, cel_one _, ?_⟩))
            go_roundw
            case rel => exact ⟨j + 1, by omega, by go_num, by rw [HT.out]; exact RB5.out, KB5.out⟩
            case measure => simp [intOf]; omega
      · obtain rfl : j = m := by omega
        rw [List.take_of_length_le (by rw [LM.out]; exact Nat.le_refl _)] at BB
        have HCb := Lib.hid (HC.out.trans BB.out)
        have HNb := Lib.hid (show g.read epoch k = g.putAll k b (g.mem epoch) from by rw [HN.out, BB.out])
        clear HC HN BB
        go_wp2
        obtain ⟨wq, rfl⟩ : ∃ wq : World, wq = wr := ⟨_, rfl⟩
        go_loopw [14, 48] (fun _ i wy => ∃ p : Nat, p ≤ j ∧ i = .int .i64 p ∧ RB w (g.putAll k b ((g.mem epoch).take p)) B b wy ∧ Keeps (· = w.heap.size) wq wy) (fun _ i _ => j - (intOf i).toNat)
        case atStart => exact ⟨0, by omega, rfl, RBH.out, Keeps.refl _ _⟩
        case round =>
          obtain ⟨p, hp, rfl, rb, kp⟩ := hrel
          obtain ⟨h, hh⟩ : ∃ h, g.putAll k b ((g.mem epoch).take p) = h := ⟨_, rfl⟩
          rw [hh] at rb
          have RH := Lib.hid rb
          have KP := Lib.hid kp
          have HH := Lib.hid hh
          clear rb kp hh
          by_cases hpj : p < j
          · obtain ⟨i', h3, hx, -⟩ := LAT.out p (by rw [HM.out]; exact hpj)
            obtain ⟨bb, oo, rfl, hlo, hbk, hcell⟩ := HI.out p (by rw [HM.out]; exact hpj)
            have HP1 := Lib.hid (show g.putAll k b ((g.mem epoch).take (p + 1)) = h.put1 k b (i' : Int) from by
              rw [List.take_succ_eq_append_getElem (by rw [HM.out]; exact hpj), Gp.putAll_snoc, HH.out, hx])
            rw [hx] at hcell
            rw [HBB.out] at hbk
            have c0 := ((KP.out.cell (b := bb) (o := oo + p) (by omega) (by have := RBH.out.lt; omega)).trans ((HB.out.cell (p := ⟨bb, oo + p, none⟩) hbk).trans hcell))
            have h3i : (i' : Int) < 3 := by omega
            clear hx hcell
            go_upto_region 14 with fail
            refine region_tail1 7 (by kernel_rfl) (by kernel_rfl) ?_
            intro wd hwd hwh
            have RD := Lib.hid (RH.out.over hwd)
            have KD := Lib.hid (KP.out.trans (Keeps.of_below hwd))
            obtain ⟨b0, b1, b2⟩ := cell_box RD.out.hB
            have hir : i' < h.r.length := by rw [RD.out.rf.ok.r3]; exact h3
            obtain ⟨-, f0, f1, f2⟩ := gp_cellA (k := k) RD.out.rf.hG RD.out.rf.ok hir (by rw [RD.out.rf.ok.c8 _ (List.getElem_mem hir)]; exact hk8)
            obtain ⟨⟨g0, g1, g2⟩, -⟩ := gp_cellA (k := k) RD.out.rf.hG RD.out.rf.ok hir (by rw [RD.out.rf.ok.c8 _ (List.getElem_mem hir)]; exact hk8)
            have RS := Lib.hid (RD.out.setC (i := i') h3 hk8)
            clear hwd hwh c0
            simp only [List.take_succ_cons, List.take_zero, List.drop_succ_cons, List.drop_zero]
            repeat still_step
            refine wpStill_nil ?_
            go_wp2
            go_roundw
            case rel => exact ⟨p + 1, by omega, by go_num, by rw [HP1.out]; exact RS.out.1, KD.out.trans RS.out.2⟩
            case measure => simp [intOf]; omega
          · obtain rfl : p = j := by omega
            rw [List.take_of_length_le (by rw [HM.out]; exact Nat.le_refl _)] at HH
            have HR := Lib.hid (HNb.out.trans HH.out)
            have ZH := Lib.hid (Gp.size RH.out.rf.ok)
            clear HNb HH
            go_wp2_with fail
            have RD := Lib.hid (RH.out.over (Below.refl _ _).drew)
            clear RH KP
            obtain ⟨T, hT⟩ : ∃ T : World → Prop, T = fun w' => w'.heap[w.heap.size]? = some (.cells h.arr 40 (0, 0)) ∧ w'.heap[B]? = some (.cells b.cells 23 (0, 0)) := ⟨_, rfl⟩
            have T1 : ∀ w', T w' → w'.heap[w.heap.size]? = some (.cells h.arr 40 (0, 0)) := fun w' h => by rw [hT] at h; exact h.1
            have T2 : ∀ w', T w' → w'.heap[B]? = some (.cells b.cells 23 (0, 0)) := fun w' h => by rw [hT] at h; exact h.2
            have T3 : ∀ w', w'.heap[w.heap.size]? = some (.cells h.arr 40 (0, 0)) → w'.heap[B]? = some (.cells b.cells 23 (0, 0)) → T w' := fun w' h1 h2 => by rw [hT]; exact ⟨h1, h2⟩
            clear hT
            refine wp_region_held_drew (S := T) (by kernel_rfl) (T3 _ RD.out.rf.hG RD.out.hB) (fun hHeld => ?_)
            refine wpAnyH_take (i := 0) (oi := _) (v := .agg h.arr) rfl (by kernel_rfl) (by kernel_rfl) (by kernel_rfl) (fun _ _ _ h => h) (yieldsIf_load_row (by rfl) 40 _ rfl w.heap.size rfl 40 h.arr (0, 0) _ T1 gp_row.1 rfl (by rw [gp_row.2, ZH.out])) hHeld ?_
            simp only [Act.put, List.getElem_toArray, List.getElem_cons_zero, List.setIfInBounds_toArray, List.set_cons_zero, List.set_cons_succ]
            refine wpAnyH_take (i := 1) (oi := _) (v := .agg b.cells) rfl (by kernel_rfl) (by kernel_rfl) (by kernel_rfl) (fun _ _ _ h => h) (yieldsIf_load_row (by rfl) 23 _ rfl B rfl 23 b.cells (0, 0) _ T2 cell_row.1 rfl cell_row.2) hHeld ?_
            simp only [Act.put, List.getElem_toArray, List.getElem_cons_zero, List.getElem_cons_succ, List.setIfInBounds_toArray, List.set_cons_zero, List.set_cons_succ]
            refine wpAnyH_ready (rs := [2]) (by kernel_rfl) (by simp) ?_
            refine AllReadyH.cons (o := _) rfl (fun K hK => ?_) AllReadyH.nil
            refine step_store_row rfl 40 _ _ rfl (w.heap.size + 1) h.arr rfl rfl 40 Gp.zero.arr RD.out.rf.hZ (by rw [gp_row.2, ZH.out]) (by rw [ZH.out]; rfl) (Gp.one _) ?_
            refine hK.out _ _ (T3 _ ((setRow_other _ _ _ _ (by omega)).trans RD.out.rf.hG) ((setRow_other _ _ _ _ (by omega)).trans RD.out.hB)) (fun hHeld2 => ?_)
            clear hK K
            simp only [Act.put, List.getElem_toArray, List.getElem_cons_zero, List.getElem_cons_succ]
            refine wpAnyH_ready (rs := [3]) (by kernel_rfl) (by simp) ?_
            refine AllReadyH.cons (o := _) rfl (fun K hK => ?_) AllReadyH.nil
            refine step_store_row rfl 23 _ _ rfl (w.heap.size + 1 + 1) b.cells rfl rfl 23 Cel.zero.cells ((setRow_other _ _ _ _ (by omega)).trans RD.out.rf.hC) cell_row.2 rfl (cel_one _) ?_
            refine hK.out _ _ (T3 _ ((setRow_other _ _ _ _ (by omega)).trans ((setRow_other _ _ _ _ (by omega)).trans RD.out.rf.hG)) ((setRow_other _ _ _ _ (by omega)).trans ((setRow_other _ _ _ _ (by omega)).trans RD.out.hB))) (fun hHeld3 => ?_)
            clear hK K
            simp only [Act.put, List.getElem_toArray, List.getElem_cons_zero, List.getElem_cons_succ]
            refine wpAnyH_ready (rs := [4]) (by kernel_rfl) (by simp) ?_
            refine AllReadyH.cons (o := _) rfl (fun K hK => ?_) AllReadyH.nil
            go_simp
            refine hK.out _ _ hHeld3 (fun hHeld4 => ?_)
            clear hK K
            refine wpAnyH_done (by kernel_rfl) ?_ _
            go_wp2
            refine bodyPost_ret (v := .tuple #[.agg h.arr, .agg b.cells, .bool true]) (results_rows_tmp Try.results29 _ _ (w.heap.size + 1) (w.heap.size + 1 + 1) 40 23 h.arr b.cells _ _ _ rfl rfl rfl ((setRow_other _ _ _ _ (by omega)).trans (setRow_heap _ _ _ _ _ _ RD.out.rf.hZ)) (setRow_heap _ _ _ _ _ _ ((setRow_other _ _ _ _ (by omega)).trans RD.out.rf.hC)) gp_row.1 rfl (by rw [gp_row.2, ZH.out]) cell_row.1 rfl cell_row.2) rfl ?_
            exact ⟨by rw [HR.out, HCb.out, HD.out], RD.out.rf.done _ _⟩
end Go.Proofs.Ytclhmpknkinjcaa
