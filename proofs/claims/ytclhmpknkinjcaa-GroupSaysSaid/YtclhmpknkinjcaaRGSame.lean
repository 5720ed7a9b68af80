/-
  Contract: asGroup of two groups that are alike; a closed fact on groups.
-/
import Derived.Test.YtclhmpknkinjcaaRGDeliver
import Derived.Test.YtclhmpknkinjcaaTopFence
namespace Go.Proofs.Ytclhmpknkinjcaa
open Go.RowKit Go.Sort

theorem eqg_cells : Try.prog.eqGuardType Try.prog.depth 24 = false := by kernel_rfl
theorem neq_cells_self (l : List Cel) (h : l.length = 8) (w : World) : (binOp .neq 24 (.agg (flat l).toArray) (.agg (flat l).toArray)).run Try.prog w = .ok (.bool false) w := by
  rw [run_neq_struct, eq_cells 9997 l l h h]; simp
theorem gp_rangeL {w : World} {N i : Nat} {g : Gp} {T : TypeId} (h : w.heap[N]? = some (.cells g.arr T (0, 0))) (hg : g.ok) (hi : i < g.r.length) : w.rangeAt N (i * 25 + 1) (flat g.r[i].cells).toArray.toList := fun j v hv => by
  have := (gp_range h hg hi).1 (j + 1) v (by unfold Rp.arr; simpa using hv)
  rw [← this]; congr 2; omega
theorem below_block {w w' : World} {k : Nat} {o : Obj} (h : w.heap[k]? = some o) (b : Below w.heap.size w w') : w'.heap[k]? = some o := (b.block _ (Array.getElem?_eq_some_iff.1 h).1).trans h

set_option maxRecDepth 100000 in
set_option maxHeartbeats 2000000 in
theorem asgroup_any (g : Gp) (G : Nat) (w : World) (hg : g.ok) (h : w.heap[G]? = some (.cells g.arr 55 (0, 0))) :
    Calls Try.prog 35 #[.agg g.arr, .pointer (some ⟨G, 0, none⟩)] w fun e w' => e = .returned (.bool true) ∧ Below w.heap.size w w' := by
  have OK := Lib.hid hg
  have HG := Lib.hid h
  have hlt : G < w.heap.size := (Array.getElem?_eq_some_iff.1 h).1
  clear hg h
  go_enter Try.func35, Try.ntmps35
  go_upto_region 1 with fail
  obtain ⟨w1, hw1⟩ : ∃ w1, w1 = w.alloc (.cells g.arr 40) := ⟨_, rfl⟩
  rw [← hw1]
  have B1 := Lib.hid (show Below w.heap.size w w1 from hw1 ▸ bal w _)
  have A1 := Lib.hid (show w1.heap[w.heap.size]? = some (.cells g.arr 40 (0, 0)) from hw1 ▸ heap_alloc_new w _)
  have G1 := Lib.hid (below_block HG.out B1.out)
  clear hw1 HG
  go_wp2
  go_loopw [5] (fun i wr => ∃ k : Nat, k ≤ 3 ∧ i = .int .i64 k ∧ Below w1.heap.size w1 wr) (fun i _ => 3 - (intOf i).toNat)
  case atStart => exact ⟨0, by omega, rfl, Below.refl _ _⟩
  case round =>
    obtain ⟨k, hk, rfl, hb⟩ := hrel
    have HB := Lib.hid hb
    clear hb
    by_cases hk3 : k < 3
    · have hkr : k < g.r.length := by rw [OK.out.r3]; exact hk3
      have hku : k < g.u.length := by rw [OK.out.u3]; exact hk3
      have AR := Lib.hid (below_block A1.out HB.out)
      have GR := Lib.hid (below_block G1.out HB.out)
      obtain ⟨u0, -⟩ := gp_up AR.out OK.out hku
      obtain ⟨f0, -⟩ := gp_floor AR.out OK.out hkr
      obtain ⟨u1, -⟩ := gp_up GR.out OK.out hku
      obtain ⟨f1, -⟩ := gp_floor GR.out OK.out hkr
      obtain ⟨U, hU⟩ : ∃ U, g.u[k] = U := ⟨_, rfl⟩
      obtain ⟨F, hF⟩ : ∃ F, g.r[k].floor = F := ⟨_, rfl⟩
      rw [hU] at u0 u1
      rw [hF] at f0 f1
      obtain ⟨C, hC⟩ : ∃ C, g.r[k].cells = C := ⟨_, rfl⟩
      have C8 := Lib.hid (show C.length = 8 from hC ▸ OK.out.c8 _ (List.getElem_mem hkr))
      have QA := Lib.hid (fun d os => show (World.rangeAt _ _ _ _ : Prop) from hC ▸ gp_rangeL (below_block AR.out (below_regrown wr d os)) OK.out hkr)
      have QG := Lib.hid (fun d os => show (World.rangeAt _ _ _ _ : Prop) from hC ▸ gp_rangeL (below_block GR.out (below_regrown wr d os)) OK.out hkr)
      have ZC := Lib.hid (flat_size C8.out)
      have hki : (k : Int) < 3 := by omega
      have NE := neq_cells_self C C8.out
      have hgu := eqg_cells
      have hUU : (U != U) = false := by simp
      have hFF : (F != F) = false := by simp
      have hq := bregrown (Below.refl wr.heap.size wr)
      have hv0 : w.heap.size < wr.heap.size := (Array.getElem?_eq_some_iff.1 AR.out).1
      have hv1 : G < wr.heap.size := by omega
      clear hU hF hC hkr hku
      go_upto_region 4 with fail
      go_cut [50] (fun v wx => v = .bool false ∧ Below wr.heap.size wr wx)
      case first =>
        refine wp_region_quiet_below (by kernel_rfl) (by kernel_rfl) ?_
        repeat (first | ((with_reducible refine qld_mid1 24 _ rfl ?_); refine ⟨by rfl, w.heap.size, k * 25 + 1, (flat C).toArray, _, rfl, (by rintro w' ⟨⟨d, os⟩, rfl⟩; exact QA.out d os), cells_row.1, rfl, (by rw [cells_row.2, ZC.out]), ?_⟩; simp only [Act.put, List.setIfInBounds_toArray, List.set_cons_zero, List.set_cons_succ]) | ((with_reducible refine qld_mid1 24 _ rfl ?_); refine ⟨by rfl, G, k * 25 + 1, (flat C).toArray, _, rfl, (by rintro w' ⟨⟨d, os⟩, rfl⟩; exact QG.out d os), cells_row.1, rfl, (by rw [cells_row.2, ZC.out]), ?_⟩; simp only [Act.put, List.setIfInBounds_toArray, List.set_cons_zero, List.set_cons_succ]) | ((with_reducible refine qneq1 .neq 24 _ _ _ rfl ?_); refine ⟨by rfl, (flat C).toArray, (flat C).toArray, .bool false, rfl, rfl, hgu, NE, ?_⟩; simp only [Act.put, List.setIfInBounds_toArray, List.set_cons_zero, List.set_cons_succ]) | go_big_quiet_step (fail))
        refine wpQuiet_nil ?_
        rintro w' ⟨⟨dq, osq⟩, rfl⟩
        go_wp2_with fail
        go_meet
        exact ⟨rfl, below_regrown _ dq osq⟩
      case rest =>
        obtain ⟨rfl, b4⟩ := hcut
        have HB4 := Lib.hid (HB.out.trans (b4.mono HB.out.size))
        clear b4
        go_wp2
        go_roundw
        case rel => exact ⟨k + 1, by omega, by go_num, HB4.out⟩
        case measure => simp [intOf]; omega
    · obtain rfl : k = 3 := by omega
      go_wp2
      go_ret
      exact ⟨rfl, B1.out.trans (HB.out.mono B1.out.size)⟩

set_option maxRecDepth 100000 in
set_option maxHeartbeats 1000000 in
theorem groups_any (w : World) : Calls Try.prog 23 #[] w fun e w' => e = .returned (.bool true) ∧ Below w.heap.size w w' := by
  go_enter Try.func23, Try.ntmps23
  go_wp2_with fail
  refine (gnew_any _).mono ?_
  rintro e w2 ⟨rfl, b2⟩
  obtain ⟨S, hS⟩ : ∃ S, Gp.start = S := ⟨_, rfl⟩
  rw [hS]
  have SOK := Lib.hid (show S.ok from hS ▸ startTo_ok 3 (by omega))
  have GC := Lib.hid (show decide (2 ≤ ((S.fence 2).mem 2).length) = true ∧ ((S.fence 2).mem 2).length = 3 from hS ▸ grouped_closed)
  have ZS := Lib.hid (Gp.size SOK.out)
  have B2 := Lib.hid b2
  clear hS b2
  have HW := Lib.hid (show (w2.alloc (.cells Try.zeroCells40 40)).heap[w2.heap.size]? = some (.cells Gp.zero.arr 40 (0, 0)) from gp_zero_arr ▸ heap_alloc_new w2 _)
  go_upto_region 2 with ((with_reducible refine st_row1 rfl 40 _ _ rfl ?_); refine ⟨w2.heap.size, _, S.arr, Gp.zero.arr, rfl, rfl, HW.out, by rw [gp_row.2, ZS.out], by rw [ZS.out]; rfl, Gp.one _, ?_⟩)
  obtain ⟨w3, hw3⟩ : ∃ w3, w3 = (w2.alloc (.cells Try.zeroCells40 40)).setRow w2.heap.size S.arr := ⟨_, rfl⟩
  rw [← hw3]
  have H3 := Lib.hid (show w3.heap[w2.heap.size]? = some (.cells S.arr 40 (0, 0)) from hw3 ▸ setRow_heap _ _ _ _ _ _ HW.out)
  have B3 := Lib.hid (show Below w.heap.size w w3 from B2.out.trans ((hw3 ▸ bel_row w2 _ _ _ : Below w2.heap.size w2 w3).mono B2.out.size))
  have hlo : w.heap.size ≤ w2.heap.size := B2.out.size
  clear hw3 HW B2
  obtain ⟨G, hG⟩ : ∃ G, w2.heap.size = G := ⟨_, rfl⟩
  rw [hG] at H3 hlo
  rw [hG]
  clear hG
  go_wp2_with ((with_reducible refine ld_row1 rfl 40 _ rfl ?_); refine ⟨G, _, S.arr, _, rfl, H3.out, gp_row.1, rfl, by rw [gp_row.2, ZS.out], ?_⟩)
  refine (gfence_any S 2 _ SOK.out (by omega)).mono ?_
  rintro e w5 ⟨rfl, b5⟩
  rw [GC.out.1]
  obtain ⟨Y, hY⟩ : ∃ Y, S.fence 2 = Y := ⟨_, rfl⟩
  have YOK := Lib.hid (show Y.ok from hY ▸ Gp.fence_ok SOK.out _)
  rw [hY] at GC ⊢
  have ZY := Lib.hid (Gp.size YOK.out)
  have H5 := Lib.hid ((b5.block _ (Array.getElem?_eq_some_iff.1 H3.out).1).trans H3.out)
  have B5 := Lib.hid (B3.out.trans (b5.mono B3.out.size))
  have H6 := Lib.hid (setRow_heap _ _ _ Y.arr _ _ H5.out)
  have B6 := Lib.hid (B5.out.trans (((Keeps.refl (· = G) w5).setRow (g := G) rfl Y.arr).below B5.out.size (fun m hm => by omega)))
  clear b5 hY
  go_wp2_with (first | ((with_reducible refine st_row1 rfl 40 _ _ rfl ?_); refine ⟨G, _, Y.arr, _, rfl, rfl, H5.out, by rw [gp_row.2, ZY.out], by rw [ZS.out, ZY.out], Gp.one _, ?_⟩) | (refine wpList_load_row_g (by rfl) 40 _ rfl G rfl 40 Y.arr (0, 0) _ H6.out gp_row.1 rfl (by rw [gp_row.2, ZY.out]) ?_))
  refine (members_any Y 2 _ YOK.out).mono ?_
  rintro e w7 ⟨a7, c7, rfl, -, b7⟩
  rw [GC.out.2]
  have B7 := Lib.hid (B6.out.trans (b7.mono B6.out.size))
  clear b7
  go_wp2
  go_ret
  exact ⟨rfl, B7.out⟩
end Go.Proofs.Ytclhmpknkinjcaa
