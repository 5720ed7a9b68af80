/-
  Contracts: the document's (*Group).newest, NewGroup.
-/
import Derived.Test.YtclhmpknkinjcaaRGMem
namespace Go.Proofs.Ytclhmpknkinjcaa
open Go.RowKit Go.Sort

/-- the best so far in its box, the result's place ahead of it -/
structure NB (w : World) (b : Cel) (wx : World) : Prop where
  below : Below w.heap.size w wx
  hR : wx.heap[w.heap.size]? = some (.cells Cel.zero.cells 23 (0, 0))
  hB : wx.heap[w.heap.size + 1]? = some (.cells b.cells 23 (0, 0))
theorem NB.lt {w wx : World} {b : Cel} (f : NB w b wx) : w.heap.size + 1 < wx.heap.size := (Array.getElem?_eq_some_iff.1 f.hB).1
theorem NB.over {w wx w' : World} {b : Cel} (f : NB w b wx) (h : Below wx.heap.size wx w') : NB w b w' :=
  ⟨f.below.trans (h.mono f.below.size), (h.block _ (by have := f.lt; omega)).trans f.hR, (h.block _ f.lt).trans f.hB⟩
theorem NB.put {w wx : World} {b : Cel} (f : NB w b wx) (d : Cel) : NB w d (wx.setRow (w.heap.size + 1) d.cells) :=
  ⟨f.below.trans (((Keeps.refl (· = w.heap.size + 1) wx).setRow rfl _).below f.below.size (fun m hm => by omega)), (setRow_other _ _ _ _ (by omega)).trans f.hR, setRow_heap _ _ _ _ _ _ f.hB⟩

set_option maxRecDepth 100000 in
set_option maxHeartbeats 2000000 in
theorem newest_any (g : Gp) (l : List Int) (a : Option Addr) (cap k G : Nat) (w : World) (hg : g.ok) (hk8 : k < 8) (hl : l.length ≤ 3) (hl3 : ∀ j (h : j < l.length), ∃ i : Nat, i < 3 ∧ l[j] = (i : Int)) (hi : HiI 0 w a l) (h : w.heap[G]? = some (.cells g.arr 55 (0, 0))) :
    Calls Try.prog 77 #[.pointer (some ⟨G, 0, none⟩), .slice a l.length cap, .int .i64 k] w fun e w' => e = .returned (.agg (bestL k (g.some l)).cells) ∧ Below w.heap.size w w' := by
  have OK := Lib.hid hg
  have HG := Lib.hid h
  have HI := Lib.hid hi
  have LAT := Lib.hid (show ∀ j (h : j < l.length), ∃ i' : Nat, i' < 3 ∧ l[j] = (i' : Int) ∧ (g.some l)[j]? = some (g.r.getD i' Rp.zero) from fun j h => by
    obtain ⟨i', h3, e⟩ := hl3 j h
    refine ⟨i', h3, e, ?_⟩
    unfold Gp.some
    rw [List.getElem?_map, List.getElem?_eq_getElem h, e]
    rfl)
  have hlt : G < w.heap.size := (Array.getElem?_eq_some_iff.1 h).1
  obtain ⟨m, hm⟩ : ∃ m, l.length = m := ⟨_, rfl⟩
  rw [hm] at hl ⊢
  have HM := Lib.hid hm
  obtain ⟨L, hL⟩ : ∃ L, g.some l = L := ⟨_, rfl⟩
  rw [hL] at LAT ⊢
  have LM := Lib.hid (show L.length = m from by rw [← hL, ← hm]; simp [Gp.some])
  clear hg h hi hl3 hm hL
  have hk8' : (k : Int) < 8 := by omega
  have BC := Lib.hid built_cell0
  go_enter Try.func77, Try.ntmps77
  go_upto_region 2 with (first | ((with_reducible refine bld1 rfl 23 _ rfl ?_); refine ⟨[], Cel.zero.cells, rfl, BC.out, ?_⟩) | ((with_reducible refine st_row1 rfl 23 _ _ rfl ?_); refine ⟨w.heap.size + 1, _, Cel.zero.cells, _, rfl, rfl, heap_alloc2_new w _ _, cell_row.2, rfl, cel_one _, ?_⟩))
  obtain ⟨w1, hw1⟩ : ∃ w1, w1 = ((w.alloc (.cells #[.int .i64 0, .int .i64 0, .string ⟨#[]⟩] 23)).alloc (.cells #[.int .i64 0, .int .i64 0, .string ⟨#[]⟩] 23)).setRow (w.heap.size + 1) Cel.zero.cells := ⟨_, rfl⟩
  rw [← hw1]
  have F1 := Lib.hid (show NB w Cel.zero w1 from hw1 ▸ NB.put (b := Cel.zero) ⟨(bal w _).alloc (by simp) _, heap_alloc2_old w _ _, heap_alloc2_new w _ _⟩ _)
  clear hw1
  go_wp2
  go_loopw [8, 9] (fun i _ wr => ∃ j : Nat, j ≤ m ∧ i = .int .i64 j ∧ NB w (bestL k (L.take j)) wr) (fun i _ _ => m - (intOf i).toNat)
  case atStart => exact ⟨0, by omega, rfl, F1.out⟩
  case round =>
    obtain ⟨j, hj, rfl, nb⟩ := hrel
    obtain ⟨b, hbb⟩ : ∃ b, bestL k (L.take j) = b := ⟨_, rfl⟩
    rw [hbb] at nb
    have N1 := Lib.hid nb
    have BB := Lib.hid hbb
    clear nb hbb F1
    by_cases hjm : j < m
    · obtain ⟨i', h3, hx, hLj⟩ := LAT.out j (by rw [HM.out]; exact hjm)
      obtain ⟨bb, oo, rfl, -, hbk, hcell⟩ := HI.out j (by rw [HM.out]; exact hjm)
      rw [hx] at hcell
      have c0 := (N1.out.below.cell (p := ⟨bb, oo + j, none⟩) hbk).trans hcell
      have h3i : (i' : Int) < 3 := by omega
      have hkr : i' < g.r.length := by rw [OK.out.r3]; exact h3
      have hkc : k < g.r[i'].cells.length := by rw [OK.out.c8 _ (List.getElem_mem hkr)]; exact hk8
      have HX := Lib.hid ((N1.out.below.block _ hlt).trans HG.out)
      obtain ⟨⟨g0, g1, g2⟩, -⟩ := gp_cellA HX.out OK.out hkr hkc
      obtain ⟨d, hd⟩ : ∃ d, g.r[i'].cells[k] = d := ⟨_, rfl⟩
      rw [hd] at g0 g1 g2
      obtain ⟨X, hX⟩ : ∃ X, newerB d b = X := ⟨_, rfl⟩
      have hjl : j < L.length := by rw [LM.out]; exact hjm
      have HT := Lib.hid (show bestL k (L.take (j + 1)) = if X then d else b from by
        have e : L[j].get k = d := by
          have e2 : L[j] = g.r[i'] := by
            have := hLj
            rw [List.getElem?_eq_getElem hjl] at this
            simpa [hkr] using this
          rw [e2, Rp.get_at hkc, hd]
        rw [bestL_take hjl, e, BB.out, hX])
      have RN := Lib.hid (fun (w : World) => rnewer_x hX w)
      clear hd hX hkr hkc hLj hjl hx hcell
      have k0 : ∀ o, (wr.alloc o).cell? ⟨bb, oo + j, none⟩ = some (.int .i64 i') := fun o => (World.cell?_alloc_some _ _ _ (by rw [c0]; rfl)).trans c0
      have k1 : ∀ o, (wr.alloc o).cell? ⟨G, i' * 25 + 1 + k * 3, none⟩ = some (.int .i64 d.e) := fun o => (World.cell?_alloc_some _ _ _ (by rw [g0]; rfl)).trans g0
      have k2 : ∀ o, (wr.alloc o).cell? ⟨G, i' * 25 + 1 + k * 3 + 1, none⟩ = some (.int .i64 d.n) := fun o => (World.cell?_alloc_some _ _ _ (by rw [g1]; rfl)).trans g1
      have k3 : ∀ o, (wr.alloc o).cell? ⟨G, i' * 25 + 1 + k * 3 + 2, none⟩ = some (.string d.d) := fun o => (World.cell?_alloc_some _ _ _ (by rw [g2]; rfl)).trans g2
      go_wp2
      go_region
      obtain ⟨w3, hw3⟩ : ∃ w3, w3 = (wr.alloc (.cells #[.int .i64 d.e, .int .i64 d.n, .string d.d] 23)).drew := ⟨_, rfl⟩
      rw [← hw3]
      have N3 := Lib.hid (show NB w b w3 from hw3 ▸ N1.out.over ((bal wr _).drew))
      have C3 := Lib.hid (show w3.heap[wr.heap.size]? = some (.cells d.cells 23 (0, 0)) from hw3 ▸ heap_alloc_new wr _)
      have hne := Lib.hid (show w.heap.size + 1 < wr.heap.size from N1.out.lt)
      clear hw3 k0 k1 k2 k3 c0 g0 g1 g2 HX N1
      obtain ⟨C, hC⟩ : ∃ C, wr.heap.size = C := ⟨_, rfl⟩
      rw [hC] at C3 hne
      rw [hC]
      clear hC
      go_wp2_with (first | ((with_reducible refine ld_row1 rfl 23 _ rfl ?_); refine ⟨C, _, d.cells, _, rfl, C3.out, cell_row.1, rfl, cell_row.2, ?_⟩) | ((with_reducible refine ld_row1 rfl 23 _ rfl ?_); refine ⟨w.heap.size + 1, _, b.cells, _, rfl, N3.out.hB, cell_row.1, rfl, cell_row.2, ?_⟩))
      refine (RN.out _).mono ?_
      rintro e w4 ⟨rfl, b4⟩
      have N4 := Lib.hid (N3.out.over b4)
      have C4 := Lib.hid ((b4.block _ (Array.getElem?_eq_some_iff.1 C3.out).1).trans C3.out)
      clear b4 N3 C3
      cases X
      · go_wp2
        go_roundw
        case rel => exact ⟨j + 1, by omega, by go_num, by rw [HT.out]; exact N4.out⟩
        case measure => simp [intOf]; omega
      · have N5 := Lib.hid (N4.out.put d)
        go_wp2_with (first | ((with_reducible refine ld_row1 rfl 23 _ rfl ?_); refine ⟨C, _, d.cells, _, rfl, C4.out, cell_row.1, rfl, cell_row.2, ?_⟩) | ((with_reducible refine st_row1 rfl 23 _ _ rfl ?_); refine ⟨w.heap.size + 1, _, d.cells, _, rfl, rfl, N4.out.hB, cell_row.2, rfl, cel_one _, ?_⟩))
        go_roundw
        case rel => exact ⟨j + 1, by omega, by go_num, by rw [HT.out]; exact N5.out⟩
        case measure => simp [intOf]; omega
    · obtain rfl : j = m := by omega
      rw [List.take_of_length_le (by rw [LM.out]; exact Nat.le_refl _)] at BB
      go_wp2_with (first | ((with_reducible refine ld_row1 rfl 23 _ rfl ?_); refine ⟨w.heap.size + 1, _, b.cells, _, rfl, N1.out.hB, cell_row.1, rfl, cell_row.2, ?_⟩) | ((with_reducible refine st_row1 rfl 23 _ _ rfl ?_); refine ⟨w.heap.size, _, b.cells, _, rfl, rfl, N1.out.hR, cell_row.2, rfl, cel_one _, ?_⟩))
      refine bodyPost_ret (v := .agg b.cells) (results_row1 Try.results77 _ _ w.heap.size 23 b.cells (0, 0) _ rfl (setRow_heap _ _ _ _ _ _ N1.out.hR) cell_row.1 rfl cell_row.2) rfl ?_
      exact ⟨by rw [BB.out], N1.out.below.trans (((Keeps.refl (· = w.heap.size) wr).setRow rfl _).below N1.out.below.size (fun m hm => by omega))⟩

theorem rgp_row : Try.prog.underlying 55 = some (.struct (Try.prog.fieldsOf 55)) ∧ (Try.prog.info? 55).map (·.size) = some 78 := by constructor <;> kernel_rfl
def Gp.ups (k : Nat) : Gp := ⟨List.replicate k Rp.start ++ List.replicate (3 - k) Rp.zero, List.replicate 3 true⟩
theorem ups_ok (k : Nat) (hk : k ≤ 3) : (Gp.ups k).ok := by
  refine ⟨by simp [Gp.ups]; omega, by simp [Gp.ups], fun r hr => ?_⟩
  simp only [Gp.ups, List.mem_append, List.mem_replicate] at hr
  rcases hr with ⟨-, rfl⟩ | ⟨-, rfl⟩ <;> rfl
theorem ups_succ (k : Nat) (hk : k < 3) : Gp.lift1 1 (Gp.ups k) k = Gp.ups (k + 1) := by
  rcases (by omega : k = 0 ∨ k = 1 ∨ k = 2) with rfl | rfl | rfl <;> rfl
theorem ups_all : Gp.ups 3 = Gp.start := rfl
theorem built_ups : Try.prog.built 55 [(1, .agg #[.bool true, .bool true, .bool true])] = some (Gp.ups 0).arr := by kernel_rfl

set_option maxRecDepth 100000 in
set_option maxHeartbeats 2000000 in
theorem rgnew_any (w : World) :
    Calls Try.prog 26 #[] w fun e w' => ∃ G, e = .returned (.pointer (some ⟨G, 0, none⟩)) ∧ w.heap.size ≤ G ∧ w'.heap[G]? = some (.cells Gp.start.arr 55 (0, 0)) ∧ Below w.heap.size w w' := by
  obtain ⟨U, hU⟩ : ∃ U, Gp.ups 0 = U := ⟨_, rfl⟩
  have BU := Lib.hid (show Try.prog.built 55 [(1, .agg #[.bool true, .bool true, .bool true])] = some U.arr from hU ▸ built_ups)
  have HU := Lib.hid hU
  have OKU := Lib.hid (show U.ok from hU ▸ ups_ok 0 (by omega))
  clear hU
  go_enter Try.func26, Try.ntmps26
  go_upto_region 2 with ((with_reducible refine bld1 rfl 55 _ rfl ?_); refine ⟨[(1, .agg #[.bool true, .bool true, .bool true])], U.arr, rfl, BU.out, ?_⟩)
  obtain ⟨w1, hw1⟩ : ∃ w1, w1 = w.alloc (.cells U.arr 55) := ⟨_, rfl⟩
  rw [← hw1]
  have B1 := Lib.hid (show Below w.heap.size w w1 from hw1 ▸ bal w _)
  have P1 := Lib.hid (show PG w1 w.heap.size (Gp.ups 0) w1 from ⟨Keeps.refl _ _, HU.out ▸ OKU.out, HU.out ▸ hw1 ▸ heap_alloc_new w _⟩)
  clear hw1
  obtain ⟨G, hG⟩ : ∃ G, w.heap.size = G := ⟨_, rfl⟩
  rw [hG] at P1
  rw [hG]
  have HG := Lib.hid hG
  clear hG
  go_wp2
  go_loopw [2] (fun i wr => ∃ k : Nat, k ≤ 3 ∧ i = .int .i64 k ∧ PG w1 G (Gp.ups k) wr) (fun i _ => 3 - (intOf i).toNat)
  case atStart => exact ⟨0, by omega, rfl, P1.out⟩
  case round =>
    obtain ⟨k, hk, rfl, pg⟩ := hrel
    obtain ⟨h, hh⟩ : ∃ h, Gp.ups k = h := ⟨_, rfl⟩
    rw [hh] at pg
    have PGH := Lib.hid pg
    have HH := Lib.hid hh
    clear pg hh P1
    by_cases hk3 : k < 3
    · have HS := Lib.hid (show Gp.lift1 1 h k = Gp.ups (k + 1) from HH.out ▸ ups_succ k hk3)
      obtain ⟨f0, f1⟩ := gp_floor PGH.out.hG PGH.out.ok (i := k) (by rw [PGH.out.ok.r3]; exact hk3)
      have PS := Lib.hid (PGH.out.setF hk3 1)
      go_wp2
      go_roundw
      case rel => exact ⟨k + 1, by omega, by go_num, by rw [← HS.out]; exact PS.out⟩
      case measure => simp [intOf]; omega
    · obtain rfl : k = 3 := by omega
      go_wp2
      go_ret
      exact ⟨G, rfl, by rw [HG.out]; exact Nat.le_refl _, by rw [← ups_all, HH.out]; exact PGH.out.hG, B1.out.trans (PGH.out.keeps.below B1.out.size (fun m hm => by rw [HG.out]; omega))⟩
end Go.Proofs.Ytclhmpknkinjcaa
