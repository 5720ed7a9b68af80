/-
  ReplicaSays: the walk.
-/
import Derived.Test.YtclhmpknkinjcaaMerge
import Derived.Test.YtclhmpknkinjcaaRepFact
namespace Go.Proofs.Ytclhmpknkinjcaa
open Go.RowKit Go.Sort

/-- what the walk keeps -/
structure RS (w : World) (r : Rp) (x : Cel) (wx : World) : Prop where
  below : Below w.heap.size w wx
  hA : wx.heap[w.heap.size]? = some (.cells r.arr 26 (0, 0))
  hX : wx.heap[w.heap.size + 1]? = some (.cells #[.int .i64 x.e, .int .i64 x.n, .string x.d] 23 (0, 0))
structure RR (w : World) (N : Nat) (a : Rp) (wx : World) : Prop where
  lo : w.heap.size + 1 < N
  row : wx.heap[N]? = some (.cells a.arr 26 (0, 0))
theorem RR.lt {w wx : World} {N : Nat} {a : Rp} (h : RR w N a wx) : N < wx.heap.size := (Array.getElem?_eq_some_iff.1 h.row).1
theorem RS.over {w wx w' : World} {r : Rp} {x : Cel} (h : RS w r x wx) (b : Below wx.heap.size wx w') : RS w r x w' :=
  ⟨h.below.trans (b.mono h.below.size), (b.block _ (Array.getElem?_eq_some_iff.1 h.hA).1).trans h.hA, (b.block _ (Array.getElem?_eq_some_iff.1 h.hX).1).trans h.hX⟩
theorem RR.over {w wx w' : World} {N : Nat} {a : Rp} (h : RR w N a wx) (b : Below wx.heap.size wx w') : RR w N a w' := ⟨h.lo, (b.block _ h.lt).trans h.row⟩
theorem RS.keep {w wx w' : World} {r : Rp} {x : Cel} {N : Nat} (h : RS w r x wx) (hN : w.heap.size + 1 < N) (k : Keeps (· = N) wx w') : RS w r x w' :=
  ⟨h.below.trans (k.below h.below.size (fun m hm => by omega)), (k.block _ (by omega) (Array.getElem?_eq_some_iff.1 h.hA).1).trans h.hA, (k.block _ (by omega) (Array.getElem?_eq_some_iff.1 h.hX).1).trans h.hX⟩
theorem RS.set {w wx : World} {r : Rp} {x : Cel} {N : Nat} (h : RS w r x wx) (hN : w.heap.size + 1 < N) (cs : Array Value) : RS w r x (wx.setRow N cs) := h.keep hN ((Keeps.refl (· = N) wx).setRow rfl _)
theorem RR.set {w wx : World} {N : Nat} {a : Rp} (h : RR w N a wx) (b : Rp) : RR w N b (wx.setRow N b.arr) := ⟨h.lo, setRow_heap _ _ _ _ _ _ h.row⟩
theorem RR.keep {w wx w' : World} {N M : Nat} {a : Rp} (h : RR w N a wx) (hm : N ≠ M) (k : Keeps (· = M) wx w') : RR w N a w' := ⟨h.lo, (k.block _ hm h.lt).trans h.row⟩
theorem RR.other {w wx : World} {N M : Nat} {a : Rp} (h : RR w N a wx) (hm : N ≠ M) (cs : Array Value) : RR w N a (wx.setRow M cs) := h.keep hm ((Keeps.refl (· = M) wx).setRow rfl _)
theorem RS.big {w wx : World} {r : Rp} {x : Cel} (h : RS w r x wx) : w.heap.size + 1 < wx.heap.size := (Array.getElem?_eq_some_iff.1 h.hX).1
theorem RS.row {w wx : World} {r : Rp} {x : Cel} (h : RS w r x wx) (z : Array Value) (b : Rp) : RR w wx.heap.size b ((wx.alloc (.cells z 26)).setRow wx.heap.size b.arr) :=
  ⟨h.big, setRow_heap _ _ _ _ _ _ (heap_alloc_new wx _)⟩
theorem RpsAt.over {w w' : World} {a : Option Addr} {l : List Rp} (h : RpsAt w a l) (b : Below w.heap.size w w') : RpsAt w' a l := fun i hi => by
  obtain ⟨h8, bb, o, ha, hb, hr⟩ := h i hi
  exact ⟨h8, bb, o, ha, Nat.lt_of_lt_of_le hb b.size, fun j v hv => (b.cell (p := ⟨bb, _, none⟩) hb).trans (hr j v hv)⟩

theorem eqg_cell : Try.prog.eqGuardType Try.prog.depth 23 = false := by kernel_rfl
/-- the best cell of the first j lies in its block -/
def Best (w16 : World) (N i : Nat) (l : List Rp) (j : Nat) (wz : World) : Prop :=
  Below w16.heap.size w16 wz ∧ wz.heap[N]? = some (.cells #[.int .i64 (bestL i (l.take j)).e, .int .i64 (bestL i (l.take j)).n, .string (bestL i (l.take j)).d] 23 (0, 0))
theorem rp_mid {w : World} {bb o i : Nat} {r : Rp} {C : Cel} (h : w.rangeAt bb o r.arr.toList) (hi : i < r.cells.length) (hC : r.get i = C) :
    w.cell? ⟨bb, o + 1 + i * 3, none⟩ = some (.int .i64 C.e) ∧ w.cell? ⟨bb, o + 1 + i * 3 + 1, none⟩ = some (.int .i64 C.n) ∧ w.cell? ⟨bb, o + 1 + i * 3 + 2, none⟩ = some (.string C.d) := by
  obtain ⟨h1, h2, h3⟩ := r.at hi
  rw [Rp.get_at hi] at hC
  rw [hC] at h1 h2 h3
  refine ⟨?_, ?_, ?_⟩
  · have := h (1 + i * 3) _ (by simpa using h1); rw [← this]; congr 2; omega
  · have := h (1 + i * 3 + 1) _ (by simpa using h2); rw [← this]; congr 2; omega
  · have := h (1 + i * 3 + 2) _ (by simpa using h3); rw [← this]; congr 2; omega
theorem cell_soft {w : World} {b : Nat} {c : Cel} {T : TypeId} (h : w.heap[b]? = some (.cells #[.int .i64 c.e, .int .i64 c.n, .string c.d] T (0, 0))) : w.frozen? ⟨b, 0, none⟩ = false ∧ w.frozen? ⟨b, 1, none⟩ = false ∧ w.frozen? ⟨b, 2, none⟩ = false := by
  simp [World.frozen?, h]
theorem neq_cell_self (C : Cel) (w : World) : (binOp .neq 23 (.agg #[.int .i64 C.e, .int .i64 C.n, .string C.d]) (.agg #[.int .i64 C.e, .int .i64 C.n, .string C.d])).run Try.prog w = .ok (.bool false) w := by
  rw [neq_cell C C w]; simp
theorem best_put {w16 wz : World} {N i j : Nat} {l : List Rp} {C Z : Cel} (hb : Below w16.heap.size w16 wz) (hx : wz.heap[N]? = some (.cells #[.int .i64 Z.e, .int .i64 Z.n, .string Z.d] 23 (0, 0))) (hN : w16.heap.size ≤ N) (hs : bestL i (l.take (j + 1)) = C) :
    Best w16 N i l (j + 1) (((wz.setCell ⟨N, 0, none⟩ (.int .i64 C.e)).setCell ⟨N, 1, none⟩ (.int .i64 C.n)).setCell ⟨N, 2, none⟩ (.string C.d)) := by
  have kp : Keeps (· = N) wz (((wz.setCell ⟨N, 0, none⟩ (.int .i64 C.e)).setCell ⟨N, 1, none⟩ (.int .i64 C.n)).setCell ⟨N, 2, none⟩ (.string C.d)) :=
    Keeps.setCell (S := (· = N)) (Keeps.setCell (S := (· = N)) (Keeps.setCell (S := (· = N)) (Keeps.refl _ _) rfl _) rfl _) rfl _
  refine ⟨hb.trans (kp.below hb.size (fun m hm => by omega)), ?_⟩
  rw [hs]
  exact block_setCell (block_setCell (block_setCell hx _) _) _
theorem fence_x (r : Rp) (ep : Int) (w : World) (hr : r.cells.length = 8) (he : -4611686018427387904 ≤ ep ∧ ep ≤ 4611686018427387904) (F : Rp) (hF : r.fence ep = F) :
    Calls Try.prog 21 #[.agg r.arr, .int .i64 ep] w fun e w' => e = .returned (.tuple #[.agg F.arr, .bool (F.floor == ep)]) ∧ Below w.heap.size w w' := by
  subst hF; exact fence_any r ep w hr he

set_option maxRecDepth 100000 in
set_option maxHeartbeats 4000000 in
theorem replicasays_walk (r : Rp) (at_ : Int) (x : Cel) (ep : Int) (l : List Rp) (al : Option Addr) (cap : Nat) (w : World) (hr : r.cells.length = 8) (hl : l.length ≤ maxLen) (hs : RpsAt w al l) :
    Calls Try.prog 3 #[.agg r.arr, .int .i64 at_, x.v, .int .i64 ep, .slice al l.length cap] w fun e w' => e = .returned (.bool true) ∧ Below w.heap.size w w' := by
  have HR := Lib.hid hr
  have hz := Lib.hid (Rp.size hr)
  have HL := Lib.hid hs
  have HN := Lib.hid hl
  clear hr hs hl
  go_enter Try.func3, Try.ntmps3
  go_upto_region 1 with fail
  obtain ⟨w3, hw3⟩ : ∃ w3, w3 = (w.alloc (.cells r.arr 26)).alloc (.cells #[.int .i64 x.e, .int .i64 x.n, .string x.d] 23) := ⟨_, rfl⟩
  rw [← hw3]
  have HT := Lib.hid (show RS w r x w3 from hw3 ▸ ⟨(bal w _).alloc (by simp) _, heap_alloc2_old w _ _, heap_alloc2_new w _ _⟩)
  clear hw3
  go_wp2_with fail
  refine (replicas_fact _).mono ?_
  rintro e w4 ⟨rfl, b4⟩
  have HT4 := Lib.hid (HT.out.over b4)
  clear b4 HT
  by_cases h0 : at_ < 0
  · go_wp2
    go_ret
    exact ⟨rfl, HT4.out.below⟩
  by_cases h7 : at_ > 7
  · go_wp2
    go_ret
    exact ⟨rfl, HT4.out.below⟩
  by_cases h5 : l.length > 5
  · go_wp2
    go_ret
    exact ⟨rfl, HT4.out.below⟩
  by_cases h1 : ep < 1
  · go_wp2
    go_ret
    exact ⟨rfl, HT4.out.below⟩
  by_cases h2 : ep > 2000000
  · go_wp2
    go_ret
    exact ⟨rfl, HT4.out.below⟩
  obtain ⟨k, rfl⟩ : ∃ k : Nat, at_ = (k : Int) := ⟨at_.toNat, by omega⟩
  have hk : k < 8 := by omega
  have hkr := Lib.hid (show k < r.cells.length from by rw [HR.out]; exact hk)
  obtain ⟨x0, x1, x2⟩ := cell_box HT4.out.hX
  obtain ⟨D, hD⟩ : ∃ D, decide (x.e = r.floor) = D := ⟨_, rfl⟩
  obtain ⟨a, ha⟩ : ∃ a, r.admitC k x = a := ⟨_, rfl⟩
  have HD := Lib.hid hD
  have HM := Lib.hid ha
  have hza := Lib.hid (show a.arr.size = 25 from ha ▸ Rp.size (by rw [Rp.admit_len]; exact HR.out))
  have HLa := Lib.hid (show a.cells.length = 8 from ha ▸ (by rw [Rp.admit_len]; exact HR.out))
  clear hD ha
  have hu4 := Lib.hid HT4.out.big
  go_wp2_with (refine wpList_load_row rfl 26 _ rfl w.heap.size rfl 26 r.arr (0, 0) _ HT4.out.hA rp_row.1 rfl (by rw [rp_row.2.1, hz.out]) ?_)
  refine (admit_x r k k rfl x _ HR.out hk a HM.out D HD.out).mono ?_
  rintro e w5 ⟨rfl, b5⟩
  have HT5 := Lib.hid (HT4.out.over b5)
  clear b5 HT4 x0 x1 x2
  go_upto_region 5 with (refine wpList_store_row rfl 26 _ _ rfl w5.heap.size a.arr rfl rfl 26 Rp.zero.arr (heap_alloc_new w5 _) (by rw [rp_row.2.1, hza.out]) (by rw [hza.out]; rfl) (Rp.one _) ?_)
  obtain ⟨w6, hw6⟩ : ∃ w6, w6 = (w5.alloc (.cells Rp.zero.arr 26)).setRow w5.heap.size a.arr := ⟨_, rfl⟩
  rw [rp_zero_arr] at hw6
  rw [← hw6]
  have HT6 := Lib.hid (show RS w r x w6 from hw6 ▸ HT5.out.over (bel_row w5 _ _ _))
  have HG6 := Lib.hid (show RR w w5.heap.size a w6 from hw6 ▸ HT5.out.row _ _)
  clear hw6 HT5
  go_upto_region 6 with (first | (refine wpList_load_row rfl 26 _ rfl w.heap.size rfl 26 r.arr (0, 0) _ HT6.out.hA rp_row.1 rfl (by rw [rp_row.2.1, hz.out]) ?_) | (refine wpList_store_row rfl 26 _ _ rfl w6.heap.size r.arr rfl rfl 26 Rp.zero.arr (heap_alloc_new w6 _) (by rw [rp_row.2.1, hz.out]) (by rw [hz.out]; rfl) (Rp.one _) ?_))
  obtain ⟨w7, hw7⟩ : ∃ w7, w7 = (w6.alloc (.cells Rp.zero.arr 26)).setRow w6.heap.size r.arr := ⟨_, rfl⟩
  rw [rp_zero_arr] at hw7
  rw [← hw7]
  have HT7 := Lib.hid (show RS w r x w7 from hw7 ▸ HT6.out.over (bel_row w6 _ _ _))
  have HG7 := Lib.hid (show RR w w5.heap.size a w7 from hw7 ▸ HG6.out.over (bel_row w6 _ _ _))
  have HW7 := Lib.hid (show RR w w6.heap.size r w7 from hw7 ▸ HT6.out.row _ _)
  have hne := Lib.hid (show w5.heap.size < w6.heap.size from HG6.out.lt)
  clear hw7 HT6 HG6
  obtain ⟨x0, x1, x2⟩ := cell_box HT7.out.hX
  have hkr' := hkr.out
  obtain ⟨⟨r0, r1, r2⟩, -⟩ := rp_cell (k := k) HT7.out.hA hkr'
  obtain ⟨C1, hC1⟩ : ∃ C1, r.cells[k] = C1 := ⟨_, rfl⟩
  rw [hC1] at r0 r1 r2
  obtain ⟨X, hX⟩ : ∃ X, newerB x C1 = X := ⟨_, rfl⟩
  have HC := Lib.hid (show newerB x (r.get k) = X from by rw [Rp.get_at hkr', hC1]; exact hX)
  have RN := Lib.hid (fun (w : World) => rnewer_x hX w)
  have NW := Lib.hid (fun (w : World) => newer_x hX w)
  have HC1 := Lib.hid (show r.get k = C1 from by rw [Rp.get_at hkr', hC1])
  clear hC1 hX
  have hv0 : w.heap.size < w7.heap.size := by have := HT7.out.big; omega
  have hv1 : w.heap.size + 1 < w7.heap.size := HT7.out.big
  have hq := bregrown (Below.refl w7.heap.size w7)
  have hk8 : decide ((k : Int) < 8) = true := by simpa using (by omega : (k : Int) < 8)
  clear hkr' h7 h0 hu4
  simp only [Act.put]
  go_cut [15] (fun v wx => v = .bool X ∧ Below w7.heap.size w7 wx)
  case first =>
    refine wp_region_quiet_below (by kernel_rfl) (by kernel_rfl) ?_
    repeat (go_big_quiet_step (exact Calls.regrown_of (RN.out _)))
    refine wpQuiet_nil ?_
    rintro w' ⟨⟨dq, osq⟩, rfl⟩
    go_wp2_with fail
    go_meet
    exact ⟨rfl, below_regrown _ dq osq⟩
  case rest =>
    obtain ⟨rfl, b8⟩ := hcut
    have HT8 := Lib.hid (HT7.out.over b8)
    have HG8 := Lib.hid (HG7.out.over b8)
    have HW8 := Lib.hid (HW7.out.over b8)
    clear b8 hq r0 r1 r2 x0 x1 x2 hv0 hv1 HT7 HG7 HW7
    have heb : (x.e == r.floor) = D := by rw [← HD.out]; by_cases h : x.e = r.floor <;> simp [h]
    have hwz := Lib.hid (show w6.heap.size < wc.heap.size from HW8.out.lt)
    obtain ⟨x0, x1, x2⟩ := cell_box HT8.out.hX
    obtain ⟨f0, -⟩ := rp_floor HT8.out.hA
    obtain ⟨B, hB⟩ : ∃ B, (D && X) = B := ⟨_, rfl⟩
    have HBB := Lib.hid hB
    clear hB
    go_upto_region 7 with fail
    go_cut [69] (fun v wx => v = .bool B ∧ wx = wc)
    case first =>
      cases D
      · obtain rfl : false = B := HBB.out
        go_wp2_with fail
        go_meet
        exact ⟨rfl, rfl⟩
      · obtain rfl : X = B := by have := HBB.out; simpa using this
        go_wp2_with fail
        go_meet
        exact ⟨rfl, rfl⟩
    case rest =>
    obtain ⟨rfl, rfl⟩ := hcut
    go_upto_if 69 with fail
    go_cut [69] (fun _ wx => RS w r x wx ∧ RR w w5.heap.size a wx ∧ RR w w6.heap.size a wx)
    case first =>
      cases B
      · have HE := Lib.hid (show r = a from by
          rw [← HM.out]
          refine (if_neg (fun h => ?_)).symm
          have hd := HD.out
          rw [decide_eq_true h.1] at hd
          have hx := HC.out
          rw [h.2] at hx
          have := HBB.out
          rw [← hd, ← hx] at this
          cases this)
        have HW9 := Lib.hid (show RR w w6.heap.size a wc from HE.out ▸ HW8.out)
        go_wp2_with fail
        go_meet
        exact ⟨HT8.out, HG8.out, HW9.out⟩
      · obtain ⟨⟨r0, r1, r2⟩, s0, s1, s2⟩ := rp_cell (k := k) HW8.out.row hkr.out
        have HE := Lib.hid (show (Rp.mk r.floor (r.cells.set k x)) = a from by
          rw [← HM.out]
          have hb := HBB.out
          rw [Bool.and_eq_true] at hb
          exact (if_pos ⟨of_decide_eq_true (HD.out.trans hb.1), HC.out.trans hb.2⟩).symm)
        go_wp2_with fail
        go_meet
        have kp : Keeps (· = w6.heap.size) wc (((wc.setCell ⟨w6.heap.size, 1 + k * 3, none⟩ (.int .i64 x.e)).setCell ⟨w6.heap.size, 1 + k * 3 + 1, none⟩ (.int .i64 x.n)).setCell ⟨w6.heap.size, 1 + k * 3 + 2, none⟩ (.string x.d)) :=
          Keeps.setCell (S := (· = w6.heap.size)) (Keeps.setCell (S := (· = w6.heap.size)) (Keeps.setCell (S := (· = w6.heap.size)) (Keeps.refl _ _) rfl _) rfl _) rfl _
        refine ⟨HT8.out.keep HW8.out.lo kp, HG8.out.keep (by have := hne.out; omega) kp, HW8.out.lo, ?_⟩
        rw [← HE.out, ← Rp.set r x hkr.out]
        exact block_setCell (block_setCell (block_setCell HW8.out.row _) _) _
    case rest =>
      obtain ⟨w9, rfl⟩ : ∃ w9 : World, w9 = wc := ⟨_, rfl⟩
      obtain ⟨ht, hg, hw⟩ := hcut
      have HT9 := Lib.hid ht
      have HG9 := Lib.hid hg
      have HW9 := Lib.hid hw
      clear ht hg hw x0 x1 x2 f0 HT8 HG8 HW8
      obtain ⟨x0, x1, x2⟩ := cell_box HT9.out.hX
      obtain ⟨f0, -⟩ := rp_floor HT9.out.hA
      obtain ⟨⟨r0, r1, r2⟩, -⟩ := rp_cell (k := k) HT9.out.hA hkr.out
      have hC1 := HC1.out
      rw [Rp.get_at hkr.out] at hC1
      rw [hC1] at r0 r1 r2
      clear hC1
      have hv0 : w.heap.size < w9.heap.size := by have := HT9.out.big; omega
      have hv1 : w.heap.size + 1 < w9.heap.size := HT9.out.big
      have hvG : w5.heap.size < w9.heap.size := HG9.out.lt
      have hvW : w6.heap.size < w9.heap.size := HW9.out.lt
      have QG := Lib.hid (fun d os => ((below_regrown w9 d os).block _ hvG).trans HG9.out.row)
      have QW := Lib.hid (fun d os => ((below_regrown w9 d os).block _ hvW).trans HW9.out.row)
      have hq := bregrown (Below.refl w9.heap.size w9)
      have NE := fun w => (neq_rp a a HLa.out HLa.out w).trans (by rw [eqRp_self])
      have hgu := eqg_rp
      have hDD : (D != D) = false := by simp
      have hXX : (X != X) = false := by simp
      go_upto_region 9 with fail
      go_cut [95] (fun v wx => v = .bool false ∧ Below w9.heap.size w9 wx)
      case first =>
        refine wp_region_quiet_below (by kernel_rfl) (by kernel_rfl) ?_
        repeat (first | (refine wpQuiet_load_row (by rfl) 26 _ rfl w5.heap.size rfl 26 a.arr (0, 0) _ (by rintro w' ⟨⟨d, os⟩, rfl⟩; exact QG.out d os) rp_row.1 rfl (by rw [rp_row.2.1, hza.out]) ?_) | (refine wpQuiet_load_row (by rfl) 26 _ rfl w6.heap.size rfl 26 a.arr (0, 0) _ (by rintro w' ⟨⟨d, os⟩, rfl⟩; exact QW.out d os) rp_row.1 rfl (by rw [rp_row.2.1, hza.out]) ?_) | (refine wpQuiet_bin (by rfl) .neq 26 _ _ _ rfl a.arr a.arr rfl rfl hgu (.bool false) NE ?_; simp only [Act.put, List.setIfInBounds_toArray, List.set_cons_zero, List.set_cons_succ]) | go_big_quiet_step (exact Calls.regrown_of (NW.out _)))
        refine wpQuiet_nil ?_
        rintro w' ⟨⟨dq, osq⟩, rfl⟩
        go_wp2_with fail
        go_meet
        exact ⟨rfl, below_regrown _ dq osq⟩
      case rest =>
        obtain ⟨rfl, b10⟩ := hcut
        have HT10 := Lib.hid (HT9.out.over b10)
        have HW10 := Lib.hid (HW9.out.over b10)
        clear b10 QG QW hq hv0 hv1 hvG hvW x0 x1 x2 f0 r0 r1 r2 HT9 HG9 HW9 NE
        obtain ⟨F, hF⟩ : ∃ F, r.fence ep = F := ⟨_, rfl⟩
        have HF := Lib.hid hF
        have HLF := Lib.hid (show F.cells.length = 8 from hF ▸ (by unfold Rp.fence; split <;> exact HR.out))
        have hzF := Lib.hid (Rp.size HLF.out)
        clear hF
        go_wp2_with (refine wpList_load_row rfl 26 _ rfl w.heap.size rfl 26 r.arr (0, 0) _ HT10.out.hA rp_row.1 rfl (by rw [rp_row.2.1, hz.out]) ?_)
        refine (fence_x r ep _ HR.out (by omega) F HF.out).mono ?_
        rintro e w11 ⟨rfl, b11⟩
        have HT11 := Lib.hid (HT10.out.over b11)
        have HW11 := Lib.hid (HW10.out.over b11)
        clear b11 HT10 HW10
        go_upto_region 12 with (refine wpList_store_row rfl 26 _ _ rfl w11.heap.size F.arr rfl rfl 26 Rp.zero.arr (heap_alloc_new w11 _) (by rw [rp_row.2.1, hzF.out]) (by rw [hzF.out]; rfl) (Rp.one _) ?_)
        obtain ⟨w12, hw12⟩ : ∃ w12, w12 = (w11.alloc (.cells Rp.zero.arr 26)).setRow w11.heap.size F.arr := ⟨_, rfl⟩
        rw [rp_zero_arr] at hw12
        rw [← hw12]
        have HT12 := Lib.hid (show RS w r x w12 from hw12 ▸ HT11.out.over (bel_row w11 _ _ _))
        have HW12 := Lib.hid (show RR w w6.heap.size a w12 from hw12 ▸ HW11.out.over (bel_row w11 _ _ _))
        have HF12 := Lib.hid (show RR w w11.heap.size F w12 from hw12 ▸ HT11.out.row _ _)
        have hn6 := Lib.hid (show w6.heap.size < w11.heap.size from HW11.out.lt)
        clear hw12 HT11 HW11
        go_upto_region 13 with (first | (refine wpList_load_row rfl 26 _ rfl w.heap.size rfl 26 r.arr (0, 0) _ HT12.out.hA rp_row.1 rfl (by rw [rp_row.2.1, hz.out]) ?_) | (refine wpList_store_row rfl 26 _ _ rfl w6.heap.size r.arr rfl rfl 26 a.arr HW12.out.row (by rw [rp_row.2.1, hz.out]) (by rw [hz.out, hza.out]) (Rp.one _) ?_))
        obtain ⟨w13, hw13⟩ : ∃ w13, w13 = w12.setRow w6.heap.size r.arr := ⟨_, rfl⟩
        rw [← hw13]
        have HT13 := Lib.hid (show RS w r x w13 from hw13 ▸ HT12.out.set HW12.out.lo _)
        have HW13 := Lib.hid (show RR w w6.heap.size r w13 from hw13 ▸ HW12.out.set r)
        have HF13 := Lib.hid (show RR w w11.heap.size F w13 from hw13 ▸ HF12.out.other (by have := hn6.out; omega) _)
        clear hw13 HT12 HW12 HF12
        obtain ⟨f0, -⟩ := rp_floor HT13.out.hA
        have q1 : IntKind.i64.wrap (ep - 1) = ep - 1 := IntWalk.i64_in _ (by omega)
        obtain ⟨B2, hB2⟩ : ∃ B2, (r.floor == ep - 1) = B2 := ⟨_, rfl⟩
        have HB2 := Lib.hid hB2
        simp only [Act.put, List.setIfInBounds_toArray, List.set_cons_zero, List.set_cons_succ]
        go_cut [107] (fun v wx => v = .bool B2 ∧ wx = w13)
        case first =>
          go_wp2
          go_meet
          exact ⟨rfl, rfl⟩
        case rest =>
        obtain ⟨rfl, rfl⟩ := hcut
        clear hB2
        go_upto_if 107 with fail
        go_cut [107] (fun _ wx => RS w r x wx ∧ RR w w6.heap.size F wx ∧ RR w w11.heap.size F wx)
        case first =>
          cases B2
          · have HE := Lib.hid (show r = F from by
              rw [← HF.out]
              exact (if_neg (fun h => by have := HB2.out; simp [h] at this)).symm)
            have HW14 := Lib.hid (show RR w w6.heap.size F wc from HE.out ▸ HW13.out)
            go_wp2_with fail
            go_meet
            exact ⟨HT13.out, HW14.out, HF13.out⟩
          · have HE := Lib.hid (show (Rp.mk ep r.cells) = F from by
              rw [← HF.out]
              exact (if_pos (by have := HB2.out; simpa using this)).symm)
            obtain ⟨-, s0⟩ := rp_floor HW13.out.row
            obtain ⟨g0, -⟩ := rp_floor HW13.out.row
            go_wp2_with fail
            go_meet
            have kp : Keeps (· = w6.heap.size) wc (wc.setCell ⟨w6.heap.size, 0, none⟩ (.int .i64 ep)) := Keeps.setCell (S := (· = w6.heap.size)) (Keeps.refl _ _) rfl _
            refine ⟨HT13.out.keep HW13.out.lo kp, ⟨HW13.out.lo, ?_⟩, HF13.out.keep (by have := hn6.out; omega) kp⟩
            rw [← HE.out, ← Rp.setFloor]
            exact block_setCell HW13.out.row _
        case rest =>
          obtain ⟨w14, rfl⟩ : ∃ w14 : World, w14 = wc := ⟨_, rfl⟩
          obtain ⟨ht, hw, hf⟩ := hcut
          have HT14 := Lib.hid ht
          have HW14 := Lib.hid hw
          have HF14 := Lib.hid hf
          clear ht hw hf f0 HT13 HW13 HF13
          obtain ⟨g0, -⟩ := rp_floor HW14.out.row
          have NE := fun w => (neq_rp F F HLF.out HLF.out w).trans (by rw [eqRp_self])
          have hYY : ((F.floor == ep) != (F.floor == ep)) = false := by simp
          go_upto_region 15 with fail
          go_cut [120] (fun v wx => v = .bool false ∧ wx = w14)
          case first =>
            go_wp2_with (first | (refine wpList_load_row rfl 26 _ rfl w11.heap.size rfl 26 F.arr (0, 0) _ HF14.out.row rp_row.1 rfl (by rw [rp_row.2.1, hzF.out]) ?_) | (refine wpList_load_row rfl 26 _ rfl w6.heap.size rfl 26 F.arr (0, 0) _ HW14.out.row rp_row.1 rfl (by rw [rp_row.2.1, hzF.out]) ?_))
            go_meet
            exact ⟨rfl, rfl⟩
          case rest =>
          obtain ⟨rfl, rfl⟩ := hcut
          clear NE hYY hgu g0
          have HRP := Lib.hid (HL.out.over HT14.out.below)
          go_wp2_with fail
          refine (merge_any l al cap _ HN.out HRP.out).mono ?_
          rintro e w15 ⟨rfl, b15⟩
          have HT15 := Lib.hid (HT14.out.over b15)
          have HRP15 := Lib.hid (HL.out.over HT15.out.below)
          clear b15 HT14 HW14 HF14 HRP
          have hzm := Lib.hid (flat_size (mergeL_len l))
          go_upto_region 18 with (refine wpList_store_row rfl 24 _ _ rfl w15.heap.size (flat (mergeL l)).toArray rfl rfl 24 (flat zeros8).toArray (heap_alloc_new w15 _) (by rw [cells_row.2, hzm.out]) (by rw [hzm.out]; rfl) (all_oneCell_toArray (flat_one _)) ?_)
          obtain ⟨w16, hw16⟩ : ∃ w16, w16 = (w15.alloc (.cells (flat zeros8).toArray 24)).setRow w15.heap.size (flat (mergeL l)).toArray := ⟨_, rfl⟩
          rw [zeros8_arr] at hw16
          rw [← hw16]
          have HB16 := Lib.hid (show Below w.heap.size w w16 from hw16 ▸ HT15.out.below.trans ((bel_row w15 _ _ _).mono HT15.out.below.size))
          have HRP16 := Lib.hid (HL.out.over HB16.out)
          have HG16 := Lib.hid (show w16.heap[w15.heap.size]? = some (.cells (flat (mergeL l)).toArray 24 (0, 0)) from hw16 ▸ setRow_heap _ _ _ _ _ _ (heap_alloc_new w15 _))
          have hlo := Lib.hid (show w.heap.size < w15.heap.size from by have := HT15.out.big; omega)
          clear hw16 HT15 HRP15
          simp only [Act.put, List.setIfInBounds_toArray, List.set_cons_zero, List.set_cons_succ]
          go_wp2
          go_loopw [19] (fun i wr => ∃ k : Nat, k ≤ 8 ∧ i = .int .i64 k ∧ Below w16.heap.size w16 wr) (fun i _ => 8 - (intOf i).toNat)
          case atStart => exact ⟨0, by omega, rfl, Below.refl _ _⟩
          case round =>
            obtain ⟨i, hi, rfl, bi⟩ := hrel
            have HBI := Lib.hid bi
            clear bi
            by_cases hi8 : i < 8
            · go_upto_region 22 with fail
              obtain ⟨wo, rfl⟩ : ∃ wo : World, wo = wr := ⟨_, rfl⟩
              obtain ⟨w20, hw20⟩ : ∃ w20, w20 = wo.alloc (.cells #[.int .i64 0, .int .i64 0, .string ⟨#[]⟩] 23) := ⟨_, rfl⟩
              rw [← hw20]
              have HI20 := Lib.hid (show Best w16 wo.heap.size i l 0 w20 from hw20 ▸ ⟨HBI.out.trans ((bal wo _).mono HBI.out.size), heap_alloc_new wo _⟩)
              have hlo2 := Lib.hid HBI.out.size
              clear hw20 HBI
              go_wp2
              go_loopw [21] (fun v wz => ∃ j : Nat, j ≤ l.length ∧ v = .int .i64 j ∧ Best w16 wo.heap.size i l j wz) (fun v _ => l.length - (intOf v).toNat)
              case atStart => exact ⟨0, by omega, rfl, HI20.out⟩
              case round =>
                clear HI20
                obtain ⟨j, hj, rfl, hb⟩ := hrel
                have HIJ := Lib.hid hb
                clear hb
                by_cases hlt : j < l.length
                · obtain ⟨h8, bb, oo, rfl, hbs, hra⟩ := HRP16.out j hlt
                  obtain ⟨C, hC⟩ : ∃ C, l[j].get i = C := ⟨_, rfl⟩
                  obtain ⟨q0, q1, q2⟩ := rp_mid hra (by omega) hC
                  obtain ⟨Z, hZ⟩ : ∃ Z, bestL i (l.take j) = Z := ⟨_, rfl⟩
                  have HX3 := Lib.hid (show wr.heap[wo.heap.size]? = some (.cells #[.int .i64 Z.e, .int .i64 Z.n, .string Z.d] 23 (0, 0)) from hZ ▸ HIJ.out.2)
                  have HST := Lib.hid (show bestL i (l.take (j + 1)) = if newerB C Z then C else Z from by rw [bestL_take hlt, hC, hZ])
                  obtain ⟨X2, hX2⟩ : ∃ X2, newerB C Z = X2 := ⟨_, rfl⟩
                  rw [hX2] at HST
                  have RN2 := Lib.hid (fun (w : World) => rnewer_x hX2 w)
                  have Q := Lib.hid (show ∀ wq, Below w16.heap.size w16 wq → _ from fun wq (b : Below w16.heap.size w16 wq) => (⟨(b.cell (p := ⟨bb, oo + j * 25 + 1 + i * 3, none⟩) hbs).trans q0, (b.cell (p := ⟨bb, oo + j * 25 + 1 + i * 3 + 1, none⟩) hbs).trans q1, (b.cell (p := ⟨bb, oo + j * 25 + 1 + i * 3 + 2, none⟩) hbs).trans q2⟩ : _ ∧ _ ∧ _))
                  have hbz := Lib.hid hbs
                  clear hra hC hZ hX2 h8 q0 q1 q2 hbs
                  obtain ⟨q0, q1, q2⟩ := Q.out _ HIJ.out.1
                  obtain ⟨z0, z1, z2⟩ := cell_box HX3.out
                  have hvb : bb < wr.heap.size := Nat.lt_of_lt_of_le hbz.out HIJ.out.1.size
                  have hvz : wo.heap.size < wr.heap.size := (Array.getElem?_eq_some_iff.1 HX3.out).1
                  have hq := bregrown (Below.refl wr.heap.size wr)
                  have hi8' : decide ((i : Int) < 8) = true := by simpa using (by omega : (i : Int) < 8)
                  go_upto_region 25 with fail
                  go_cut [22] (fun v wx => v = .bool X2 ∧ Below wr.heap.size wr wx)
                  case first =>
                    refine wp_region_quiet_below (by kernel_rfl) (by kernel_rfl) ?_
                    repeat (go_big_quiet_step (exact Calls.regrown_of (RN2.out _)))
                    refine wpQuiet_nil ?_
                    rintro w' ⟨⟨dq, osq⟩, rfl⟩
                    go_wp2_with fail
                    go_meet
                    exact ⟨rfl, below_regrown _ dq osq⟩
                  case rest =>
                    obtain ⟨rfl, b4⟩ := hcut
                    have HB4 := Lib.hid (HIJ.out.1.trans (b4.mono HIJ.out.1.size))
                    have HX4 := Lib.hid ((b4.block _ hvz).trans HX3.out)
                    clear b4 hq hvb hvz q0 q1 q2 z0 z1 z2
                    cases X2
                    · go_wp2
                      exact ⟨⟨j + 1, by omega, by simp, HB4.out, by rw [HST.out]; exact HX4.out⟩, by simp [intOf]; omega⟩
                    · obtain ⟨q0, q1, q2⟩ := Q.out _ HB4.out
                      obtain ⟨z0, z1, z2⟩ := cell_box HX4.out
                      obtain ⟨y0, y1, y2⟩ := cell_soft HX4.out
                      go_wp2
                      exact ⟨⟨j + 1, by omega, by simp, best_put HB4.out HX4.out hlo2.out (by simpa using HST.out)⟩, by simp [intOf]; omega⟩
                · obtain rfl : j = l.length := by omega
                  obtain ⟨C, hC⟩ : ∃ C, bestL i l = C := ⟨_, rfl⟩
                  have HX3 := Lib.hid (show wr.heap[wo.heap.size]? = some (.cells #[.int .i64 C.e, .int .i64 C.n, .string C.d] 23 (0, 0)) from by have := HIJ.out.2; rw [List.take_length, hC] at this; exact this)
                  have HG17 := Lib.hid ((HIJ.out.1.block _ (Array.getElem?_eq_some_iff.1 HG16.out).1).trans HG16.out)
                  have him : i < (mergeL l).length := by rw [mergeL_len]; exact hi8
                  obtain ⟨⟨m0, m1, m2⟩, -⟩ := flat_cells HG17.out him
                  have hm : (mergeL l)[i] = C := by have := mergeL_get l i hi8; rw [hC] at this; simpa [him] using this
                  rw [hm] at m0 m1 m2
                  clear hm him hC
                  obtain ⟨z0, z1, z2⟩ := cell_box HX3.out
                  have hv1 : w15.heap.size < wr.heap.size := (Array.getElem?_eq_some_iff.1 HG17.out).1
                  have hvz : wo.heap.size < wr.heap.size := (Array.getElem?_eq_some_iff.1 HX3.out).1
                  have hq := bregrown (Below.refl wr.heap.size wr)
                  have NE := neq_cell_self C
                  have hgu := eqg_cell
                  have hi8' : decide ((i : Int) < 8) = true := by simpa using (by omega : (i : Int) < 8)
                  go_upto_region 28 with fail
                  refine wp_region_quiet_below (by kernel_rfl) (by kernel_rfl) ?_
                  repeat (first | (refine wpQuiet_bin (by rfl) .neq 23 _ _ _ rfl #[.int .i64 C.e, .int .i64 C.n, .string C.d] #[.int .i64 C.e, .int .i64 C.n, .string C.d] rfl rfl hgu (.bool false) NE ?_; simp only [Act.put, List.setIfInBounds_toArray, List.set_cons_zero, List.set_cons_succ]) | go_big_quiet_step (fail))
                  refine wpQuiet_nil ?_
                  rintro w' ⟨⟨dq, osq⟩, rfl⟩
                  go_wp2
                  exact ⟨⟨i + 1, by omega, by simp, HIJ.out.1.trans ((below_regrown _ dq osq).mono HIJ.out.1.size)⟩, by simp [intOf]; omega⟩
            · obtain rfl : i = 8 := by omega
              go_wp2
              go_ret
              exact ⟨rfl, HB16.out.trans (HBI.out.mono HB16.out.size)⟩
end Go.Proofs.Ytclhmpknkinjcaa
