/-
  TopAdmit: the walk.
-/
import Derived.Test.YtclhmpknkinjcaaNewR
namespace Go.Proofs.Ytclhmpknkinjcaa
open Go.RowKit Go.Sort

/-- what the walk keeps -/
structure TA (w : World) (r : Rp) (x o : Cel) (wx : World) : Prop where
  below : Below w.heap.size w wx
  hA : wx.heap[w.heap.size]? = some (.cells r.arr 26 (0, 0))
  hX : wx.heap[w.heap.size + 1]? = some (.cells #[.int .i64 x.e, .int .i64 x.n, .string x.d] 23 (0, 0))
  hO : wx.heap[w.heap.size + 1 + 1]? = some (.cells #[.int .i64 o.e, .int .i64 o.n, .string o.d] 23 (0, 0))
/-- a row in a block of its own -/
structure TR (w : World) (N : Nat) (a : Rp) (wx : World) : Prop where
  lo : w.heap.size + 1 + 1 < N
  row : wx.heap[N]? = some (.cells a.arr 26 (0, 0))
theorem TR.lt {w wx : World} {N : Nat} {a : Rp} (h : TR w N a wx) : N < wx.heap.size := (Array.getElem?_eq_some_iff.1 h.row).1
theorem TA.over {w wx w' : World} {r : Rp} {x o : Cel} (h : TA w r x o wx) (b : Below wx.heap.size wx w') : TA w r x o w' :=
  ⟨h.below.trans (b.mono h.below.size), (b.block _ (Array.getElem?_eq_some_iff.1 h.hA).1).trans h.hA, (b.block _ (Array.getElem?_eq_some_iff.1 h.hX).1).trans h.hX, (b.block _ (Array.getElem?_eq_some_iff.1 h.hO).1).trans h.hO⟩
theorem TR.over {w wx w' : World} {N : Nat} {a : Rp} (h : TR w N a wx) (b : Below wx.heap.size wx w') : TR w N a w' := ⟨h.lo, (b.block _ h.lt).trans h.row⟩
theorem TA.set {w wx : World} {r : Rp} {x o : Cel} {N : Nat} (h : TA w r x o wx) (hN : w.heap.size + 1 + 1 < N) (cs : Array Value) : TA w r x o (wx.setRow N cs) :=
  ⟨h.below.trans (((Keeps.refl (· = N) wx).setRow rfl _).below h.below.size (fun m hm => by omega)), (setRow_other _ _ _ _ (by omega)).trans h.hA, (setRow_other _ _ _ _ (by omega)).trans h.hX, (setRow_other _ _ _ _ (by omega)).trans h.hO⟩
theorem TR.set {w wx : World} {N : Nat} {a : Rp} (h : TR w N a wx) (b : Rp) : TR w N b (wx.setRow N b.arr) := ⟨h.lo, setRow_heap _ _ _ _ _ _ h.row⟩
theorem TR.other {w wx : World} {N M : Nat} {a : Rp} (h : TR w N a wx) (hm : N ≠ M) (cs : Array Value) : TR w N a (wx.setRow M cs) := ⟨h.lo, (setRow_other _ _ _ _ hm).trans h.row⟩
theorem TA.big {w wx : World} {r : Rp} {x o : Cel} (h : TA w r x o wx) : w.heap.size + 1 + 1 < wx.heap.size := (Array.getElem?_eq_some_iff.1 h.hO).1
theorem TA.row {w wx : World} {r : Rp} {x o : Cel} (h : TA w r x o wx) (z : Array Value) (b : Rp) : TR w wx.heap.size b ((wx.alloc (.cells z 26)).setRow wx.heap.size b.arr) :=
  ⟨h.big, setRow_heap _ _ _ _ _ _ (heap_alloc_new wx _)⟩

set_option maxRecDepth 100000 in
set_option maxHeartbeats 4000000 in
theorem topadmit_walk (r : Rp) (at_ : Int) (x o : Cel) (w : World) (hr : r.cells.length = 8) :
    Calls Try.prog 7 #[.agg r.arr, .int .i64 at_, x.v, o.v] w fun e w' => e = .returned (.bool true) ∧ Below w.heap.size w w' := by
  have HR := Lib.hid hr
  have hz := Lib.hid (Rp.size hr)
  clear hr
  go_enter Try.func7, Try.ntmps7
  go_upto_region 1 with fail
  obtain ⟨w3, hw3⟩ : ∃ w3, w3 = ((w.alloc (.cells r.arr 26)).alloc (.cells #[.int .i64 x.e, .int .i64 x.n, .string x.d] 23)).alloc (.cells #[.int .i64 o.e, .int .i64 o.n, .string o.d] 23) := ⟨_, rfl⟩
  rw [← hw3]
  have HT := Lib.hid (show TA w r x o w3 from hw3 ▸ ⟨bal3a w _ _ _, (heap3 w _ _ _).1, (heap3 w _ _ _).2.1, (heap3 w _ _ _).2.2⟩)
  clear hw3
  go_wp2_with fail
  refine (new_any _).mono ?_
  rintro e w4 ⟨rfl, b4⟩
  have HT4 := Lib.hid (HT.out.over b4)
  clear b4 HT
  obtain ⟨A1, hA1⟩ : ∃ A1, Rp.start.admitC 1 ⟨1, 2, ⟨#[120]⟩⟩ = A1 := ⟨_, rfl⟩
  have hz1 := Lib.hid (show A1.arr.size = 25 from hA1 ▸ Rp.size (by rw [Rp.admit_len]; rfl))
  have HG1 := Lib.hid (show A1.cells.length = 8 ∧ A1.get 1 = ⟨1, 2, ⟨#[120]⟩⟩ from hA1 ▸ ⟨by rw [Rp.admit_len]; rfl, start_admit⟩)
  go_wp2_with fail
  refine (admit_x Rp.start 1 1 rfl ⟨1, 2, ⟨#[120]⟩⟩ _ rfl (by omega) A1 hA1 true rfl).mono ?_
  rintro e w5 ⟨rfl, b5⟩
  have HT5 := Lib.hid (HT4.out.over b5)
  clear b5 HT4 hA1
  go_upto_region 2 with (refine wpList_store_row rfl 26 _ _ rfl w5.heap.size A1.arr rfl rfl 26 Rp.zero.arr (heap_alloc_new w5 _) (by rw [rp_row.2.1, hz1.out]) (by rw [hz1.out]; rfl) (Rp.one _) ?_)
  obtain ⟨w6, hw6⟩ : ∃ w6, w6 = (w5.alloc (.cells Rp.zero.arr 26)).setRow w5.heap.size A1.arr := ⟨_, rfl⟩
  rw [rp_zero_arr] at hw6
  rw [← hw6]
  have HT6 := Lib.hid (show TA w r x o w6 from hw6 ▸ HT5.out.over (bel_row w5 _ _ _))
  have HN6 := Lib.hid (show TR w w5.heap.size A1 w6 from hw6 ▸ HT5.out.row _ _)
  clear hw6
  obtain ⟨⟨-, -, g6⟩, -⟩ := rp_cell (k := 1) HN6.out.row (by rw [HG1.out.1]; omega)
  rw [← Rp.get_at, HG1.out.2] at g6
  have g6' : w6.cell? ⟨w5.heap.size, 6, none⟩ = some (.string ⟨#[120]⟩) := g6
  clear g6
  by_cases h0 : at_ < 0
  · go_wp2
    go_ret
    exact ⟨rfl, HT6.out.below⟩
  by_cases h7 : at_ > 7
  · go_wp2
    go_ret
    exact ⟨rfl, HT6.out.below⟩
  obtain ⟨k, rfl⟩ : ∃ k : Nat, at_ = (k : Int) := ⟨at_.toNat, by omega⟩
  have hk : k < 8 := by omega
  have hkr := Lib.hid (show k < r.cells.length from by rw [HR.out]; exact hk)
  obtain ⟨x0, x1, x2⟩ := cell_box HT6.out.hX
  obtain ⟨D, hD⟩ : ∃ D, decide (x.e = r.floor) = D := ⟨_, rfl⟩
  obtain ⟨a, ha⟩ : ∃ a, r.admitC k x = a := ⟨_, rfl⟩
  have HD := Lib.hid hD
  have HM := Lib.hid ha
  have hza := Lib.hid (show a.arr.size = 25 from ha ▸ Rp.size (by rw [Rp.admit_len]; exact HR.out))
  have HLa := Lib.hid (show a.cells.length = 8 from ha ▸ (by rw [Rp.admit_len]; exact HR.out))
  clear hD ha
  have hu6 := Lib.hid HT6.out.big
  go_wp2_with (first | (refine wpList_load_row rfl 26 _ rfl w.heap.size rfl 26 r.arr (0, 0) _ HT6.out.hA rp_row.1 rfl (by rw [rp_row.2.1, hz.out]) ?_) | fail)
  refine (admit_x r k k rfl x _ HR.out hk a HM.out D HD.out).mono ?_
  rintro e w7 ⟨rfl, b7⟩
  have HT7 := Lib.hid (HT6.out.over b7)
  have HN7 := Lib.hid (HN6.out.over b7)
  clear b7 HT6 HN6 x0 x1 x2 g6'
  go_upto_region 7 with (refine wpList_store_row rfl 26 _ _ rfl w5.heap.size a.arr rfl rfl 26 A1.arr HN7.out.row (by rw [rp_row.2.1, hza.out]) (by rw [hza.out, hz1.out]) (Rp.one _) ?_)
  obtain ⟨w8, hw8⟩ : ∃ w8, w8 = w7.setRow w5.heap.size a.arr := ⟨_, rfl⟩
  rw [← hw8]
  have HT8 := Lib.hid (show TA w r x o w8 from hw8 ▸ HT7.out.set HN7.out.lo _)
  have HN8 := Lib.hid (show TR w w5.heap.size a w8 from hw8 ▸ HN7.out.set a)
  clear hw8 HT7 HN7
  obtain ⟨x0, x1, x2⟩ := cell_box HT8.out.hX
  have hkr' := hkr.out
  have hka' : k < a.cells.length := by rw [HLa.out]; exact hk
  obtain ⟨f0, -⟩ := rp_floor HT8.out.hA
  obtain ⟨⟨r0, r1, r2⟩, -⟩ := rp_cell (k := k) HT8.out.hA hkr'
  obtain ⟨⟨a0, a1, a2⟩, -⟩ := rp_cell (k := k) HN8.out.row hka'
  obtain ⟨C1, hC1⟩ : ∃ C1, r.cells[k] = C1 := ⟨_, rfl⟩
  obtain ⟨C2, hC2⟩ : ∃ C2, a.cells[k] = C2 := ⟨_, rfl⟩
  have HNW := Lib.hid (show newerB C1 C2 = false from by rw [← hC1, ← hC2, ← Rp.get_at hkr', ← Rp.get_at hka', ← HM.out]; exact Rp.admit_older r x hkr')
  have NW := Lib.hid (fun (w : World) => newer_no HNW.out w)
  rw [hC1] at r0 r1 r2
  rw [hC2] at a0 a1 a2
  clear hC1 hC2
  have hq := bregrown (Below.refl w8.heap.size w8)
  have hv0 : w.heap.size < w8.heap.size := by have := HT8.out.big; omega
  have hv1 : w.heap.size + 1 < w8.heap.size := by have := HT8.out.big; omega
  have hvN : w5.heap.size < w8.heap.size := HN8.out.lt
  have QA := Lib.hid (fun d os => ((below_regrown w8 d os).block _ hv0).trans HT8.out.hA)
  have QN := Lib.hid (fun d os => ((below_regrown w8 d os).block _ hvN).trans HN8.out.row)
  have hk8 : decide ((k : Int) < 8) = true := by simpa using (by omega : (k : Int) < 8)
  clear hka' hkr' h7 h0 hu6
  go_cut [72] (fun v wx => v = .bool false ∧ Below w8.heap.size w8 wx)
  case first =>
    cases D
    · have HXE := Lib.hid (show a = r from HM.out.symm.trans (Rp.admit_no (of_decide_eq_false HD.out)))
      have NE := fun w => (neq_rp a r HLa.out HR.out w).trans (by rw [HXE.out, eqRp_self])
      have hgu := eqg_rp
      refine wp_region_quiet_below (by kernel_rfl) (by kernel_rfl) ?_
      repeat (first | (refine wpQuiet_load_row (by rfl) 26 _ rfl w5.heap.size rfl 26 a.arr (0, 0) _ (by rintro w' ⟨⟨d, os⟩, rfl⟩; exact QN.out d os) rp_row.1 rfl (by rw [rp_row.2.1, hza.out]) ?_) | (refine wpQuiet_load_row (by rfl) 26 _ rfl w.heap.size rfl 26 r.arr (0, 0) _ (by rintro w' ⟨⟨d, os⟩, rfl⟩; exact QA.out d os) rp_row.1 rfl (by rw [rp_row.2.1, hz.out]) ?_) | (refine wpQuiet_bin (by rfl) .neq 26 _ _ _ rfl a.arr r.arr rfl rfl hgu (.bool false) NE ?_; simp only [Act.put, List.setIfInBounds_toArray, List.set_cons_zero, List.set_cons_succ]) | go_big_quiet_step (exact Calls.regrown_of (NW.out _)))
      refine wpQuiet_nil ?_
      rintro w' ⟨⟨dq, osq⟩, rfl⟩
      go_wp2_with fail
      go_meet
      exact ⟨rfl, below_regrown _ dq osq⟩
    · have exb : (x.e != r.floor) = false := by simp [of_decide_eq_true HD.out]
      refine wp_region_quiet_below (by kernel_rfl) (by kernel_rfl) ?_
      repeat (go_big_quiet_step (exact Calls.regrown_of (NW.out _)))
      refine wpQuiet_nil ?_
      rintro w' ⟨⟨dq, osq⟩, rfl⟩
      go_wp2_with fail
      go_meet
      exact ⟨rfl, below_regrown _ dq osq⟩
  case rest =>
    obtain ⟨rfl, b9⟩ := hcut
    have HT9 := Lib.hid (HT8.out.over b9)
    have HN9 := Lib.hid (HN8.out.over b9)
    clear b9 QA QN hq hv0 hv1 hvN x0 x1 x2 f0 r0 r1 r2 a0 a1 a2 HT8 HN8 NW HNW
    obtain ⟨x0, x1, x2⟩ := cell_box HT9.out.hX
    have hu9 := HT9.out.big
    go_wp2_with (refine wpList_load_row rfl 26 _ rfl w5.heap.size rfl 26 a.arr (0, 0) _ HN9.out.row rp_row.1 rfl (by rw [rp_row.2.1, hza.out]) ?_)
    refine (admit_x a k k rfl x _ HLa.out hk a (by rw [← HM.out]; exact Rp.admit_twice r x hkr.out) D (by rw [← HM.out, Rp.admit_floor]; exact HD.out)).mono ?_
    rintro e w10 ⟨rfl, b10⟩
    have HT10 := Lib.hid (HT9.out.over b10)
    have HN10 := Lib.hid (HN9.out.over b10)
    clear b10 x0 x1 x2 HT9 HN9
    go_upto_region 10 with (refine wpList_store_row rfl 26 _ _ rfl w10.heap.size a.arr rfl rfl 26 Rp.zero.arr (heap_alloc_new w10 _) (by rw [rp_row.2.1, hza.out]) (by rw [hza.out]; rfl) (Rp.one _) ?_)
    obtain ⟨w11, hw11⟩ : ∃ w11, w11 = (w10.alloc (.cells Rp.zero.arr 26)).setRow w10.heap.size a.arr := ⟨_, rfl⟩
    rw [rp_zero_arr] at hw11
    rw [← hw11]
    have HT11 := Lib.hid (show TA w r x o w11 from hw11 ▸ HT10.out.over (bel_row w10 _ _ _))
    have HN11 := Lib.hid (show TR w w5.heap.size a w11 from hw11 ▸ HN10.out.over (bel_row w10 _ _ _))
    have HB11 := Lib.hid (show TR w w10.heap.size a w11 from hw11 ▸ HT10.out.row _ _)
    clear hw11 HT10 HN10
    have hDD : (D != D) = false := by simp
    have NE := fun w => (neq_rp a a HLa.out HLa.out w).trans (by rw [eqRp_self])
    have hgu := eqg_rp
    obtain ⟨x0, x1, x2⟩ := cell_box HT11.out.hX
    obtain ⟨o0, o1, o2⟩ := cell_box HT11.out.hO
    go_upto_region 12 with (first | (refine wpList_load_row_g (by rfl) 26 _ rfl w10.heap.size rfl 26 a.arr (0, 0) _ HB11.out.row rp_row.1 rfl (by rw [rp_row.2.1, hza.out]) ?_) | (refine wpList_load_row_g (by rfl) 26 _ rfl w5.heap.size rfl 26 a.arr (0, 0) _ HN11.out.row rp_row.1 rfl (by rw [rp_row.2.1, hza.out]) ?_))
    clear NE hDD
    have HF := Lib.hid HT11.out.below
    by_cases hsm : x.e = o.e ∧ x.n = o.n
    · obtain ⟨he, hn⟩ := hsm
      have eb : (x.e == o.e) = true := by simp [he]
      have nb : (x.n == o.n) = true := by simp [hn]
      clear he hn
      go_wp2
      go_ret
      exact ⟨rfl, HF.out⟩
    have HS := Lib.hid hsm
    obtain ⟨c, hc⟩ : ∃ c, a.admitC k o = c := ⟨_, rfl⟩
    obtain ⟨d, hd⟩ : ∃ d, r.admitC k o = d := ⟨_, rfl⟩
    have HC := Lib.hid hc
    have HDD := Lib.hid hd
    have HDC := Lib.hid (show d.admitC k x = c from by rw [← hd, ← hc, ← HM.out]; exact (Rp.admit_comm r x o hkr.out hsm).symm)
    have HLc := Lib.hid (show c.cells.length = 8 from hc ▸ (by rw [Rp.admit_len]; exact HLa.out))
    have HLd := Lib.hid (show d.cells.length = 8 from hd ▸ (by rw [Rp.admit_len]; exact HR.out))
    have hzc := Lib.hid (Rp.size HLc.out)
    have hzd := Lib.hid (Rp.size HLd.out)
    clear hc hd hsm
    go_cut [99] (fun v wx => v = .bool false ∧ wx = w11)
    case first =>
      by_cases he : x.e = o.e
      · have eb : (x.e == o.e) = true := by simp [he]
        have nb : (x.n == o.n) = false := by
          have : x.n ≠ o.n := fun e => HS.out ⟨he, e⟩
          simp [this]
        clear he
        go_wp2
        go_meet
        exact ⟨rfl, rfl⟩
      · have eb : (x.e == o.e) = false := by simp [he]
        clear he
        go_wp2
        go_meet
        exact ⟨rfl, rfl⟩
    case rest =>
      obtain ⟨rfl, rfl⟩ := hcut
      go_wp2_with (refine wpList_load_row rfl 26 _ rfl w5.heap.size rfl 26 a.arr (0, 0) _ HN11.out.row rp_row.1 rfl (by rw [rp_row.2.1, hza.out]) ?_)
      refine (admit_x a k k rfl o _ HLa.out hk c HC.out (decide (o.e = a.floor)) rfl).mono ?_
      rintro e w12 ⟨rfl, b12⟩
      have HT12 := Lib.hid (HT11.out.over b12)
      have HN12 := Lib.hid (HN11.out.over b12)
      clear b12 x0 x1 x2 o0 o1 o2 HT11 HN11 HB11
      go_upto_region 15 with (refine wpList_store_row rfl 26 _ _ rfl w12.heap.size c.arr rfl rfl 26 Rp.zero.arr (heap_alloc_new w12 _) (by rw [rp_row.2.1, hzc.out]) (by rw [hzc.out]; rfl) (Rp.one _) ?_)
      obtain ⟨w13, hw13⟩ : ∃ w13, w13 = (w12.alloc (.cells Rp.zero.arr 26)).setRow w12.heap.size c.arr := ⟨_, rfl⟩
      rw [rp_zero_arr] at hw13
      rw [← hw13]
      have HT13 := Lib.hid (show TA w r x o w13 from hw13 ▸ HT12.out.over (bel_row w12 _ _ _))
      have HC13 := Lib.hid (show TR w w12.heap.size c w13 from hw13 ▸ HT12.out.row _ _)
      clear hw13 HT12 HN12
      obtain ⟨o0, o1, o2⟩ := cell_box HT13.out.hO
      go_wp2_with (refine wpList_load_row rfl 26 _ rfl w.heap.size rfl 26 r.arr (0, 0) _ HT13.out.hA rp_row.1 rfl (by rw [rp_row.2.1, hz.out]) ?_)
      refine (admit_x r k k rfl o _ HR.out hk d HDD.out (decide (o.e = r.floor)) rfl).mono ?_
      rintro e w14 ⟨rfl, b14⟩
      have HT14 := Lib.hid (HT13.out.over b14)
      have HC14 := Lib.hid (HC13.out.over b14)
      clear b14 o0 o1 o2 HT13 HC13
      go_upto_region 16 with (refine wpList_store_row rfl 26 _ _ rfl w14.heap.size d.arr rfl rfl 26 Rp.zero.arr (heap_alloc_new w14 _) (by rw [rp_row.2.1, hzd.out]) (by rw [hzd.out]; rfl) (Rp.one _) ?_)
      obtain ⟨w15, hw15⟩ : ∃ w15, w15 = (w14.alloc (.cells Rp.zero.arr 26)).setRow w14.heap.size d.arr := ⟨_, rfl⟩
      rw [rp_zero_arr] at hw15
      rw [← hw15]
      have HT15 := Lib.hid (show TA w r x o w15 from hw15 ▸ HT14.out.over (bel_row w14 _ _ _))
      have HC15 := Lib.hid (show TR w w12.heap.size c w15 from hw15 ▸ HC14.out.over (bel_row w14 _ _ _))
      have HD15 := Lib.hid (show TR w w14.heap.size d w15 from hw15 ▸ HT14.out.row _ _)
      have hne : w12.heap.size < w14.heap.size := HC14.out.lt
      clear hw15 HT14 HC14
      obtain ⟨x0, x1, x2⟩ := cell_box HT15.out.hX
      go_wp2_with (refine wpList_load_row rfl 26 _ rfl w14.heap.size rfl 26 d.arr (0, 0) _ HD15.out.row rp_row.1 rfl (by rw [rp_row.2.1, hzd.out]) ?_)
      refine (admit_x d k k rfl x _ HLd.out hk c HDC.out (decide (x.e = d.floor)) rfl).mono ?_
      rintro e w16 ⟨rfl, b16⟩
      have HT16 := Lib.hid (HT15.out.over b16)
      have HC16 := Lib.hid (HC15.out.over b16)
      have HD16 := Lib.hid (HD15.out.over b16)
      clear b16 x0 x1 x2 HT15 HC15 HD15
      go_upto_region 17 with (refine wpList_store_row rfl 26 _ _ rfl w14.heap.size c.arr rfl rfl 26 d.arr HD16.out.row (by rw [rp_row.2.1, hzc.out]) (by rw [hzc.out, hzd.out]) (Rp.one _) ?_)
      obtain ⟨w17, hw17⟩ : ∃ w17, w17 = w16.setRow w14.heap.size c.arr := ⟨_, rfl⟩
      rw [← hw17]
      have HT17 := Lib.hid (show TA w r x o w17 from hw17 ▸ HT16.out.set HD16.out.lo _)
      have HC17 := Lib.hid (show TR w w12.heap.size c w17 from hw17 ▸ HC16.out.other (by omega) _)
      have HD17 := Lib.hid (show TR w w14.heap.size c w17 from hw17 ▸ HD16.out.set c)
      clear hw17 HT16 HC16 HD16
      have NE := fun w => (eql_rp c c HLc.out HLc.out w).trans (by rw [eqRp_self])
      go_wp2_with (first | (refine wpList_load_row rfl 26 _ rfl w12.heap.size rfl 26 c.arr (0, 0) _ HC17.out.row rp_row.1 rfl (by rw [rp_row.2.1, hzc.out]) ?_) | (refine wpList_load_row rfl 26 _ rfl w14.heap.size rfl 26 c.arr (0, 0) _ HD17.out.row rp_row.1 rfl (by rw [rp_row.2.1, hzc.out]) ?_))
      go_ret
      exact ⟨rfl, HT17.out.below⟩
end Go.Proofs.Ytclhmpknkinjcaa
