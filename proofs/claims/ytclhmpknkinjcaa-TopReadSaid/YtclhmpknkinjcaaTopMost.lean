/-
  TopMost: the walk.
-/
import Derived.Test.YtclhmpknkinjcaaGPlain
import Derived.Test.YtclhmpknkinjcaaTopFence
import Derived.Deep.CutBlock
namespace Go.Proofs.Ytclhmpknkinjcaa
open Go.RowKit Go.Sort

section
variable {P : Program} {ops : Array Oper} {rest : List Oper} {o : Oper} {a : Act} {w : World} {Q : Exit → Act → World → Prop}
theorem bin_g1 (op : BinOp) (t u : TypeId) (x y : Operand) (ho : o.op = .binOp op t x y u)
    (h : Region.wanted o (yielded ops a.tmps) = true ∧ ∃ (xs ys : Array Value) (v : Value), a.eval x = .agg xs ∧ a.eval y = .agg ys ∧ P.eqGuardType P.depth t = false ∧ (∀ w, (binOp op t (.agg xs) (.agg ys)).run P w = .ok v w) ∧ wpList P ops Q rest (a.put o.dst v) w) : wpList P ops Q (o :: rest) a w := by
  obtain ⟨hw, xs, ys, v, h1, h2, h3, h4, h5⟩ := h
  unfold wpList
  rw [if_pos hw]
  refine .inl ?_
  unfold Oper.wp execOp
  simp only [ho, h1, h2, Sem.run_bind, Sem.run_pure, Result.andThen_ok, run_eqGuard_agg _ op t x y xs ys h3, h4]
  exact h5
theorem ld_row_g1 (ty : TypeId) (x : Operand) (ho : o.op = .load ty x)
    (h : Region.wanted o (yielded ops a.tmps) = true ∧ ∃ (g : Nat) (t : TypeId) (cs : Array Value) (d : TypeDesc), a.eval x = .pointer (some ⟨g, 0, none⟩) ∧ w.heap[g]? = some (.cells cs t (0, 0)) ∧ P.underlying ty = some d ∧ d.isRow = true ∧ (P.info? ty).map (·.size) = some cs.size ∧ wpList P ops Q rest (a.put o.dst (.agg cs)) w) : wpList P ops Q (o :: rest) a w := by
  obtain ⟨hw, g, t, cs, d, h1, h2, h3, h4, h5, h6⟩ := h
  exact wpList_load_row_g hw ty x ho g h1 t cs (0, 0) d h2 h3 (by cases d <;> simp_all) h5 h6
end
theorem eqg_cell : Try.prog.eqGuardType Try.prog.depth 23 = false := by kernel_rfl
theorem new_gc (w : World) (Y : Gp) (c : Cel) :
    ((w.alloc (.cells Try.zeroCells40 40)).alloc (.cells Cel.zero.cells 23)).heap[w.heap.size]? = some (.cells Gp.zero.arr 40 (0, 0)) ∧
    (((w.alloc (.cells Try.zeroCells40 40)).alloc (.cells Cel.zero.cells 23)).setRow w.heap.size Y.arr).heap[w.heap.size + 1]? = some (.cells Cel.zero.cells 23 (0, 0)) ∧
    ((((w.alloc (.cells Try.zeroCells40 40)).alloc (.cells Cel.zero.cells 23)).setRow w.heap.size Y.arr).setRow (w.heap.size + 1) c.cells).heap[w.heap.size]? = some (.cells Y.arr 40 (0, 0)) ∧
    ((((w.alloc (.cells Try.zeroCells40 40)).alloc (.cells Cel.zero.cells 23)).setRow w.heap.size Y.arr).setRow (w.heap.size + 1) c.cells).heap[w.heap.size + 1]? = some (.cells c.cells 23 (0, 0)) ∧
    Below w.heap.size w ((((w.alloc (.cells Try.zeroCells40 40)).alloc (.cells Cel.zero.cells 23)).setRow w.heap.size Y.arr).setRow (w.heap.size + 1) c.cells) := by
  have h0 : ((w.alloc (.cells Try.zeroCells40 40)).alloc (.cells Cel.zero.cells 23)).heap[w.heap.size]? = some (.cells Gp.zero.arr 40 (0, 0)) := gp_zero_arr ▸ heap_alloc2_old w _ _
  have h1 : (((w.alloc (.cells Try.zeroCells40 40)).alloc (.cells Cel.zero.cells 23)).setRow w.heap.size Y.arr).heap[w.heap.size + 1]? = some (.cells Cel.zero.cells 23 (0, 0)) := (setRow_other _ _ _ _ (by omega)).trans (heap_alloc2_new w _ _)
  refine ⟨h0, h1, (setRow_other _ _ _ _ (by omega)).trans (setRow_heap _ _ _ _ _ _ h0), setRow_heap _ _ _ _ _ _ h1, ?_⟩
  have b := (bal w (.cells Try.zeroCells40 40)).alloc (by simp) (.cells Cel.zero.cells 23)
  exact b.trans ((((Keeps.refl (fun m => m = w.heap.size ∨ m = w.heap.size + 1) ((w.alloc (.cells Try.zeroCells40 40)).alloc (.cells Cel.zero.cells 23))).setRow (.inl rfl) _).setRow (.inr rfl) _).below b.size (fun m hm => by omega))
/-- a group and a cell in blocks of their own -/
structure MT (w : World) (G C : Nat) (h : Gp) (c : Cel) (wx : World) : Prop where
  below : Below w.heap.size w wx
  ok : h.ok
  hG : wx.heap[G]? = some (.cells h.arr 40 (0, 0))
  hC : wx.heap[C]? = some (.cells c.cells 23 (0, 0))
  lo : w.heap.size ≤ G
  loC : w.heap.size ≤ C
  ne : G ≠ C
theorem MT.lt {w wx : World} {G C : Nat} {h : Gp} {c : Cel} (f : MT w G C h c wx) : G < wx.heap.size := (Array.getElem?_eq_some_iff.1 f.hG).1
theorem MT.ltC {w wx : World} {G C : Nat} {h : Gp} {c : Cel} (f : MT w G C h c wx) : C < wx.heap.size := (Array.getElem?_eq_some_iff.1 f.hC).1
theorem MT.over {w wx w' : World} {G C : Nat} {h : Gp} {c : Cel} (f : MT w G C h c wx) (b : Below wx.heap.size wx w') : MT w G C h c w' :=
  ⟨f.below.trans (b.mono f.below.size), f.ok, row_over f.hG b, row_over f.hC b, f.lo, f.loC, f.ne⟩
theorem MT.put {w wx : World} {G C : Nat} {h : Gp} {c : Cel} (f : MT w G C h c wx) {k : Gp} (ok : k.ok) : MT w G C k c (wx.setRow G k.arr) := by
  have kp := (Keeps.refl (· = G) wx).setRow (g := G) rfl k.arr
  exact ⟨f.below.trans (kp.below f.below.size (fun m hm => by have := f.lo; omega)), ok, setRow_heap _ _ _ _ _ _ f.hG, (kp.block _ (Ne.symm f.ne) f.ltC).trans f.hC, f.lo, f.loC, f.ne⟩
theorem MT.putC {w wx : World} {G C : Nat} {h : Gp} {c : Cel} (f : MT w G C h c wx) (d : Cel) : MT w G C h d (wx.setRow C d.cells) := by
  have kp := (Keeps.refl (· = C) wx).setRow (g := C) rfl d.cells
  exact ⟨f.below.trans (kp.below f.below.size (fun m hm => by have := f.loC; omega)), f.ok, (kp.block _ f.ne f.lt).trans f.hG, setRow_heap _ _ _ _ _ _ f.hC, f.lo, f.loC, f.ne⟩
theorem MT.setU {w wx : World} {G C : Nat} {h : Gp} {c : Cel} (f : MT w G C h c wx) (i : Nat) (b : Bool) : MT w G C (h.setU i b) c (wx.setCell ⟨G, 75 + i, none⟩ (.bool b)) := by
  have kp := (Keeps.refl (· = G) wx).setCell (p := ⟨G, 75 + i, none⟩) rfl (.bool b)
  exact ⟨f.below.trans (kp.below f.below.size (fun m hm => by have := f.lo; omega)), f.ok.setU i b, gp_setU f.hG f.ok b, (kp.block _ (Ne.symm f.ne) f.ltC).trans f.hC, f.lo, f.loC, f.ne⟩

set_option maxRecDepth 100000 in
set_option maxHeartbeats 1000000 in
theorem topmost_walk (l more : List Ac) (a a2 : Option Addr) (cap cap2 : Nat) (at' : Int) (data : ByteArray) (w : World) (hl : l.length ≤ maxLen) (hr : ActsAt w a l) (hl2 : more.length ≤ maxLen) (hr2 : ActsAt w a2 more) :
    Calls Try.prog 10 #[.slice a l.length cap, .slice a2 more.length cap2, .int .i64 at', .string data] w fun e w' => e = .returned (.bool true) ∧ Below w.heap.size w w' := by
  have HR := Lib.hid hr
  have HR2 := Lib.hid hr2
  clear hr hr2
  go_enter Try.func10, Try.ntmps10
  go_wp2_with fail
  refine (grouped_any _).mono ?_
  rintro e w2 ⟨rfl, b2⟩
  have B2 := Lib.hid b2
  clear b2
  go_wp2_with fail
  refine (lightacts_any l a cap 40 _ hl (HR.out.below B2.out)).mono ?_
  rintro e w3 ⟨L, rfl, hL, b3⟩
  have B3 := Lib.hid (B2.out.trans (b3.mono B2.out.size))
  have HL := Lib.hid hL
  clear b3 B2 hL
  cases L
  · go_wp2
    go_ret
    exact ⟨rfl, B3.out⟩
  have hl40 : l.length ≤ 40 := (HL.out rfl).1
  clear HL
  go_wp2_with fail
  refine (lightacts_any more a2 cap2 40 _ hl2 (HR2.out.below B3.out)).mono ?_
  rintro e w3' ⟨L, rfl, hL, b3⟩
  have B3' := Lib.hid (B3.out.trans (b3.mono B3.out.size))
  have HL := Lib.hid hL
  clear b3 hL B3
  cases L
  · go_wp2
    go_ret
    exact ⟨rfl, B3'.out⟩
  have hm40 : more.length ≤ 40 := (HL.out rfl).1
  clear HL
  by_cases z1 : at' < 0
  · go_wp2
    go_ret
    exact ⟨rfl, B3'.out⟩
  by_cases z2 : 7 < at'
  · go_wp2
    go_ret
    exact ⟨rfl, B3'.out⟩
  by_cases z3 : 20 < data.size
  · go_wp2
    go_ret
    exact ⟨rfl, B3'.out⟩
  obtain ⟨kk, rfl⟩ := Int.eq_ofNat_of_zero_le (show 0 ≤ at' by omega)
  have hkk : kk < 8 := by omega
  go_wp2_with fail
  refine (led_any l a cap _ (by omega) (HR.out.below B3'.out)).mono ?_
  rintro e w4 ⟨g, ep, ok, rfl, hg, hok, b4⟩
  have GOK := Lib.hid hg
  have HOK := Lib.hid hok
  have ZG := Lib.hid (Gp.size hg)
  have B4 := Lib.hid (B3'.out.trans (b4.mono B3'.out.size))
  have Z4 := Lib.hid (new_z w4)
  clear b4 B3' hg hok
  go_upto_region 7 with ((with_reducible refine st_row1 rfl 40 _ _ rfl ?_); refine ⟨w4.heap.size, _, g.arr, _, rfl, rfl, Z4.out, by rw [gp_row.2, ZG.out], by rw [ZG.out]; rfl, Gp.one _, ?_⟩)
  obtain ⟨w5, hw5⟩ : ∃ w5, w5 = (w4.alloc (.cells Try.zeroCells40 40)).setRow w4.heap.size g.arr := ⟨_, rfl⟩
  rw [← hw5]
  have N5 := Lib.hid (show Below w4.heap.size w4 w5 ∧ w5.heap[w4.heap.size]? = some (.cells g.arr 40 (0, 0)) from hw5 ▸ new_g w4 g)
  have B5 := Lib.hid (B4.out.trans (N5.out.1.mono B4.out.size))
  have hN5 : w.heap.size ≤ w4.heap.size := B4.out.size
  clear hw5 Z4 B4
  obtain ⟨G, hG⟩ : ∃ G, w4.heap.size = G := ⟨_, rfl⟩
  rw [hG] at N5 hN5
  rw [hG]
  clear hG
  have G5 := Lib.hid N5.out.2
  clear N5
  cases ok
  · go_wp2
    go_ret
    exact ⟨rfl, B5.out⟩
  obtain ⟨hge, hee, he1, he2⟩ := HOK.out rfl
  have HGE := Lib.hid hge
  have HEE := Lib.hid hee
  clear HOK hge hee
  obtain ⟨c, hcc⟩ : ∃ c : Cel, c = ⟨ep, 1000, data⟩ := ⟨_, rfl⟩
  have BC := Lib.hid (show Try.prog.built 23 [(0, .int .i64 ep), (1, .int .i64 1000), (2, .string data)] = some c.cells from by subst hcc; exact built_cell ⟨ep, 1000, data⟩)
  have OLD := Lib.hid (show ∀ i, i < 3 → newerB c (valG g kk i) = true from fun i _ => by
    have hb := ledAll_bound l
    rw [← HGE.out, ← HEE.out] at hb
    have hv := valG_S hb.1 (by simp [Cel.zero]) kk i
    have hv2 : (valG g kk i).e ≤ ep ∧ (valG g kk i).n ≤ (ledAll l).n := hv
    have hn := hb.2
    rw [hcc]
    unfold newerB
    simp only [decide_eq_true_eq]
    omega)
  have CZ := Lib.hid (show newerB c Cel.zero = true from by rw [hcc]; unfold newerB Cel.zero; simp only [decide_eq_true_eq]; omega)
  clear hcc HGE HEE
  go_upto_region 10 with (first | ((with_reducible refine bld1 rfl 23 _ rfl ?_); refine ⟨[(0, .int .i64 ep), (1, .int .i64 1000), (2, .string data)], c.cells, rfl, BC.out, ?_⟩) | ((with_reducible refine st_row1 rfl 23 _ _ rfl ?_); refine ⟨w5.heap.size, _, c.cells, _, rfl, rfl, heap_alloc_new w5 _, cell_row.2, rfl, cel_one _, ?_⟩))
  obtain ⟨w6, hw6⟩ : ∃ w6, w6 = (w5.alloc (.cells Cel.zero.cells 23)).setRow w5.heap.size c.cells := ⟨_, rfl⟩
  have hw6' := hw6
  rw [cel_zero_arr] at hw6
  rw [← hw6]
  clear hw6
  have b6 : Below w5.heap.size w5 w6 := hw6' ▸ bel_row w5 _ _ _
  have T6 := Lib.hid (show MT w G w5.heap.size g c w6 from ⟨B5.out.trans (b6.mono B5.out.size), GOK.out, row_over G5.out b6, hw6' ▸ setRow_heap _ _ _ _ _ _ (heap_alloc_new w5 _), hN5, B5.out.size, by have := (Array.getElem?_eq_some_iff.1 G5.out).1; omega⟩)
  clear hw6' b6 B5 G5
  obtain ⟨C, hC⟩ : ∃ C, w5.heap.size = C := ⟨_, rfl⟩
  rw [hC] at T6
  rw [hC]
  clear hC
  go_wp2
  go_loopw [13, 14] (fun vn i wr => ∃ k : Nat, k ≤ 3 ∧ i = .int .i64 k ∧ vn = .int .i64 (delTo g c kk k).2 ∧ MT w G C (delTo g c kk k).1 c wr) (fun _ i _ => 3 - (intOf i).toNat)
  case atStart => exact ⟨0, by omega, rfl, rfl, T6.out⟩
  case round =>
    obtain ⟨k, hk, rfl, rfl, mt⟩ := hrel
    have DL := Lib.hid (delTo_law GOK.out (c := c) hkk OLD.out k hk)
    have DS := Lib.hid (show delTo g c kk (k + 1) = if (delTo g c kk k).1.delivers k c && decide ((delTo g c kk k).2 < 2) then ((delTo g c kk k).1.deliver k kk c, (delTo g c kk k).2 + 1) else delTo g c kk k from rfl)
    obtain ⟨P, hP⟩ : ∃ P, delTo g c kk k = P := ⟨_, rfl⟩
    obtain ⟨h, n⟩ := P
    rw [hP] at mt DL DS
    simp only [hP]
    have TM := Lib.hid mt
    have HP := Lib.hid hP
    clear mt hP T6
    have hn2 : n ≤ 2 := DL.out.2.2.2.1
    by_cases hk3 : k < 3
    · have ZH := Lib.hid (Gp.size TM.out.ok)
      have BM := Lib.hid (built_msg k kk c)
      unfold msgC at BM
      go_wp2_with (first | ((with_reducible refine ld_row1 rfl 40 _ rfl ?_); refine ⟨G, _, h.arr, _, rfl, TM.out.hG, gp_row.1, rfl, by rw [gp_row.2, ZH.out], ?_⟩) | ((with_reducible refine ld_row1 rfl 23 _ rfl ?_); refine ⟨C, _, c.cells, _, rfl, TM.out.hC, cell_row.1, rfl, cell_row.2, ?_⟩) | ((with_reducible refine bld1 rfl 66 _ rfl ?_); refine ⟨[(0, .int .i64 k), (1, .int .i64 kk), (2, .agg c.cells)], _, rfl, BM.out, ?_⟩))
      refine (gdeliver_any h k kk c 0 _ TM.out.ok hk3 hkk).mono ?_
      rintro e w7 ⟨rfl, b7⟩
      obtain ⟨Y, hY⟩ : ∃ Y, h.deliver k kk c = Y := ⟨_, rfl⟩
      have YOK := Lib.hid (show Y.ok from hY ▸ Gp.deliver_ok TM.out.ok hk3 c)
      obtain ⟨B, hB⟩ : ∃ B, h.delivers k c = B := ⟨_, rfl⟩
      rw [hY, hB] at DS ⊢
      have ZY := Lib.hid (Gp.size YOK.out)
      have T7 := Lib.hid (TM.out.over b7)
      have HW8 := Lib.hid (new_z w7)
      have T8 := Lib.hid (show MT w G C h c ((w7.alloc (.cells Try.zeroCells40 40)).setRow w7.heap.size Y.arr) from T7.out.over (bel_row w7 _ _ _))
      clear hY hB b7 TM T7
      cases B
      · have HE := Lib.hid (show delTo g c kk (k + 1) = (h, n) from DS.out)
        go_wp2_with ((with_reducible refine st_row1 rfl 40 _ _ rfl ?_); refine ⟨w7.heap.size, _, Y.arr, _, rfl, rfl, HW8.out, by rw [gp_row.2, ZY.out], by rw [ZY.out]; rfl, Gp.one _, ?_⟩)
        go_roundw
        case rel => exact ⟨k + 1, by omega, by go_num, by rw [HE.out], by rw [HE.out]; exact T8.out⟩
        case measure => simp [intOf]; omega
      · by_cases hn : n < 2
        · have HE := Lib.hid (show delTo g c kk (k + 1) = (Y, n + 1) from by rw [DS.out]; simp [hn])
          have T9 := Lib.hid (T8.out.put YOK.out)
          go_wp2_with (first | ((with_reducible refine st_row1 rfl 40 _ _ rfl ?_); refine ⟨w7.heap.size, _, Y.arr, _, rfl, rfl, HW8.out, by rw [gp_row.2, ZY.out], by rw [ZY.out]; rfl, Gp.one _, ?_⟩) | ((with_reducible refine ld_row1 rfl 40 _ rfl ?_); refine ⟨w7.heap.size, _, Y.arr, _, rfl, setRow_heap _ _ _ _ _ _ HW8.out, gp_row.1, rfl, by rw [gp_row.2, ZY.out], ?_⟩) | ((with_reducible refine st_row1 rfl 40 _ _ rfl ?_); refine ⟨G, _, Y.arr, _, rfl, rfl, T8.out.hG, by rw [gp_row.2, ZY.out], by rw [ZH.out, ZY.out], Gp.one _, ?_⟩))
          go_roundw
          case rel => exact ⟨k + 1, by omega, by go_num, by rw [HE.out]; simp, by rw [HE.out]; exact T9.out⟩
          case measure => simp [intOf]; omega
        · have HE := Lib.hid (show delTo g c kk (k + 1) = (h, n) from by rw [DS.out]; simp [hn])
          go_wp2_with ((with_reducible refine st_row1 rfl 40 _ _ rfl ?_); refine ⟨w7.heap.size, _, Y.arr, _, rfl, rfl, HW8.out, by rw [gp_row.2, ZY.out], by rw [ZY.out]; rfl, Gp.one _, ?_⟩)
          go_roundw
          case rel => exact ⟨k + 1, by omega, by go_num, by rw [HE.out], by rw [HE.out]; exact T8.out⟩
          case measure => simp [intOf]; omega
    · obtain rfl : k = 3 := by omega
      by_cases hn : n < 2
      · go_wp2
        go_ret
        exact ⟨rfl, TM.out.below⟩
      have MI := Lib.hid (show MInv c kk h from ⟨DL.out.2.1, by
        obtain ⟨i, j, hij, hj, e1, e2⟩ := DL.out.2.2.2.2.2 (by omega)
        exact ⟨i, j, hij, hj, e1, e2⟩⟩)
      clear DL DS HP
      go_wp2
      obtain ⟨wq, rfl⟩ : ∃ wq : World, wq = wr := ⟨_, rfl⟩
      go_loopw [11, 17] (fun ve i wr => ∃ (k : Nat) (h : Gp) (ep' : Nat), k ≤ more.length ∧ i = .int .i64 k ∧ ve = .int .i64 ep' ∧ 1 ≤ ep' ∧ ep' ≤ ep + k ∧ MInv c kk h ∧ MT w G C h c wr) (fun _ i _ => more.length - (intOf i).toNat)
      case atStart => exact ⟨0, h, ep, by omega, rfl, rfl, he1, by omega, MI.out, TM.out⟩
      case round =>
        clear MI TM ZG
        obtain ⟨k, h, ep, hk, rfl, rfl, he1, he2', mi, mt⟩ := hrel
        have MI := Lib.hid mi
        have TM := Lib.hid mt
        clear mi mt
        have TOK := Lib.hid TM.out.ok
        by_cases hlt : k < more.length
        · obtain ⟨okx, b, o, rfl, hb, hrange⟩ := HR2.out k hlt
          have hrg : wr.rangeAt b (o + k * 19) more[k].cells := fun j v hv => (TM.out.below.cell (p := ⟨b, _, none⟩) hb).trans (hrange j v hv)
          obtain ⟨X, hX⟩ : ∃ X, more[k] = X := ⟨_, rfl⟩
          rw [hX] at hrg okx
          have HRG := Lib.hid hrg
          clear hrange hX hrg okx
          go_upto_region 24 with (first | ((with_reducible refine ld_mid1 rfl 51 _ rfl ?_); refine ⟨b, o + k * 19, X.cells.toArray, _, rfl, HRG.out, act_row.1, rfl, act_row.2, ?_⟩) | ((with_reducible refine st_row1 rfl 51 _ _ rfl ?_); refine ⟨wr.heap.size, _, X.cells.toArray, _, rfl, rfl, heap_alloc_new wr _, act_row.2, rfl, act_one X, ?_⟩))
          obtain ⟨w4, hw4⟩ : ∃ w4, w4 = (wr.alloc (.cells actZ 51)).setRow wr.heap.size X.cells.toArray := ⟨_, rfl⟩
          have hw4' := hw4
          unfold actZ at hw4
          rw [← hw4]
          clear hw4
          have T4 := Lib.hid (show MT w G C h c w4 from hw4' ▸ TM.out.over (bel_row wr _ _ _))
          have HV4 := Lib.hid (show w4.heap[wr.heap.size]? = some (.cells X.cells.toArray 51 (0, 0)) from hw4' ▸ setRow_heap _ _ _ _ _ _ (heap_alloc_new wr _))
          clear hw4'
          obtain ⟨V, hV⟩ : ∃ V, wr.heap.size = V := ⟨_, rfl⟩
          rw [hV] at HV4
          rw [hV]
          clear hV TM HRG
          obtain ⟨v0, v1, v2, v3, -⟩ := act_box HV4.out
          have ZG := Lib.hid (Gp.size T4.out.ok)
          obtain ⟨xa, hxa⟩ : ∃ xa, X.a = xa := ⟨_, rfl⟩
          obtain ⟨kd, hkd⟩ : ∃ kd, X.kind = kd := ⟨_, rfl⟩
          rw [hxa] at v1
          rw [hkd] at v0
          have HXA := Lib.hid hxa
          have HXK := Lib.hid hkd
          clear hxa hkd
          by_cases y1 : xa < 0
          · go_wp2
            go_ret
            exact ⟨rfl, T4.out.below⟩
          by_cases y2 : 3 ≤ xa
          · go_wp2
            go_ret
            exact ⟨rfl, T4.out.below⟩
          have ha : 0 ≤ xa := by omega
          have ha3 : xa < 3 := by omega
          clear y1 y2
          obtain ⟨ia, rfl⟩ := Int.eq_ofNat_of_zero_le ha
          have hia : ia < 3 := by omega
          have NA := Lib.hid (show X.a.toNat = ia from by rw [HXA.out]; rfl)
          have HST := Lib.hid (show moreStep h ep X = if kd = sUp ∨ kd = sDown then (h.setU ia (decide (kd = sUp)), ep) else if kd = sFence then (if 2 ≤ ((h.fence (ep + 1)).mem (ep + 1)).length then (h.fence (ep + 1), ep + 1) else (h, ep)) else (h.sync ep ia, ep) from by
            unfold moreStep; rw [HXK.out, NA.out])
          go_upto_block 4 with fail
          go_cut [11] (fun ve wx => ∃ (h' : Gp) (ep' : Nat), ve = .int .i64 ep' ∧ moreStep h ep X = (h', ep') ∧ MT w G C h' c wx)
          case first =>
            by_cases k1 : kd = sUp
            · have HE := Lib.hid (show moreStep h ep X = (h.setU ia true, ep) from by rw [HST.out, if_pos (.inl k1), decide_eq_true k1])
              have q1 : (kd.toList == [117, 112]) = true := by rw [kd_up, decide_eq_true k1]
              obtain ⟨u0, u1⟩ := gp_up (i := ia) T4.out.hG T4.out.ok (by rw [T4.out.ok.u3]; exact hia)
              have T5 := Lib.hid (T4.out.setU ia true)
              clear k1 HST
              go_wp2
              go_meet
              exact ⟨_, _, rfl, HE.out, T5.out⟩
            by_cases k2 : kd = sDown
            · have HE := Lib.hid (show moreStep h ep X = (h.setU ia false, ep) from by rw [HST.out, if_pos (.inr k2), decide_eq_false k1])
              have q1 : (kd.toList == [117, 112]) = false := by rw [kd_up, decide_eq_false k1]
              have q2 : (kd.toList == [100, 111, 119, 110]) = true := by rw [kd_down, decide_eq_true k2]
              obtain ⟨u0, u1⟩ := gp_up (i := ia) T4.out.hG T4.out.ok (by rw [T4.out.ok.u3]; exact hia)
              have T5 := Lib.hid (T4.out.setU ia false)
              clear k1 k2 HST
              go_wp2
              go_meet
              exact ⟨_, _, rfl, HE.out, T5.out⟩
            have q1 : (kd.toList == [117, 112]) = false := by rw [kd_up, decide_eq_false k1]
            have q2 : (kd.toList == [100, 111, 119, 110]) = false := by rw [kd_down, decide_eq_false k2]
            have HST2 := Lib.hid (HST.out.trans (if_neg (by rintro (h | h) <;> contradiction)))
            clear k1 k2 HST
            by_cases k3 : kd = sFence
            · have q3 : (kd.toList == [102, 101, 110, 99, 101]) = true := by rw [kd_fence, decide_eq_true k3]
              rw [if_pos k3] at HST2
              clear k3
              go_wp2_with ((with_reducible refine ld_row1 rfl 40 _ rfl ?_); refine ⟨G, _, h.arr, _, rfl, T4.out.hG, gp_row.1, rfl, by rw [gp_row.2, ZG.out], ?_⟩)
              refine (gfence_any h _ _ T4.out.ok (by omega)).mono ?_
              rintro e w5 ⟨rfl, b5⟩
              obtain ⟨Y, hY⟩ : ∃ Y, h.fence (ep + 1) = Y := ⟨_, rfl⟩
              have YOK := Lib.hid (show Y.ok from hY ▸ Gp.fence_ok T4.out.ok _)
              rw [hY] at HST2 ⊢
              obtain ⟨B, hB⟩ : ∃ B, decide (2 ≤ (Y.mem (ep + 1)).length) = B := ⟨_, rfl⟩
              rw [hB]
              have HBB := Lib.hid hB
              have ZY := Lib.hid (Gp.size YOK.out)
              have T5 := Lib.hid (T4.out.over b5)
              clear hY hB b5 T4
              have HW6 := Lib.hid (new_z w5)
              have T6 := Lib.hid (show MT w G C h c ((w5.alloc (.cells Try.zeroCells40 40)).setRow w5.heap.size Y.arr) from T5.out.over (bel_row w5 _ _ _))
              clear T5
              cases B
              · have HE := Lib.hid (show moreStep h ep X = (h, ep) from by rw [HST2.out, if_neg (of_decide_eq_false HBB.out)])
                clear HST2
                go_wp2_with ((with_reducible refine st_row1 rfl 40 _ _ rfl ?_); refine ⟨w5.heap.size, _, Y.arr, _, rfl, rfl, HW6.out, by rw [gp_row.2, ZY.out], by rw [ZY.out]; rfl, Gp.one _, ?_⟩)
                go_meet
                exact ⟨_, _, rfl, HE.out, T6.out⟩
              · have HE := Lib.hid (show moreStep h ep X = (Y, ep + 1) from by rw [HST2.out, if_pos (of_decide_eq_true HBB.out)])
                have T7 := Lib.hid (T6.out.put YOK.out)
                clear HST2
                go_wp2_with (first | ((with_reducible refine st_row1 rfl 40 _ _ rfl ?_); refine ⟨w5.heap.size, _, Y.arr, _, rfl, rfl, HW6.out, by rw [gp_row.2, ZY.out], by rw [ZY.out]; rfl, Gp.one _, ?_⟩) | ((with_reducible refine ld_row1 rfl 40 _ rfl ?_); refine ⟨w5.heap.size, _, Y.arr, _, rfl, setRow_heap _ _ _ _ _ _ HW6.out, gp_row.1, rfl, by rw [gp_row.2, ZY.out], ?_⟩) | ((with_reducible refine st_row1 rfl 40 _ _ rfl ?_); refine ⟨G, _, Y.arr, _, rfl, rfl, T6.out.hG, by rw [gp_row.2, ZY.out], by rw [ZG.out, ZY.out], Gp.one _, ?_⟩))
                go_meet
                exact ⟨_, _, by simp, HE.out, T7.out⟩
            have q3 : (kd.toList == [102, 101, 110, 99, 101]) = false := by rw [kd_fence, decide_eq_false k3]
            rw [if_neg k3] at HST2
            clear k3
            go_wp2_with ((with_reducible refine ld_row1 rfl 40 _ rfl ?_); refine ⟨G, _, h.arr, _, rfl, T4.out.hG, gp_row.1, rfl, by rw [gp_row.2, ZG.out], ?_⟩)
            refine (gsync_any h _ ia _ T4.out.ok hia).mono ?_
            rintro e w5 ⟨rfl, b5⟩
            obtain ⟨Y, hY⟩ : ∃ Y, h.sync ep ia = Y := ⟨_, rfl⟩
            have YOK := Lib.hid (show Y.ok from hY ▸ Gp.sync_ok T4.out.ok _ _)
            rw [hY] at HST2 ⊢
            have ZY := Lib.hid (Gp.size YOK.out)
            have T5 := Lib.hid (T4.out.over b5)
            have T6 := Lib.hid (T5.out.put YOK.out)
            clear hY b5 T4
            go_wp2_with ((with_reducible refine st_row1 rfl 40 _ _ rfl ?_); refine ⟨G, _, Y.arr, _, rfl, rfl, T5.out.hG, by rw [gp_row.2, ZY.out], by rw [ZG.out, ZY.out], Gp.one _, ?_⟩)
            go_meet
            exact ⟨_, _, rfl, HST2.out, T6.out⟩
          case rest =>
            obtain ⟨h', ep', rfl, hst, mt⟩ := hcut
            have T6 := Lib.hid mt
            have HMS := Lib.hid hst
            have ME := Lib.hid (moreStep_ep h ep X)
            have ZH := Lib.hid (Gp.size mt.ok)
            have hep : ep ≤ ep' ∧ ep' ≤ ep + 1 := by have := ME.out; rw [HMS.out] at this; exact this
            clear hst mt ME HST T4 HV4 v0 v1 v2 v3
            have HXA3 := Lib.hid (show X.a.toNat < 3 from by rw [NA.out]; exact hia)
            have MI2 := Lib.hid (show MInv c kk h' from by have := MI.out.step TOK.out CZ.out hkk ep X HXA3.out; rwa [HMS.out] at this)
            have HB2 := Lib.hid (Eq.refl (decide (2 ≤ (h'.mem ep').length)))
            go_wp2_with ((with_reducible refine ld_row1 rfl 40 _ rfl ?_); refine ⟨G, _, h'.arr, _, rfl, T6.out.hG, gp_row.1, rfl, by rw [gp_row.2, ZH.out], ?_⟩)
            refine (gread_any h' _ kk _ T6.out.ok hkk).mono ?_
            rintro e w7 ⟨rfl, b7⟩
            obtain ⟨Y, hY⟩ : ∃ Y, h'.read ep' kk = Y := ⟨_, rfl⟩
            obtain ⟨d, hd⟩ : ∃ d, h'.readC ep' kk = d := ⟨_, rfl⟩
            obtain ⟨B, hB⟩ : ∃ B, decide (2 ≤ (h'.mem ep').length) = B := ⟨_, rfl⟩
            have YOK := Lib.hid (show Y.ok from hY ▸ Gp.read_ok T6.out.ok _ _)
            rw [hY, hd, hB]
            have HYY := Lib.hid hY
            have HDD := Lib.hid hd
            have HBB := Lib.hid hB
            have ZY := Lib.hid (Gp.size YOK.out)
            have T7 := Lib.hid (T6.out.over b7)
            have NG := Lib.hid (new_gc w7 Y d)
            have T8 := Lib.hid (T7.out.over NG.out.2.2.2.2)
            clear hY hd hB b7 T6 HB2
            go_upto_region 37 with (first | ((with_reducible refine st_row1 rfl 40 _ _ rfl ?_); refine ⟨w7.heap.size, _, Y.arr, _, rfl, rfl, NG.out.1, by rw [gp_row.2, ZY.out], by rw [ZY.out]; rfl, Gp.one _, ?_⟩) | ((with_reducible refine st_row1 rfl 23 _ _ rfl ?_); refine ⟨w7.heap.size + 1, _, d.cells, _, rfl, rfl, NG.out.2.1, cell_row.2, rfl, cel_one _, ?_⟩))
            obtain ⟨w8, hw8⟩ : ∃ w8, w8 = (((w7.alloc (.cells Try.zeroCells40 40)).alloc (.cells Cel.zero.cells 23)).setRow w7.heap.size Y.arr).setRow (w7.heap.size + 1) d.cells := ⟨_, rfl⟩
            have hw8' := hw8
            rw [cel_zero_arr] at hw8
            rw [← hw8]
            clear hw8
            have HY8 := Lib.hid (show w8.heap[w7.heap.size]? = some (.cells Y.arr 40 (0, 0)) from hw8' ▸ NG.out.2.2.1)
            have HD8 := Lib.hid (show w8.heap[w7.heap.size + 1]? = some (.cells d.cells 23 (0, 0)) from hw8' ▸ NG.out.2.2.2.1)
            rw [← hw8'] at T8
            clear hw8' NG T7
            obtain ⟨K, hK⟩ : ∃ K, w7.heap.size = K := ⟨_, rfl⟩
            rw [hK] at HY8 HD8
            rw [hK]
            clear hK
            cases B
            · go_wp2
              go_roundw
              case rel => exact ⟨k + 1, h', ep', by omega, by go_num, rfl, by omega, by omega, MI2.out, T8.out⟩
              case measure => simp [intOf]; omega
            · obtain rfl : d = c := by
                have hm := of_decide_eq_true HBB.out
                rw [← HDD.out]
                exact (if_pos hm).trans (MI2.out.best CZ.out hm)
              have NE := fun w => (neq_cell d d w).trans (show _ = Result.ok (.bool false) w from by simp)
              have hgu := eqg_cell
              go_wp2_with (first | ((with_reducible refine ld_row_g1 23 _ rfl ?_); first | refine ⟨by rfl, K + 1, _, d.cells, _, rfl, HD8.out, cell_row.1, rfl, cell_row.2, ?_⟩ | refine ⟨by rfl, C, _, d.cells, _, rfl, T8.out.hC, cell_row.1, rfl, cell_row.2, ?_⟩) | ((with_reducible refine bin_g1 .neq 23 _ _ _ rfl ?_); refine ⟨by rfl, d.cells, d.cells, .bool false, rfl, rfl, hgu, NE, ?_⟩))
              go_roundw
              case rel => exact ⟨k + 1, h', ep', by omega, by go_num, rfl, by omega, by omega, MI2.out, T8.out⟩
              case measure => simp [intOf]; omega

        · go_wp2
          go_ret
          exact ⟨rfl, TM.out.below⟩
end Go.Proofs.Ytclhmpknkinjcaa
