/-
  TopFence: the walk.
-/
import Derived.Test.YtclhmpknkinjcaaGLed
import Derived.Test.YtclhmpknkinjcaaOpenM
namespace Go.Proofs.Ytclhmpknkinjcaa
open Go.RowKit Go.Sort

theorem and7 (x : Int) : ∃ r : Nat, bits .and .i64 x 7 = r ∧ r ≤ 7 := by
  refine ⟨(BitVec.ofInt 64 x &&& BitVec.ofInt 64 7).toNat, ?_, ?_⟩
  · show IntKind.i64.wrap ((BitVec.ofInt 64 x &&& BitVec.ofInt 64 7).toNat : Int) = _
    have : (BitVec.ofInt 64 x &&& BitVec.ofInt 64 7).toNat ≤ 7 := by
      rw [BitVec.toNat_and]; exact Nat.and_le_right
    rw [IntWalk.i64_in _ (by omega)]
  · rw [BitVec.toNat_and]; exact Nat.and_le_right
theorem grouped_closed : decide (2 ≤ ((Gp.start.fence 2).mem 2).length) = true ∧ ((Gp.start.fence 2).mem 2).length = 3 := by decide +kernel

set_option maxRecDepth 100000 in
set_option maxHeartbeats 1000000 in
theorem grouped_any (w : World) : Calls Try.prog 69 #[] w fun e w' => e = .returned (.bool true) ∧ Below w.heap.size w w' := by
  go_enter Try.func69, Try.ntmps69
  go_wp2_with fail
  refine (gnew_any _).mono ?_
  rintro e w2 ⟨rfl, b2⟩
  obtain ⟨S, hS⟩ : ∃ S, Gp.start = S := ⟨_, rfl⟩
  rw [hS]
  have SOK := Lib.hid (show S.ok from hS ▸ startTo_ok 3 (by omega))
  have GC := Lib.hid (show decide (2 ≤ ((S.fence 2).mem 2).length) = true ∧ ((S.fence 2).mem 2).length = 3 from hS ▸ grouped_closed)
  have ZS := Lib.hid (Gp.size SOK.out)
  have B2 := Lib.hid b2
  clear hS b2
  have HW := Lib.hid (show (w2.alloc (.cells Try.zeroCells40 40)).heap[w2.heap.size]? = some (.cells Gp.zero.arr 40 (0, 0)) from gp_zero_arr ▸ heap_alloc_new w2 _)
  go_upto_region 2 with ((with_reducible refine st_row1 rfl 40 _ _ rfl ?_); refine ⟨w2.heap.size, _, S.arr, Gp.zero.arr, rfl, rfl, HW.out, by rw [gp_row.2, ZS.out], by rw [ZS.out]; rfl, Gp.one _, ?_⟩)
  obtain ⟨w3, hw3⟩ : ∃ w3, w3 = (w2.alloc (.cells Try.zeroCells40 40)).setRow w2.heap.size S.arr := ⟨_, rfl⟩
  rw [← hw3]
  have H3 := Lib.hid (show w3.heap[w2.heap.size]? = some (.cells S.arr 40 (0, 0)) from hw3 ▸ setRow_heap _ _ _ _ _ _ HW.out)
  have B3 := Lib.hid (show Below w.heap.size w w3 from B2.out.trans ((hw3 ▸ bel_row w2 _ _ _ : Below w2.heap.size w2 w3).mono B2.out.size))
  have hlo : w.heap.size ≤ w2.heap.size := B2.out.size
  clear hw3 HW B2
  obtain ⟨G, hG⟩ : ∃ G, w2.heap.size = G := ⟨_, rfl⟩
  rw [hG] at H3 hlo
  rw [hG]
  clear hG
  go_wp2_with ((with_reducible refine ld_row1 rfl 40 _ rfl ?_); refine ⟨G, _, S.arr, _, rfl, H3.out, gp_row.1, rfl, by rw [gp_row.2, ZS.out], ?_⟩)
  refine (gfence_any S 2 _ SOK.out (by omega)).mono ?_
  rintro e w5 ⟨rfl, b5⟩
  rw [GC.out.1]
  obtain ⟨Y, hY⟩ : ∃ Y, S.fence 2 = Y := ⟨_, rfl⟩
  have YOK := Lib.hid (show Y.ok from hY ▸ Gp.fence_ok SOK.out _)
  rw [hY] at GC ⊢
  have ZY := Lib.hid (Gp.size YOK.out)
  have H5 := Lib.hid ((b5.block _ (Array.getElem?_eq_some_iff.1 H3.out).1).trans H3.out)
  have B5 := Lib.hid (B3.out.trans (b5.mono B3.out.size))
  have H6 := Lib.hid (setRow_heap _ _ _ Y.arr _ _ H5.out)
  have B6 := Lib.hid (B5.out.trans (((Keeps.refl (· = G) w5).setRow (g := G) rfl Y.arr).below B5.out.size (fun m hm => by omega)))
  clear b5 hY
  go_wp2_with (first | ((with_reducible refine st_row1 rfl 40 _ _ rfl ?_); refine ⟨G, _, Y.arr, _, rfl, rfl, H5.out, by rw [gp_row.2, ZY.out], by rw [ZS.out, ZY.out], Gp.one _, ?_⟩) | (refine wpList_load_row_g (by rfl) 40 _ rfl G rfl 40 Y.arr (0, 0) _ H6.out gp_row.1 rfl (by rw [gp_row.2, ZY.out]) ?_))
  refine (members_any Y 2 _ YOK.out).mono ?_
  rintro e w7 ⟨a7, c7, rfl, -, b7⟩
  rw [GC.out.2]
  have B7 := Lib.hid (B6.out.trans (b7.mono B6.out.size))
  clear b7
  go_wp2
  go_ret
  exact ⟨rfl, B7.out⟩

theorem new_g (w : World) (S : Gp) : Below w.heap.size w ((w.alloc (.cells Try.zeroCells40 40)).setRow w.heap.size S.arr) ∧ ((w.alloc (.cells Try.zeroCells40 40)).setRow w.heap.size S.arr).heap[w.heap.size]? = some (.cells S.arr 40 (0, 0)) :=
  ⟨bel_row w _ _ _, setRow_heap _ _ _ _ _ _ (heap_alloc_new w _)⟩
theorem new_z (w : World) : (w.alloc (.cells Try.zeroCells40 40)).heap[w.heap.size]? = some (.cells Gp.zero.arr 40 (0, 0)) := gp_zero_arr ▸ heap_alloc_new w _
/-- what lies there lies there behind a call -/
theorem row_over {w w' : World} {k : Nat} {o : Obj} (h : w.heap[k]? = some o) (b : Below w.heap.size w w') : w'.heap[k]? = some o := (b.block _ (Array.getElem?_eq_some_iff.1 h).1).trans h

theorem msg_row : Try.prog.underlying 66 = some (.struct (Try.prog.fieldsOf 66)) ∧ (Try.prog.info? 66).map (·.size) = some 6 := by constructor <;> kernel_rfl
section
variable {P : Program} {ops : Array Oper} {rest : List Oper} {o : Oper} {a : Act} {C : World → Prop} {Q : Act → Prop}
theorem qld_mid1 (ty : TypeId) (x : Operand) (ho : o.op = .load ty x)
    (h : Region.wanted o (yielded ops a.tmps) = true ∧ ∃ (b off : Nat) (cs : Array Value) (d : TypeDesc), a.eval x = .pointer (some ⟨b, off, none⟩) ∧ (∀ w, C w → w.rangeAt b off cs.toList) ∧ P.underlying ty = some d ∧ d.isRow = true ∧ (P.info? ty).map (·.size) = some cs.size ∧ wpQuiet P ops C Q rest (a.put o.dst (.agg cs))) : wpQuiet P ops C Q (o :: rest) a := by
  obtain ⟨hw, b, off, cs, d, h1, h2, h3, h4, h5, h6⟩ := h
  unfold wpQuiet
  rw [if_pos hw]
  refine ⟨.agg cs, fun w hC => ?_, h6⟩
  have := run_loadVar_mid (P := P) w b off ty cs.toList d (h2 w hC) h3 h4 (by simpa using h5)
  unfold Oper.quietAt execOp
  simp only [ho, h1, Instr.loadAt, Instr.sureAddr, Sem.run_bind, Sem.run_pure, Result.andThen_ok, this]
  exact ⟨rfl, by simp⟩
theorem qneq1 (op : BinOp) (t u : TypeId) (x y : Operand) (ho : o.op = .binOp op t x y u)
    (h : Region.wanted o (yielded ops a.tmps) = true ∧ ∃ (xs ys : Array Value) (v : Value), a.eval x = .agg xs ∧ a.eval y = .agg ys ∧ P.eqGuardType P.depth t = false ∧ (∀ w, (binOp op t (.agg xs) (.agg ys)).run P w = .ok v w) ∧ wpQuiet P ops C Q rest (a.put o.dst v)) : wpQuiet P ops C Q (o :: rest) a := by
  obtain ⟨hw, xs, ys, v, h1, h2, h3, h4, h5⟩ := h
  exact wpQuiet_bin hw op t u x y ho xs ys h1 h2 h3 v h4 h5
end
/-- old words change nothing -/
theorem fence_law (g : Gp) (hg : g.ok) (ep : Nat) (r : Nat) (i tt k : Nat) (c : Cel) (hi : i < 3) (hc : c.e = (ep : Int) - r) :
    eqRp ((g.deliver tt k c).r.getD i Rp.zero) (g.r.getD i Rp.zero) = false → i = tt ∧ (g.r.getD i Rp.zero).floor ≤ ep := by
  intro h
  unfold Gp.deliver at h
  split at h
  · by_cases hit : i = tt
    · subst hit
      refine ⟨rfl, ?_⟩
      have hl : i < g.r.length := by rw [hg.r3]; exact hi
      have e : (g.setR i ((g.r.getD i Rp.zero).admitC k c)).r.getD i Rp.zero = (g.r.getD i Rp.zero).admitC k c := by
        unfold Gp.setR
        simp [hl]
      rw [e] at h
      by_cases hf : c.e = (g.r.getD i Rp.zero).floor
      · omega
      · rw [Rp.admit_no hf, eqRp_self] at h
        cases h
    · have e : (g.setR tt ((g.r.getD tt Rp.zero).admitC k c)).r.getD i Rp.zero = g.r.getD i Rp.zero := by
        unfold Gp.setR
        simp [List.getD_eq_getElem?_getD, List.getElem?_set_ne (Ne.symm hit)]
      rw [e, eqRp_self] at h
      cases h
  · rw [eqRp_self] at h
    cases h

set_option maxRecDepth 100000 in
set_option maxHeartbeats 1000000 in
theorem topfence_walk (l : List Ac) (a : Option Addr) (cap : Nat) (m : Ms) (back : Int) (w : World) (hl : l.length ≤ maxLen) (hr : ActsAt w a l) :
    Calls Try.prog 9 #[.slice a l.length cap, m.v, .int .i64 back] w fun e w' => e = .returned (.bool true) ∧ Below w.heap.size w w' := by
  obtain ⟨mt, mat, ⟨ce, cn, cd⟩, tag⟩ := m
  have HR := Lib.hid hr
  clear hr
  dsimp only [Ms.v]
  go_enter Try.func9, Try.ntmps9
  go_upto_region 1 with fail
  obtain ⟨w1, hw1⟩ : ∃ w1, w1 = w.alloc (.cells (msgC mt mat ⟨ce, cn, cd⟩ tag) 66) := ⟨_, rfl⟩
  have hw1' := hw1
  unfold msgC at hw1
  dsimp only at hw1
  rw [← hw1]
  clear hw1
  have B1 := Lib.hid (show Below w.heap.size w w1 from hw1' ▸ bal w _)
  have M1 := Lib.hid (show w1.heap[w.heap.size]? = some (.cells (msgC mt mat ⟨ce, cn, cd⟩ tag) 66 (0, 0)) from hw1' ▸ heap_alloc_new w _)
  clear hw1'
  go_wp2_with fail
  refine (grouped_any _).mono ?_
  rintro e w2 ⟨rfl, b2⟩
  have B2 := Lib.hid (B1.out.trans (b2.mono B1.out.size))
  have M2 := Lib.hid (row_over M1.out b2)
  clear b2 B1 M1
  go_wp2_with fail
  refine (lightacts_any l a cap 60 _ hl (HR.out.below (B2.out.mono (Nat.le_refl _)))).mono ?_
  rintro e w3 ⟨L, rfl, hL, b3⟩
  have B3 := Lib.hid (B2.out.trans (b3.mono B2.out.size))
  have M3 := Lib.hid (row_over M2.out b3)
  have HL := Lib.hid hL
  clear b3 B2 M2 hL
  cases L
  · go_wp2
    go_ret
    exact ⟨rfl, B3.out⟩
  have hl60 : l.length ≤ 60 := (HL.out rfl).1
  go_wp2_with fail
  refine (led_any l a cap _ (by omega) (HR.out.below B3.out)).mono ?_
  rintro e w4 ⟨g, ep, ok, rfl, hg, hok, b4⟩
  have GOK := Lib.hid hg
  have HOK := Lib.hid hok
  have ZG := Lib.hid (Gp.size hg)
  have B4 := Lib.hid (B3.out.trans (b4.mono B3.out.size))
  have M4 := Lib.hid (row_over M3.out b4)
  have Z4 := Lib.hid (new_z w4)
  clear b4 B3 M3 hg hok HL
  go_upto_region 7 with ((with_reducible refine st_row1 rfl 40 _ _ rfl ?_); refine ⟨w4.heap.size, _, g.arr, _, rfl, rfl, Z4.out, by rw [gp_row.2, ZG.out], by rw [ZG.out]; rfl, Gp.one _, ?_⟩)
  obtain ⟨w5, hw5⟩ : ∃ w5, w5 = (w4.alloc (.cells Try.zeroCells40 40)).setRow w4.heap.size g.arr := ⟨_, rfl⟩
  rw [← hw5]
  have N5 := Lib.hid (show Below w4.heap.size w4 w5 ∧ w5.heap[w4.heap.size]? = some (.cells g.arr 40 (0, 0)) from hw5 ▸ new_g w4 g)
  have B5 := Lib.hid (B4.out.trans (N5.out.1.mono B4.out.size))
  have M5 := Lib.hid (row_over M4.out N5.out.1)
  have hN5 : w.heap.size < w4.heap.size := (Array.getElem?_eq_some_iff.1 M4.out).1
  clear hw5 Z4 B4 M4
  obtain ⟨G, hG⟩ : ∃ G, w4.heap.size = G := ⟨_, rfl⟩
  rw [hG] at N5 hN5
  rw [hG]
  clear hG
  have G5 := Lib.hid N5.out.2
  clear N5
  cases ok
  · go_wp2
    go_ret
    exact ⟨rfl, B5.out⟩
  obtain ⟨m0, m1, m2, m3, m4⟩ := msg_box M5.out
  obtain ⟨-, -, he1, he2⟩ := HOK.out rfl
  clear HOK
  by_cases x1 : mt < 0
  · go_wp2
    go_ret
    exact ⟨rfl, B5.out⟩
  by_cases x2 : 3 ≤ mt
  · go_wp2
    go_ret
    exact ⟨rfl, B5.out⟩
  by_cases x3 : mat < 0
  · go_wp2
    go_ret
    exact ⟨rfl, B5.out⟩
  by_cases x4 : 7 < mat
  · go_wp2
    go_ret
    exact ⟨rfl, B5.out⟩
  obtain ⟨tt, rfl⟩ := Int.eq_ofNat_of_zero_le (show 0 ≤ mt by omega)
  obtain ⟨kk, rfl⟩ := Int.eq_ofNat_of_zero_le (show 0 ≤ mat by omega)
  go_wp2_with ((with_reducible refine ld_row1 rfl 40 _ rfl ?_); refine ⟨G, _, g.arr, _, rfl, G5.out, gp_row.1, rfl, by rw [gp_row.2, ZG.out], ?_⟩)
  refine (gfence_any g _ _ GOK.out (by omega)).mono ?_
  rintro e w6 ⟨rfl, b6⟩
  obtain ⟨Y, hY⟩ : ∃ Y, g.fence (ep + 1) = Y := ⟨_, rfl⟩
  have YOK := Lib.hid (show Y.ok from hY ▸ Gp.fence_ok GOK.out _)
  rw [hY]
  obtain ⟨B, hB⟩ : ∃ B, decide (2 ≤ (Y.mem (ep + 1)).length) = B := ⟨_, rfl⟩
  rw [hB]
  have ZY := Lib.hid (Gp.size YOK.out)
  have B6 := Lib.hid (B5.out.trans (b6.mono B5.out.size))
  have M6 := Lib.hid (row_over M5.out b6)
  have Z6 := Lib.hid (new_z w6)
  clear b6 B5 M5 G5 hB hY m0 m1 m2 m3 m4
  go_upto_region 10 with ((with_reducible refine st_row1 rfl 40 _ _ rfl ?_); refine ⟨w6.heap.size, _, Y.arr, _, rfl, rfl, Z6.out, by rw [gp_row.2, ZY.out], by rw [ZY.out]; rfl, Gp.one _, ?_⟩)
  obtain ⟨w7, hw7⟩ : ∃ w7, w7 = (w6.alloc (.cells Try.zeroCells40 40)).setRow w6.heap.size Y.arr := ⟨_, rfl⟩
  rw [← hw7]
  have N7 := Lib.hid (show Below w6.heap.size w6 w7 ∧ w7.heap[w6.heap.size]? = some (.cells Y.arr 40 (0, 0)) from hw7 ▸ new_g w6 Y)
  have B7 := Lib.hid (B6.out.trans (N7.out.1.mono B6.out.size))
  have M7 := Lib.hid (row_over M6.out N7.out.1)
  have hN7 : w.heap.size < w6.heap.size := (Array.getElem?_eq_some_iff.1 M6.out).1
  clear hw7 Z6 B6 M6
  obtain ⟨N, hN⟩ : ∃ N, w6.heap.size = N := ⟨_, rfl⟩
  rw [hN] at N7 hN7
  rw [hN]
  clear hN
  have Y7 := Lib.hid N7.out.2
  clear N7
  cases B
  · go_wp2
    go_ret
    exact ⟨rfl, B7.out⟩
  obtain ⟨r, hr, hr7⟩ := and7 back
  have f2 : w7.cell? ⟨w.heap.size, 2, none⟩ = some (.int .i64 ce) ∧ w7.frozen? ⟨w.heap.size, 2, none⟩ = false := by
    have := M7.out
    unfold msgC at this
    simp [World.cell?, World.frozen?, this]
  obtain ⟨f2, f2'⟩ := f2
  have q1 : IntKind.i64.wrap ((ep : Int) - (r : Int)) = (ep : Int) - (r : Int) := IntWalk.i64_in _ (by omega)
  go_upto_region 13 with fail
  obtain ⟨cc, hcc⟩ : ∃ cc : Cel, cc = ⟨(ep : Int) - r, cn, cd⟩ := ⟨_, rfl⟩
  have HCE := Lib.hid (show cc.e = (ep : Int) - r from by rw [hcc])
  obtain ⟨w8, hw8⟩ : ∃ w8, w8 = w7.setCell ⟨w.heap.size, 2, none⟩ (.int .i64 ((ep : Int) - r)) := ⟨_, rfl⟩
  rw [← hw8]
  have k8 : Keeps (· = w.heap.size) w7 w8 := hw8 ▸ (Keeps.refl (· = w.heap.size) w7).setCell rfl _
  have B8 := Lib.hid (B7.out.trans (k8.below B7.out.size (fun m hm => by omega)))
  have M8 := Lib.hid (show w8.heap[w.heap.size]? = some (.cells (msgC tt kk cc tag) 66 (0, 0)) from by
    rw [hw8, block_setCell M7.out, hcc]; rfl)
  have Y8 := Lib.hid ((k8.block N (by omega) (Array.getElem?_eq_some_iff.1 Y7.out).1).trans Y7.out)
  clear hw8 k8 hcc hr q1 f2 f2' B7 M7 Y7
  go_wp2_with (first | ((with_reducible refine ld_row1 rfl 40 _ rfl ?_); refine ⟨N, _, Y.arr, _, rfl, Y8.out, gp_row.1, rfl, by rw [gp_row.2, ZY.out], ?_⟩) | ((with_reducible refine ld_row1 rfl 66 _ rfl ?_); refine ⟨w.heap.size, _, msgC tt kk cc tag, _, rfl, M8.out, msg_row.1, rfl, msg_row.2, ?_⟩))
  refine (gdeliver_any Y tt kk cc tag _ YOK.out (by omega) (by omega)).mono ?_
  rintro e w9 ⟨rfl, b9⟩
  obtain ⟨A, hA⟩ : ∃ A, Y.deliver tt kk cc = A := ⟨_, rfl⟩
  have AOK := Lib.hid (show A.ok from hA ▸ Gp.deliver_ok YOK.out (by omega) cc)
  have HLAW := Lib.hid (fun (i : Nat) (hi : i < 3) => hA ▸ fence_law Y YOK.out ep r i tt kk cc hi HCE.out)
  rw [hA]
  have ZA := Lib.hid (Gp.size AOK.out)
  have B9 := Lib.hid (B8.out.trans (b9.mono B8.out.size))
  have M9 := Lib.hid (row_over M8.out b9)
  have Y9 := Lib.hid (row_over Y8.out b9)
  have Z9 := Lib.hid (new_z w9)
  clear b9 B8 M8 Y8 hA
  go_upto_region 14 with ((with_reducible refine st_row1 rfl 40 _ _ rfl ?_); refine ⟨w9.heap.size, _, A.arr, _, rfl, rfl, Z9.out, by rw [gp_row.2, ZA.out], by rw [ZA.out]; rfl, Gp.one _, ?_⟩)
  obtain ⟨w10, hw10⟩ : ∃ w10, w10 = (w9.alloc (.cells Try.zeroCells40 40)).setRow w9.heap.size A.arr := ⟨_, rfl⟩
  rw [← hw10]
  have N10 := Lib.hid (show Below w9.heap.size w9 w10 ∧ w10.heap[w9.heap.size]? = some (.cells A.arr 40 (0, 0)) from hw10 ▸ new_g w9 A)
  have B10 := Lib.hid (B9.out.trans (N10.out.1.mono B9.out.size))
  have M10 := Lib.hid (row_over M9.out N10.out.1)
  have Y10 := Lib.hid (row_over Y9.out N10.out.1)
  have A10 := Lib.hid N10.out.2
  clear hw10 Z9 B9 M9 Y9 N10
  obtain ⟨K, hK⟩ : ∃ K, w9.heap.size = K := ⟨_, rfl⟩
  rw [hK] at A10
  rw [hK]
  clear hK
  go_wp2
  go_loopw [13] (fun i wr => ∃ k : Nat, k ≤ 3 ∧ i = .int .i64 k ∧ Below w10.heap.size w10 wr) (fun i _ => 3 - (intOf i).toNat)
  case atStart => exact ⟨0, by omega, rfl, Below.refl _ _⟩
  case round =>
    obtain ⟨k, hk, rfl, hb⟩ := hrel
    have HB := Lib.hid hb
    have Mr := Lib.hid (row_over M10.out hb)
    have Yr := Lib.hid (row_over Y10.out hb)
    have Ar := Lib.hid (row_over A10.out hb)
    clear hb
    by_cases hk3 : k < 3
    · have hki : (k : Int) < 3 := by omega
      have hyr : k < Y.r.length := by rw [YOK.out.r3]; exact hk3
      have har : k < A.r.length := by rw [AOK.out.r3]; exact hk3
      obtain ⟨p, hp⟩ : ∃ p, A.r[k] = p := ⟨_, rfl⟩
      obtain ⟨q, hq⟩ : ∃ q, Y.r[k] = q := ⟨_, rfl⟩
      have P8 := Lib.hid (show p.cells.length = 8 from hp ▸ AOK.out.c8 _ (List.getElem_mem har))
      have Q8 := Lib.hid (show q.cells.length = 8 from hq ▸ YOK.out.c8 _ (List.getElem_mem hyr))
      have LAW := Lib.hid (show eqRp p q = false → k = tt ∧ q.floor ≤ ep from by
        have := HLAW.out k hk3
        simpa [har, hyr, hp, hq] using this)
      obtain ⟨E, hE⟩ : ∃ E, eqRp p q = E := ⟨_, rfl⟩
      have NEQ := Lib.hid (fun w => (neq_rp p q P8.out Q8.out w).trans (by rw [hE]))
      have HE := Lib.hid hE
      have RP := Lib.hid (fun (w' : World) (h : w'.heap[K]? = some (.cells A.arr 40 (0, 0))) => show w'.rangeAt K (k * 25) p.arr.toList from hp ▸ (gp_range h AOK.out har).1)
      have RQ := Lib.hid (fun (w' : World) (h : w'.heap[N]? = some (.cells Y.arr 40 (0, 0))) => show w'.rangeAt N (k * 25) q.arr.toList from hq ▸ (gp_range h YOK.out hyr).1)
      have FQ := Lib.hid (show wr.cell? ⟨N, k * 25, none⟩ = some (.int .i64 q.floor) from hq ▸ (gp_floor Yr.out YOK.out hyr).1)
      have hv0 : w.heap.size < wr.heap.size := (Array.getElem?_eq_some_iff.1 Mr.out).1
      have hv1 : N < wr.heap.size := (Array.getElem?_eq_some_iff.1 Yr.out).1
      have hv2 : K < wr.heap.size := (Array.getElem?_eq_some_iff.1 Ar.out).1
      have hqq := bregrown (Below.refl wr.heap.size wr)
      have QA := Lib.hid (fun d os => (show World.rangeAt _ K (k * 25) p.arr.toList from RP.out _ (((below_regrown wr d os).block _ hv2).trans Ar.out)))
      have QY := Lib.hid (fun d os => (show World.rangeAt _ N (k * 25) q.arr.toList from RQ.out _ (((below_regrown wr d os).block _ hv1).trans Yr.out)))
      have ZP := Lib.hid (Rp.size P8.out)
      have ZQ := Lib.hid (Rp.size Q8.out)
      have hgu := eqg_rp
      obtain ⟨m0, m1, m2, m3, m4⟩ := msg_box Mr.out
      have f0 := FQ.out
      clear hp hq hyr har hE
      go_upto_region 17 with fail
      go_cut [96] (fun v wx => v = .bool false ∧ Below wr.heap.size wr wx)
      case first =>
        cases E
        · obtain ⟨hkt, hfl⟩ := LAW.out HE.out
          have hfl' : q.floor ≤ (ep : Int) := hfl
          have t1 : ((k : Int) != (tt : Int)) = false := by simp [hkt]
          have t2 : decide ((ep : Int) < q.floor) = false := by simp; omega
          clear hkt hfl
          refine wp_region_quiet_below (by kernel_rfl) (by kernel_rfl) ?_
          repeat (first | ((with_reducible refine qld_mid1 26 _ rfl ?_); (first | refine ⟨by rfl, K, k * 25, p.arr, _, rfl, by (rintro w' ⟨⟨d, os⟩, rfl⟩; exact QA.out d os), rp_row.1, rfl, by rw [rp_row.2.1, ZP.out], ?_⟩ | refine ⟨by rfl, N, k * 25, q.arr, _, rfl, by (rintro w' ⟨⟨d, os⟩, rfl⟩; exact QY.out d os), rp_row.1, rfl, by rw [rp_row.2.1, ZQ.out], ?_⟩); simp only [Act.put, List.setIfInBounds_toArray, List.set_cons_zero, List.set_cons_succ]) | ((with_reducible refine qneq1 .neq 26 _ _ _ rfl ?_); refine ⟨by rfl, p.arr, q.arr, .bool true, rfl, rfl, hgu, NEQ.out, ?_⟩; simp only [Act.put, List.setIfInBounds_toArray, List.set_cons_zero, List.set_cons_succ]) | go_big_quiet_step (fail))
          refine wpQuiet_nil ?_
          rintro w' ⟨⟨dq, osq⟩, rfl⟩
          go_wp2_with fail
          go_meet
          exact ⟨rfl, below_regrown _ dq osq⟩
        · clear f0 m0 m1 m2 m3 m4
          refine wp_region_quiet_below (by kernel_rfl) (by kernel_rfl) ?_
          repeat (first | ((with_reducible refine qld_mid1 26 _ rfl ?_); (first | refine ⟨by rfl, K, k * 25, p.arr, _, rfl, by (rintro w' ⟨⟨d, os⟩, rfl⟩; exact QA.out d os), rp_row.1, rfl, by rw [rp_row.2.1, ZP.out], ?_⟩ | refine ⟨by rfl, N, k * 25, q.arr, _, rfl, by (rintro w' ⟨⟨d, os⟩, rfl⟩; exact QY.out d os), rp_row.1, rfl, by rw [rp_row.2.1, ZQ.out], ?_⟩); simp only [Act.put, List.setIfInBounds_toArray, List.set_cons_zero, List.set_cons_succ]) | ((with_reducible refine qneq1 .neq 26 _ _ _ rfl ?_); refine ⟨by rfl, p.arr, q.arr, .bool false, rfl, rfl, hgu, NEQ.out, ?_⟩; simp only [Act.put, List.setIfInBounds_toArray, List.set_cons_zero, List.set_cons_succ]) | go_big_quiet_step (fail))
          refine wpQuiet_nil ?_
          rintro w' ⟨⟨dq, osq⟩, rfl⟩
          go_wp2_with fail
          go_meet
          exact ⟨rfl, below_regrown _ dq osq⟩
      case rest =>
        obtain ⟨wo, rfl⟩ : ∃ wo : World, wo = wr := ⟨_, rfl⟩
        obtain ⟨rfl, b4⟩ := hcut
        have HB4 := Lib.hid (HB.out.trans (b4.mono HB.out.size))
        clear b4 f0 m0 m1 m2 m3 m4
        go_wp2
        go_roundw
        case rel => exact ⟨k + 1, by omega, by go_num, HB4.out⟩
        case measure => simp [intOf]; omega
    · go_wp2
      go_ret
      exact ⟨rfl, B10.out.trans (HB.out.mono B10.out.size)⟩
end Go.Proofs.Ytclhmpknkinjcaa
