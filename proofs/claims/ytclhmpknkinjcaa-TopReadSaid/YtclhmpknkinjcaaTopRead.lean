/-
  TopRead: the walk.
-/
import Derived.Test.YtclhmpknkinjcaaTopMost
import Derived.Test.YtclhmpknkinjcaaGPlain2
import Derived.Deep.CutBlock
import Derived.Deep.DeepCutAuto
namespace Go.Proofs.Ytclhmpknkinjcaa
open Go.RowKit Go.Sort
set_option maxRecDepth 100000 in
set_option maxHeartbeats 1000000 in
theorem topread_walk (l more : List Ac) (a a2 : Option Addr) (cap cap2 : Nat) (at' : Int) (w : World) (hl : l.length ≤ maxLen) (hr : ActsAt w a l) (hl2 : more.length ≤ maxLen) (hr2 : ActsAt w a2 more) :
    Calls Try.prog 11 #[.slice a l.length cap, .slice a2 more.length cap2, .int .i64 at'] w fun e w' => e = .returned (.bool true) ∧ Below w.heap.size w w' := by
  have HR := Lib.hid hr
  have HR2 := Lib.hid hr2
  clear hr hr2
  go_enter Try.func11, Try.ntmps11
  go_wp2_with fail
  refine (grouped_any _).mono ?_
  rintro e w2 ⟨rfl, b2⟩
  have B2 := Lib.hid b2
  clear b2
  go_wp2_with fail
  refine (lightacts_any l a cap 40 _ hl (HR.out.below B2.out)).mono ?_
  rintro e w3 ⟨L, rfl, hL, b3⟩
  have B3 := Lib.hid (B2.out.trans (b3.mono B2.out.size))
  have HL := Lib.hid hL
  clear b3 B2 hL
  cases L
  · go_wp2
    go_ret
    exact ⟨rfl, B3.out⟩
  have hl40 : l.length ≤ 40 := (HL.out rfl).1
  clear HL
  go_wp2_with fail
  refine (lightacts_any more a2 cap2 40 _ hl2 (HR2.out.below B3.out)).mono ?_
  rintro e w3' ⟨L, rfl, hL, b3⟩
  have B3' := Lib.hid (B3.out.trans (b3.mono B3.out.size))
  have HL := Lib.hid hL
  clear b3 hL B3
  cases L
  · go_wp2
    go_ret
    exact ⟨rfl, B3'.out⟩
  have hm40 : more.length ≤ 40 := (HL.out rfl).1
  clear HL
  by_cases z1 : at' < 0
  · go_wp2
    go_ret
    exact ⟨rfl, B3'.out⟩
  by_cases z2 : 7 < at'
  · go_wp2
    go_ret
    exact ⟨rfl, B3'.out⟩
  obtain ⟨kk, rfl⟩ := Int.eq_ofNat_of_zero_le (show 0 ≤ at' by omega)
  have hkk : kk < 8 := by omega
  go_wp2_with fail
  refine (led_any l a cap _ (by omega) (HR.out.below B3'.out)).mono ?_
  rintro e w4 ⟨g, ep, ok, rfl, hg, hok, b4⟩
  have GOK := Lib.hid hg
  have HOK := Lib.hid hok
  have ZG := Lib.hid (Gp.size hg)
  have B4 := Lib.hid (B3'.out.trans (b4.mono B3'.out.size))
  have Z4 := Lib.hid (new_z w4)
  clear b4 B3' hg hok
  go_upto_region 7 with ((with_reducible refine st_row1 rfl 40 _ _ rfl ?_); refine ⟨w4.heap.size, _, g.arr, _, rfl, rfl, Z4.out, by rw [gp_row.2, ZG.out], by rw [ZG.out]; rfl, Gp.one _, ?_⟩)
  obtain ⟨w5, hw5⟩ : ∃ w5, w5 = (w4.alloc (.cells Try.zeroCells40 40)).setRow w4.heap.size g.arr := ⟨_, rfl⟩
  rw [← hw5]
  have N5 := Lib.hid (show Below w4.heap.size w4 w5 ∧ w5.heap[w4.heap.size]? = some (.cells g.arr 40 (0, 0)) from hw5 ▸ new_g w4 g)
  have B5 := Lib.hid (B4.out.trans (N5.out.1.mono B4.out.size))
  have hN5 : w.heap.size ≤ w4.heap.size := B4.out.size
  clear hw5 Z4 B4
  obtain ⟨G, hG⟩ : ∃ G, w4.heap.size = G := ⟨_, rfl⟩
  rw [hG] at N5 hN5
  rw [hG]
  clear hG
  have G5 := Lib.hid N5.out.2
  clear N5
  cases ok
  · go_wp2
    go_ret
    exact ⟨rfl, B5.out⟩
  obtain ⟨hge, hee, he1, he2⟩ := HOK.out rfl
  have HGE := Lib.hid hge
  have HEE := Lib.hid hee
  clear HOK hge hee
  obtain ⟨S, hfam, hallc⟩ := ledAll_fam l
  have FS := Lib.hid hfam
  have HALL := Lib.hid (show AllC S g from HGE.out ▸ hallc)
  clear hfam hallc HGE HEE
  have HB2 := Lib.hid (Eq.refl (decide (2 ≤ (g.mem ep).length)))
  go_wp2_with ((with_reducible refine ld_row1 rfl 40 _ rfl ?_); refine ⟨G, _, g.arr, _, rfl, G5.out, gp_row.1, rfl, by rw [gp_row.2, ZG.out], ?_⟩)
  refine (gread_any g _ kk _ GOK.out hkk).mono ?_
  rintro e w7 ⟨rfl, b7⟩
  obtain ⟨Y, hY⟩ : ∃ Y, g.read ep kk = Y := ⟨_, rfl⟩
  obtain ⟨c, hc⟩ : ∃ c, g.readC ep kk = c := ⟨_, rfl⟩
  obtain ⟨B, hB⟩ : ∃ B, decide (2 ≤ (g.mem ep).length) = B := ⟨_, rfl⟩
  have YOK := Lib.hid (show Y.ok from hY ▸ Gp.read_ok GOK.out _ _)
  rw [hY, hc, hB]
  have HYY := Lib.hid hY
  have HCC := Lib.hid hc
  have HBB := Lib.hid hB
  have ZY := Lib.hid (Gp.size YOK.out)
  have B7 := Lib.hid (B5.out.trans (b7.mono B5.out.size))
  have G7 := Lib.hid (row_over G5.out b7)
  clear hY hc hB b7 HB2 B5 G5
  have T8 := Lib.hid (show MT w G w7.heap.size g Cel.zero (w7.alloc (.cells Cel.zero.cells 23)) from ⟨B7.out.trans ((bal w7 _).mono B7.out.size), GOK.out, row_over G7.out (bal w7 _), heap_alloc_new w7 _, hN5, B7.out.size, by have := (Array.getElem?_eq_some_iff.1 G7.out).1; omega⟩)
  have T9 := Lib.hid (T8.out.put YOK.out)
  have T10 := Lib.hid (T9.out.putC c)
  go_upto_region 10 with (first | ((with_reducible refine st_row1 rfl 40 _ _ rfl ?_); refine ⟨G, _, Y.arr, _, rfl, rfl, T8.out.hG, by rw [gp_row.2, ZY.out], by rw [ZG.out, ZY.out], Gp.one _, ?_⟩) | ((with_reducible refine st_row1 rfl 23 _ _ rfl ?_); refine ⟨w7.heap.size, _, c.cells, _, rfl, rfl, T9.out.hC, cell_row.2, rfl, cel_one _, ?_⟩))
  obtain ⟨w8, hw8⟩ : ∃ w8, w8 = ((w7.alloc (.cells Cel.zero.cells 23)).setRow G Y.arr).setRow w7.heap.size c.cells := ⟨_, rfl⟩
  have hw8' := hw8
  rw [cel_zero_arr] at hw8
  rw [← hw8]
  rw [← hw8'] at T10
  clear hw8 hw8' T8 T9 B7 G7
  obtain ⟨C, hC⟩ : ∃ C, w7.heap.size = C := ⟨_, rfl⟩
  rw [hC] at T10
  rw [hC]
  clear hC
  cases B
  · obtain rfl : c = Cel.zero := by rw [← HCC.out]; exact if_neg (of_decide_eq_false HBB.out)
    have EQ := fun w => (eql_cell Cel.zero Cel.zero w).trans (show _ = Result.ok (.bool true) w from by simp)
    have hgu := eqg_cell
    go_wp2_with (first | ((with_reducible refine ld_row1 rfl 23 _ rfl ?_); refine ⟨C, _, Cel.zero.cells, _, rfl, T10.out.hC, cell_row.1, rfl, cell_row.2, ?_⟩) | ((with_reducible refine bld1 rfl 23 _ rfl ?_); refine ⟨[], Cel.zero.cells, rfl, built_cell0, ?_⟩) | ((with_reducible refine bin_g1 .eql 23 _ _ _ rfl ?_); refine ⟨by rfl, Cel.zero.cells, Cel.zero.cells, .bool true, rfl, rfl, hgu, EQ, ?_⟩))
    go_ret
    exact ⟨rfl, T10.out.below⟩
  have RI := Lib.hid (show RInv S c kk Y from HCC.out ▸ HYY.out ▸ RInv.read FS.out HALL.out GOK.out hkk (of_decide_eq_true HBB.out))
  clear HYY HCC HBB HALL ZY
  go_wp2
  go_loopw [9, 11] (fun ve i wr => ∃ (k : Nat) (h : Gp) (ep' : Nat) (c : Cel), k ≤ more.length ∧ i = .int .i64 k ∧ ve = .int .i64 ep' ∧ 1 ≤ ep' ∧ ep' ≤ ep + k ∧ RInv S c kk h ∧ MT w G C h c wr) (fun _ i _ => more.length - (intOf i).toNat)
  case atStart => exact ⟨0, Y, ep, c, by omega, rfl, rfl, he1, by omega, RI.out, T10.out⟩
  case round =>
    clear RI T10 ZG YOK
    obtain ⟨k, h, ep, c, hk, rfl, rfl, he1, he2', ri, mt⟩ := hrel
    have RI := Lib.hid ri
    have TM := Lib.hid mt
    clear ri mt
    have TOK := Lib.hid TM.out.ok
    by_cases hlt : k < more.length
    · obtain ⟨okx, b, o, rfl, hb, hrange⟩ := HR2.out k hlt
      have hrg : wr.rangeAt b (o + k * 19) more[k].cells := fun j v hv => (TM.out.below.cell (p := ⟨b, _, none⟩) hb).trans (hrange j v hv)
      obtain ⟨X, hX⟩ : ∃ X, more[k] = X := ⟨_, rfl⟩
      rw [hX] at hrg okx
      have HRG := Lib.hid hrg
      clear hrange hX hrg okx
      go_upto_region 16 with (first | ((with_reducible refine ld_mid1 rfl 51 _ rfl ?_); refine ⟨b, o + k * 19, X.cells.toArray, _, rfl, HRG.out, act_row.1, rfl, act_row.2, ?_⟩) | ((with_reducible refine st_row1 rfl 51 _ _ rfl ?_); refine ⟨wr.heap.size, _, X.cells.toArray, _, rfl, rfl, heap_alloc_new wr _, act_row.2, rfl, act_one X, ?_⟩))
      obtain ⟨w4, hw4⟩ : ∃ w4, w4 = (wr.alloc (.cells actZ 51)).setRow wr.heap.size X.cells.toArray := ⟨_, rfl⟩
      have hw4' := hw4
      unfold actZ at hw4
      rw [← hw4]
      clear hw4
      have T4 := Lib.hid (show MT w G C h c w4 from hw4' ▸ TM.out.over (bel_row wr _ _ _))
      have HV4 := Lib.hid (show w4.heap[wr.heap.size]? = some (.cells X.cells.toArray 51 (0, 0)) from hw4' ▸ setRow_heap _ _ _ _ _ _ (heap_alloc_new wr _))
      clear hw4'
      obtain ⟨V, hV⟩ : ∃ V, wr.heap.size = V := ⟨_, rfl⟩
      rw [hV] at HV4
      rw [hV]
      clear hV TM HRG
      obtain ⟨v0, v1, v2, v3, -⟩ := act_box HV4.out
      have ZG := Lib.hid (Gp.size T4.out.ok)
      obtain ⟨xa, hxa⟩ : ∃ xa, X.a = xa := ⟨_, rfl⟩
      obtain ⟨kd, hkd⟩ : ∃ kd, X.kind = kd := ⟨_, rfl⟩
      rw [hxa] at v1
      rw [hkd] at v0
      have HXA := Lib.hid hxa
      have HXK := Lib.hid hkd
      clear hxa hkd
      by_cases y1 : xa < 0
      · go_wp2
        go_ret
        exact ⟨rfl, T4.out.below⟩
      by_cases y2 : 3 ≤ xa
      · go_wp2
        go_ret
        exact ⟨rfl, T4.out.below⟩
      have ha : 0 ≤ xa := by omega
      have ha3 : xa < 3 := by omega
      clear y1 y2
      obtain ⟨ia, rfl⟩ := Int.eq_ofNat_of_zero_le ha
      have hia : ia < 3 := by omega
      have NA := Lib.hid (show X.a.toNat = ia from by rw [HXA.out]; rfl)
      have HST := Lib.hid (show moreStep h ep X = if kd = sUp ∨ kd = sDown then (h.setU ia (decide (kd = sUp)), ep) else if kd = sFence then (if 2 ≤ ((h.fence (ep + 1)).mem (ep + 1)).length then (h.fence (ep + 1), ep + 1) else (h, ep)) else (h.sync ep ia, ep) from by
        unfold moreStep; rw [HXK.out, NA.out])
      go_upto_block 2 with fail
      go_cut [9] (fun ve wx => ∃ (h' : Gp) (ep' : Nat), ve = .int .i64 ep' ∧ moreStep h ep X = (h', ep') ∧ MT w G C h' c wx)
      case first =>
        by_cases k1 : kd = sUp
        · have HE := Lib.hid (show moreStep h ep X = (h.setU ia true, ep) from by rw [HST.out, if_pos (.inl k1), decide_eq_true k1])
          have q1 : (kd.toList == [117, 112]) = true := by rw [kd_up, decide_eq_true k1]
          obtain ⟨u0, u1⟩ := gp_up (i := ia) T4.out.hG T4.out.ok (by rw [T4.out.ok.u3]; exact hia)
          have T5 := Lib.hid (T4.out.setU ia true)
          clear k1 HST
          go_wp2
          go_meet
          exact ⟨_, _, rfl, HE.out, T5.out⟩
        by_cases k2 : kd = sDown
        · have HE := Lib.hid (show moreStep h ep X = (h.setU ia false, ep) from by rw [HST.out, if_pos (.inr k2), decide_eq_false k1])
          have q1 : (kd.toList == [117, 112]) = false := by rw [kd_up, decide_eq_false k1]
          have q2 : (kd.toList == [100, 111, 119, 110]) = true := by rw [kd_down, decide_eq_true k2]
          obtain ⟨u0, u1⟩ := gp_up (i := ia) T4.out.hG T4.out.ok (by rw [T4.out.ok.u3]; exact hia)
          have T5 := Lib.hid (T4.out.setU ia false)
          clear k1 k2 HST
          go_wp2
          go_meet
          exact ⟨_, _, rfl, HE.out, T5.out⟩
        have q1 : (kd.toList == [117, 112]) = false := by rw [kd_up, decide_eq_false k1]
        have q2 : (kd.toList == [100, 111, 119, 110]) = false := by rw [kd_down, decide_eq_false k2]
        have HST2 := Lib.hid (HST.out.trans (if_neg (by rintro (h | h) <;> contradiction)))
        clear k1 k2 HST
        by_cases k3 : kd = sFence
        · have q3 : (kd.toList == [102, 101, 110, 99, 101]) = true := by rw [kd_fence, decide_eq_true k3]
          rw [if_pos k3] at HST2
          clear k3
          go_wp2_with ((with_reducible refine ld_row1 rfl 40 _ rfl ?_); refine ⟨G, _, h.arr, _, rfl, T4.out.hG, gp_row.1, rfl, by rw [gp_row.2, ZG.out], ?_⟩)
          refine (gfence_any h _ _ T4.out.ok (by omega)).mono ?_
          rintro e w5 ⟨rfl, b5⟩
          obtain ⟨Y, hY⟩ : ∃ Y, h.fence (ep + 1) = Y := ⟨_, rfl⟩
          have YOK := Lib.hid (show Y.ok from hY ▸ Gp.fence_ok T4.out.ok _)
          rw [hY] at HST2 ⊢
          obtain ⟨B, hB⟩ : ∃ B, decide (2 ≤ (Y.mem (ep + 1)).length) = B := ⟨_, rfl⟩
          rw [hB]
          have HBB := Lib.hid hB
          have ZY := Lib.hid (Gp.size YOK.out)
          have T5 := Lib.hid (T4.out.over b5)
          clear hY hB b5 T4
          have HW6 := Lib.hid (new_z w5)
          have T6 := Lib.hid (show MT w G C h c ((w5.alloc (.cells Try.zeroCells40 40)).setRow w5.heap.size Y.arr) from T5.out.over (bel_row w5 _ _ _))
          clear T5
          cases B
          · have HE := Lib.hid (show moreStep h ep X = (h, ep) from by rw [HST2.out, if_neg (of_decide_eq_false HBB.out)])
            clear HST2
            go_wp2_with ((with_reducible refine st_row1 rfl 40 _ _ rfl ?_); refine ⟨w5.heap.size, _, Y.arr, _, rfl, rfl, HW6.out, by rw [gp_row.2, ZY.out], by rw [ZY.out]; rfl, Gp.one _, ?_⟩)
            go_meet
            exact ⟨_, _, rfl, HE.out, T6.out⟩
          · have HE := Lib.hid (show moreStep h ep X = (Y, ep + 1) from by rw [HST2.out, if_pos (of_decide_eq_true HBB.out)])
            have T7 := Lib.hid (T6.out.put YOK.out)
            clear HST2
            go_wp2_with (first | ((with_reducible refine st_row1 rfl 40 _ _ rfl ?_); refine ⟨w5.heap.size, _, Y.arr, _, rfl, rfl, HW6.out, by rw [gp_row.2, ZY.out], by rw [ZY.out]; rfl, Gp.one _, ?_⟩) | ((with_reducible refine ld_row1 rfl 40 _ rfl ?_); refine ⟨w5.heap.size, _, Y.arr, _, rfl, setRow_heap _ _ _ _ _ _ HW6.out, gp_row.1, rfl, by rw [gp_row.2, ZY.out], ?_⟩) | ((with_reducible refine st_row1 rfl 40 _ _ rfl ?_); refine ⟨G, _, Y.arr, _, rfl, rfl, T6.out.hG, by rw [gp_row.2, ZY.out], by rw [ZG.out, ZY.out], Gp.one _, ?_⟩))
            go_meet
            exact ⟨_, _, by simp, HE.out, T7.out⟩
        have q3 : (kd.toList == [102, 101, 110, 99, 101]) = false := by rw [kd_fence, decide_eq_false k3]
        rw [if_neg k3] at HST2
        clear k3
        go_wp2_with ((with_reducible refine ld_row1 rfl 40 _ rfl ?_); refine ⟨G, _, h.arr, _, rfl, T4.out.hG, gp_row.1, rfl, by rw [gp_row.2, ZG.out], ?_⟩)
        refine (gsync_any h _ ia _ T4.out.ok hia).mono ?_
        rintro e w5 ⟨rfl, b5⟩
        obtain ⟨Y, hY⟩ : ∃ Y, h.sync ep ia = Y := ⟨_, rfl⟩
        have YOK := Lib.hid (show Y.ok from hY ▸ Gp.sync_ok T4.out.ok _ _)
        rw [hY] at HST2 ⊢
        have ZY := Lib.hid (Gp.size YOK.out)
        have T5 := Lib.hid (T4.out.over b5)
        have T6 := Lib.hid (T5.out.put YOK.out)
        clear hY b5 T4
        go_wp2_with ((with_reducible refine st_row1 rfl 40 _ _ rfl ?_); refine ⟨G, _, Y.arr, _, rfl, rfl, T5.out.hG, by rw [gp_row.2, ZY.out], by rw [ZG.out, ZY.out], Gp.one _, ?_⟩)
        go_meet
        exact ⟨_, _, rfl, HST2.out, T6.out⟩
      case rest =>
        obtain ⟨h', ep', rfl, hst, mt⟩ := hcut
        have T6 := Lib.hid mt
        have HMS := Lib.hid hst
        have ME := Lib.hid (moreStep_ep h ep X)
        have ZH := Lib.hid (Gp.size mt.ok)
        have hep : ep ≤ ep' ∧ ep' ≤ ep + 1 := by have := ME.out; rw [HMS.out] at this; exact this
        clear hst mt ME HST T4 HV4 v0 v1 v2 v3
        have HXA3 := Lib.hid (show X.a.toNat < 3 from by rw [NA.out]; exact hia)
        have RI2 := Lib.hid (show RInv S c kk h' from by have := RI.out.step FS.out TOK.out hkk ep X HXA3.out; rwa [HMS.out] at this)
        have OK2 := Lib.hid T6.out.ok
        have HB2 := Lib.hid (Eq.refl (decide (2 ≤ (h'.mem ep').length)))
        go_wp2_with ((with_reducible refine ld_row1 rfl 40 _ rfl ?_); refine ⟨G, _, h'.arr, _, rfl, T6.out.hG, gp_row.1, rfl, by rw [gp_row.2, ZH.out], ?_⟩)
        refine (gread_any h' _ kk _ T6.out.ok hkk).mono ?_
        rintro e w7 ⟨rfl, b7⟩
        obtain ⟨Y, hY⟩ : ∃ Y, h'.read ep' kk = Y := ⟨_, rfl⟩
        obtain ⟨d, hd⟩ : ∃ d, h'.readC ep' kk = d := ⟨_, rfl⟩
        obtain ⟨B, hB⟩ : ∃ B, decide (2 ≤ (h'.mem ep').length) = B := ⟨_, rfl⟩
        have YOK := Lib.hid (show Y.ok from hY ▸ Gp.read_ok T6.out.ok _ _)
        rw [hY, hd, hB]
        have HYY := Lib.hid hY
        have HDD := Lib.hid hd
        have HBB := Lib.hid hB
        have ZY := Lib.hid (Gp.size YOK.out)
        have T7 := Lib.hid (T6.out.over b7)
        have NG := Lib.hid (new_gc w7 Y d)
        have T8 := Lib.hid (T7.out.over NG.out.2.2.2.2)
        clear hY hd hB b7 T6 HB2
        go_upto_region 29 with (first | ((with_reducible refine st_row1 rfl 40 _ _ rfl ?_); refine ⟨w7.heap.size, _, Y.arr, _, rfl, rfl, NG.out.1, by rw [gp_row.2, ZY.out], by rw [ZY.out]; rfl, Gp.one _, ?_⟩) | ((with_reducible refine st_row1 rfl 23 _ _ rfl ?_); refine ⟨w7.heap.size + 1, _, d.cells, _, rfl, rfl, NG.out.2.1, cell_row.2, rfl, cel_one _, ?_⟩))
        obtain ⟨w8, hw8⟩ : ∃ w8, w8 = (((w7.alloc (.cells Try.zeroCells40 40)).alloc (.cells Cel.zero.cells 23)).setRow w7.heap.size Y.arr).setRow (w7.heap.size + 1) d.cells := ⟨_, rfl⟩
        have hw8' := hw8
        rw [cel_zero_arr] at hw8
        rw [← hw8]
        clear hw8
        have HY8 := Lib.hid (show w8.heap[w7.heap.size]? = some (.cells Y.arr 40 (0, 0)) from hw8' ▸ NG.out.2.2.1)
        have HD8 := Lib.hid (show w8.heap[w7.heap.size + 1]? = some (.cells d.cells 23 (0, 0)) from hw8' ▸ NG.out.2.2.2.1)
        rw [← hw8'] at T8
        have GK := Lib.hid T7.out.lt
        clear hw8' NG T7
        obtain ⟨K, hK⟩ : ∃ K, w7.heap.size = K := ⟨_, rfl⟩
        rw [hK] at HY8 HD8 GK
        rw [hK]
        clear hK
        cases B
        · go_wp2
          go_roundw
          case rel => exact ⟨k + 1, h', ep', c, by omega, by go_num, rfl, by omega, by omega, RI2.out, T8.out⟩
          case measure => simp [intOf]; omega
        · have hm := of_decide_eq_true HBB.out
          have LE := Lib.hid (show leC c d from HDD.out ▸ RI2.out.now FS.out hm)
          have RI3 := Lib.hid (show RInv S d kk Y from HDD.out ▸ HYY.out ▸ RInv.read FS.out RI2.out.all OK2.out hkk hm)
          clear hm HYY HDD HBB RI2 OK2
          have NE := fun w => neq_cell d c w
          have hgu := eqg_cell
          go_upto_region 30 with fail
          by_cases hdc : d = c
          · have hdd : (!decide (d = c)) = false := by simp [hdc]
            rw [hdd] at NE
            clear hdc hdd
            have T10 := Lib.hid (T8.out.put YOK.out)
            have T11 := Lib.hid (T10.out.putC d)
            go_wp2_with (first | ((with_reducible refine ld_row_g1 23 _ rfl ?_); first | refine ⟨by rfl, K + 1, _, d.cells, _, rfl, HD8.out, cell_row.1, rfl, cell_row.2, ?_⟩ | refine ⟨by rfl, C, _, c.cells, _, rfl, T8.out.hC, cell_row.1, rfl, cell_row.2, ?_⟩) | ((with_reducible refine bin_g1 .neq 23 _ _ _ rfl ?_); refine ⟨by rfl, d.cells, c.cells, .bool false, rfl, rfl, hgu, NE, ?_⟩) | ((with_reducible refine ld_row1 rfl 40 _ rfl ?_); refine ⟨K, _, Y.arr, _, rfl, HY8.out, gp_row.1, rfl, by rw [gp_row.2, ZY.out], ?_⟩) | ((with_reducible refine st_row1 rfl 40 _ _ rfl ?_); refine ⟨G, _, Y.arr, _, rfl, rfl, T8.out.hG, by rw [gp_row.2, ZY.out], by rw [ZH.out, ZY.out], Gp.one _, ?_⟩) | ((with_reducible refine ld_row1 rfl 23 _ rfl ?_); refine ⟨K + 1, _, d.cells, _, rfl, (setRow_other _ _ _ _ (by have := GK.out; omega)).trans HD8.out, cell_row.1, rfl, cell_row.2, ?_⟩) | ((with_reducible refine st_row1 rfl 23 _ _ rfl ?_); refine ⟨C, _, d.cells, _, rfl, rfl, T10.out.hC, cell_row.2, rfl, cel_one _, ?_⟩))
            go_roundw
            case rel => exact ⟨k + 1, Y, ep', d, by omega, by go_num, rfl, by omega, by omega, RI3.out, T11.out⟩
            case measure => simp [intOf]; omega
          · have hdd : (!decide (d = c)) = true := by simp [hdc]
            rw [hdd] at NE
            have HN := Lib.hid (show newerB d c = true from LE.out.resolve_left hdc)
            clear hdc hdd
            go_wp2_with (first | ((with_reducible refine ld_row_g1 23 _ rfl ?_); first | refine ⟨by rfl, K + 1, _, d.cells, _, rfl, HD8.out, cell_row.1, rfl, cell_row.2, ?_⟩ | refine ⟨by rfl, C, _, c.cells, _, rfl, T8.out.hC, cell_row.1, rfl, cell_row.2, ?_⟩) | ((with_reducible refine bin_g1 .neq 23 _ _ _ rfl ?_); refine ⟨by rfl, d.cells, c.cells, .bool true, rfl, rfl, hgu, NE, ?_⟩))
            refine (newer_any d c _).mono ?_
            rintro e w9 ⟨rfl, b9⟩
            rw [HN.out]
            have T9 := Lib.hid (T8.out.over b9)
            have HY9 := Lib.hid (row_over HY8.out b9)
            have HD9 := Lib.hid (row_over HD8.out b9)
            have T10 := Lib.hid (T9.out.put YOK.out)
            have T11 := Lib.hid (T10.out.putC d)
            clear b9 T8 HY8 HD8 NE
            go_wp2_with (first | ((with_reducible refine ld_row1 rfl 40 _ rfl ?_); refine ⟨K, _, Y.arr, _, rfl, HY9.out, gp_row.1, rfl, by rw [gp_row.2, ZY.out], ?_⟩) | ((with_reducible refine st_row1 rfl 40 _ _ rfl ?_); refine ⟨G, _, Y.arr, _, rfl, rfl, T9.out.hG, by rw [gp_row.2, ZY.out], by rw [ZH.out, ZY.out], Gp.one _, ?_⟩) | ((with_reducible refine ld_row1 rfl 23 _ rfl ?_); refine ⟨K + 1, _, d.cells, _, rfl, (setRow_other _ _ _ _ (by have := GK.out; omega)).trans HD9.out, cell_row.1, rfl, cell_row.2, ?_⟩) | ((with_reducible refine st_row1 rfl 23 _ _ rfl ?_); refine ⟨C, _, d.cells, _, rfl, rfl, T10.out.hC, cell_row.2, rfl, cel_one _, ?_⟩))
            go_roundw
            case rel => exact ⟨k + 1, Y, ep', d, by omega, by go_num, rfl, by omega, by omega, RI3.out, T11.out⟩
            case measure => simp [intOf]; omega

    · go_wp2
      go_ret
      exact ⟨rfl, TM.out.below⟩
end Go.Proofs.Ytclhmpknkinjcaa
