/-
  GroupSays: the walk.
-/
import Derived.Test.YtclhmpknkinjcaaRGKit
namespace Go.Proofs.Ytclhmpknkinjcaa
open Go.RowKit Go.Sort

set_option maxRecDepth 100000 in
set_option maxHeartbeats 4000000 in
theorem groupsays_walk (l : List Ac) (a : Option Addr) (cap : Nat) (w : World) (hl : l.length ≤ maxLen) (hr : ActsAt w a l) :
    Calls Try.prog 4 #[.slice a l.length cap] w fun e w' => e = .returned (.bool true) ∧ Below w.heap.size w w' := by
  have HR := Lib.hid hr
  clear hr
  go_enter Try.func4, Try.ntmps4
  go_wp2_with fail
  refine (groups_any _).mono ?_
  rintro e w1 ⟨rfl, b1⟩
  have B1 := Lib.hid b1
  clear b1
  go_wp2_with fail
  refine (lightacts_any l a cap 60 _ hl (HR.out.below B1.out)).mono ?_
  rintro e w2 ⟨L, rfl, hL, b2⟩
  have B2 := Lib.hid (B1.out.trans (b2.mono B1.out.size))
  have HL := Lib.hid hL
  clear b2 B1 hL
  cases L
  · go_wp2
    go_ret
    exact ⟨rfl, B2.out⟩
  have hl60 : l.length ≤ 60 := (HL.out rfl).1
  clear HL
  go_wp2_with fail
  refine (gnew_any _).mono ?_
  rintro e w3 ⟨rfl, b3⟩
  obtain ⟨S, hS⟩ : ∃ S, Gp.start = S := ⟨_, rfl⟩
  rw [hS]
  have SOK := Lib.hid (show S.ok from hS ▸ startTo_ok 3 (by omega))
  have HS := Lib.hid hS
  have ZS := Lib.hid (Gp.size SOK.out)
  have B3 := Lib.hid (B2.out.trans (b3.mono B2.out.size))
  have Z3 := Lib.hid (new_z w3)
  clear b3 B2 hS
  go_upto_region 5 with ((with_reducible refine st_row1 rfl 40 _ _ rfl ?_); refine ⟨w3.heap.size, _, S.arr, _, rfl, rfl, Z3.out, by rw [gp_row.2, ZS.out], by rw [ZS.out]; rfl, Gp.one _, ?_⟩)
  obtain ⟨w4, hw4⟩ : ∃ w4, w4 = (w3.alloc (.cells Try.zeroCells40 40)).setRow w3.heap.size S.arr := ⟨_, rfl⟩
  rw [← hw4]
  have N4 := Lib.hid (show Below w3.heap.size w3 w4 ∧ w4.heap[w3.heap.size]? = some (.cells S.arr 40 (0, 0)) from hw4 ▸ new_g w3 S)
  have B4 := Lib.hid (B3.out.trans (N4.out.1.mono B3.out.size))
  have hN4 : w.heap.size ≤ w3.heap.size := B3.out.size
  clear hw4 Z3 B3
  obtain ⟨G, hG⟩ : ∃ G, w3.heap.size = G := ⟨_, rfl⟩
  rw [hG] at N4 hN4
  rw [hG]
  clear hG
  have G4 := Lib.hid N4.out.2
  clear N4
  go_wp2_with fail
  refine (rgnew_any _).mono ?_
  rintro e w5 ⟨M, rfl, hlo, hM, b5⟩
  rw [HS.out] at hM
  have T5 := Lib.hid (show GM w G M S S w5 from ⟨B4.out.trans (b5.mono B4.out.size), SOK.out, SOK.out, row_over G4.out b5, hM, hN4, Nat.le_trans B4.out.size hlo, by have := (Array.getElem?_eq_some_iff.1 G4.out).1; omega⟩)
  clear hlo hM b5 G4 B4 HS ZS
  go_wp2
  go_loopw [6, 7] (fun i _ wr => ∃ (k : Nat) (h : Gp), k ≤ l.length ∧ i = .int .i64 k ∧ GM w G M h h wr) (fun i _ _ => l.length - (intOf i).toNat)
  case atStart => exact ⟨0, S, by omega, rfl, T5.out⟩
  case round =>
    clear T5 SOK
    obtain ⟨k, h, hk, rfl, gm⟩ := hrel
    have TM := Lib.hid gm
    clear gm
    by_cases hlt : k < l.length
    · obtain ⟨okx, b, o, rfl, hb, hrange⟩ := HR.out k hlt
      have hrg : wr.rangeAt b (o + k * 19) l[k].cells := fun j v hv => (TM.out.below.cell (p := ⟨b, _, none⟩) hb).trans (hrange j v hv)
      obtain ⟨X, hX⟩ : ∃ X, l[k] = X := ⟨_, rfl⟩
      rw [hX] at hrg okx
      have HRG := Lib.hid hrg
      clear hrange hX hrg okx
      go_upto_region 10 with (first | ((with_reducible refine ld_mid1 rfl 51 _ rfl ?_); refine ⟨b, o + k * 19, X.cells.toArray, _, rfl, HRG.out, act_row.1, rfl, act_row.2, ?_⟩) | ((with_reducible refine st_row1 rfl 51 _ _ rfl ?_); refine ⟨wr.heap.size, _, X.cells.toArray, _, rfl, rfl, heap_alloc_new wr _, act_row.2, rfl, act_one X, ?_⟩))
      obtain ⟨w4, hw4⟩ : ∃ w4, w4 = (wr.alloc (.cells actZ 51)).setRow wr.heap.size X.cells.toArray := ⟨_, rfl⟩
      have hw4' := hw4
      unfold actZ at hw4
      rw [← hw4]
      clear hw4
      have T4 := Lib.hid (show GM w G M h h w4 from hw4' ▸ TM.out.over (bel_row wr _ _ _))
      have HV4 := Lib.hid (show w4.heap[wr.heap.size]? = some (.cells X.cells.toArray 51 (0, 0)) from hw4' ▸ setRow_heap _ _ _ _ _ _ (heap_alloc_new wr _))
      have hV1 := TM.out.lt
      have hV2 := TM.out.ltM
      clear hw4'
      obtain ⟨V, hV⟩ : ∃ V, wr.heap.size = V := ⟨_, rfl⟩
      rw [hV] at HV4 hV1 hV2
      rw [hV]
      clear hV TM HRG
      obtain ⟨v0, v1, v2, v3, -, v5, v7⟩ := act_box HV4.out
      obtain ⟨xa, hxa⟩ : ∃ xa, X.a = xa := ⟨_, rfl⟩
      obtain ⟨xb, hxb⟩ : ∃ xb, X.b = xb := ⟨_, rfl⟩
      obtain ⟨kd, hkd⟩ : ∃ kd, X.kind = kd := ⟨_, rfl⟩
      obtain ⟨xs, hxs⟩ : ∃ xs, X.s = xs := ⟨_, rfl⟩
      obtain ⟨xg, hxg⟩ : ∃ xg, X.st.gen = xg := ⟨_, rfl⟩
      obtain ⟨xt, hxt⟩ : ∃ xt, X.st.typ = xt := ⟨_, rfl⟩
      rw [hxa] at v1
      rw [hxb] at v2
      rw [hkd] at v0
      rw [hxs] at v3
      rw [hxg] at v5
      rw [hxt] at v7
      have BOX := Lib.hid (fun (w' : World) (hh : w'.heap[V]? = some (.cells X.cells.toArray 51 (0, 0))) => show (w'.cell? ⟨V, 0, none⟩ = some (.string kd) ∧ w'.cell? ⟨V, 1, none⟩ = some (.int .i64 xa) ∧ w'.cell? ⟨V, 2, none⟩ = some (.int .i64 xb) ∧ w'.cell? ⟨V, 3, none⟩ = some (.string xs) ∧ w'.cell? ⟨V, 5, none⟩ = some (.int .i64 xg) ∧ w'.cell? ⟨V, 7, none⟩ = some (.int .i64 xt)) from by
        obtain ⟨p0, p1, p2, p3, -, p5, p7⟩ := act_box hh
        rw [hkd] at p0; rw [hxa] at p1; rw [hxb] at p2; rw [hxs] at p3; rw [hxg] at p5; rw [hxt] at p7
        exact ⟨p0, p1, p2, p3, p5, p7⟩)
      clear hxa hxb hkd hxs hxg hxt
      by_cases z1 : xa < 0
      · go_wp2
        go_ret
        exact ⟨rfl, T4.out.below⟩
      by_cases z2 : 1000 < xa
      · go_wp2
        go_ret
        exact ⟨rfl, T4.out.below⟩
      by_cases z3 : xb < 0
      · go_wp2
        go_ret
        exact ⟨rfl, T4.out.below⟩
      by_cases z4 : 7 < xb
      · go_wp2
        go_ret
        exact ⟨rfl, T4.out.below⟩
      obtain ⟨ib, rfl⟩ := Int.eq_ofNat_of_zero_le (show 0 ≤ xb by omega)
      have hib : ib < 8 := by omega
      obtain ⟨ia, rfl⟩ := Int.eq_ofNat_of_zero_le (show 0 ≤ xa by omega)
      have hia : ia ≤ 1000 := by omega
      have ZH := Lib.hid (Gp.size T4.out.ok)
      have OKH := Lib.hid T4.out.ok
      have Z4 := Lib.hid (new_z w4)
      go_upto_region 13 with (first | ((with_reducible refine ld_row1 rfl 40 _ rfl ?_); refine ⟨G, _, h.arr, _, rfl, T4.out.hG, gp_row.1, rfl, by rw [gp_row.2, ZH.out], ?_⟩) | ((with_reducible refine st_row1 rfl 40 _ _ rfl ?_); refine ⟨w4.heap.size, _, h.arr, _, rfl, rfl, Z4.out, by rw [gp_row.2, ZH.out], by rw [ZH.out]; rfl, Gp.one _, ?_⟩))
      obtain ⟨w6, hw6⟩ : ∃ w6, w6 = (w4.alloc (.cells Try.zeroCells40 40)).setRow w4.heap.size h.arr := ⟨_, rfl⟩
      rw [← hw6]
      have N6 := Lib.hid (show Below w4.heap.size w4 w6 ∧ w6.heap[w4.heap.size]? = some (.cells h.arr 40 (0, 0)) from hw6 ▸ new_g w4 h)
      have T6 := Lib.hid (show GA w G M V w4.heap.size X h h h w6 from ⟨T4.out.over N6.out.1, row_over HV4.out N6.out.1, N6.out.2, by omega, by omega, by have := T4.out.lt; omega, by have := T4.out.ltM; omega⟩)
      clear hw6 Z4 v0 v1 v2 v3 v5 v7 N6 T4 HV4
      obtain ⟨W, hW⟩ : ∃ W, w4.heap.size = W := ⟨_, rfl⟩
      rw [hW] at T6
      rw [hW]
      clear hW hV1 hV2
      obtain ⟨v0, v1, v2, v3, v5, v7⟩ := BOX.out _ T6.out.hV
      obtain ⟨B1, hB1⟩ : ∃ B, (kd.toList == [117, 112]) = B := ⟨_, rfl⟩
      obtain ⟨B2, hB2⟩ : ∃ B, (kd.toList == [100, 111, 119, 110]) = B := ⟨_, rfl⟩
      go_upto_block 2 with fail
      go_cut [9] (fun _ wx => ∃ h' : Gp, GA w G M V W X h h' h' wx ∧ (B1 = false → B2 = false → h'.u = h.u))
      case first =>
        cases B1
        · cases B2
          · obtain ⟨B3, hB3⟩ : ∃ B, (kd.toList == [102, 101, 110, 99, 101]) = B := ⟨_, rfl⟩
            cases B3
            · obtain ⟨B4, hB4⟩ : ∃ B, (kd.toList == [114, 101, 97, 100]) = B := ⟨_, rfl⟩
              cases B4
              · obtain ⟨B5, hB5⟩ : ∃ B, (kd.toList == [115, 121, 110, 99]) = B := ⟨_, rfl⟩
                cases B5
                · as_aux_lemma =>
                  by_cases y1 : 2 < ia
                  · have y2 : (2 : Int) < (ia : Int) := by omega
                    go_wp2
                    go_ret
                    exact ⟨rfl, T6.out.gm.below⟩
                  have hiI : decide ((2 : Int) < (ia : Int)) = false := by simp; omega
                  have hia3 : ia < 3 := by omega
                  by_cases y2 : xg < 0
                  · go_wp2
                    go_ret
                    exact ⟨rfl, T6.out.gm.below⟩
                  by_cases y3 : 1000 < xg
                  · go_wp2
                    go_ret
                    exact ⟨rfl, T6.out.gm.below⟩
                  by_cases y4 : xt < 0
                  · go_wp2
                    go_ret
                    exact ⟨rfl, T6.out.gm.below⟩
                  by_cases y5 : 1000 < xt
                  · go_wp2
                    go_ret
                    exact ⟨rfl, T6.out.gm.below⟩
                  obtain ⟨cc, hcc⟩ : ∃ cc : Cel, cc = ⟨xg, xt, xs⟩ := ⟨_, rfl⟩
                  have BC := Lib.hid (show Try.prog.built 23 [(0, .int .i64 xg), (1, .int .i64 xt), (2, .string xs)] = some cc.cells from by rw [hcc]; exact built_cell ⟨xg, xt, xs⟩)
                  have BM := Lib.hid (built_msg ia ib cc)
                  obtain ⟨ms, hms⟩ : ∃ ms, msgC ia ib cc 0 = ms := ⟨_, rfl⟩
                  have FU := Lib.hid (h.deliver_u ia ib cc)
                  have F1 := Lib.hid (fun w' => show Calls Try.prog 33 #[.agg h.arr, .agg (msgC ia ib cc 0)] w' _ from gdeliver_any h ia ib cc 0 w' T6.out.gm.ok hia3 hib)
                  have F2 := Lib.hid (fun w' (hM : w'.heap[M]? = some (.cells h.arr 55 (0, 0))) => rgdeliver_any h ia ib cc 0 M w' T6.out.gm.ok hia3 hib hM)
                  obtain ⟨Y, hY⟩ : ∃ Y, h.deliver ia ib cc = Y := ⟨_, rfl⟩
                  have YOK := Lib.hid (show Y.ok from hY ▸ Gp.deliver_ok T6.out.gm.ok hia3 cc)
                  obtain ⟨B, hB⟩ : ∃ B, h.delivers ia cc = B := ⟨_, rfl⟩
                  rw [hY] at FU
                  rw [hY, hB, hms] at F1 F2
                  rw [hms] at BM
                  have MS6 := Lib.hid (show ms.size = 6 ∧ ms.all (·.oneCell') = true from by rw [← hms]; exact ⟨rfl, by simp [msgC, Value.oneCell']⟩)
                  have ZY := Lib.hid (Gp.size YOK.out)
                  clear hY hB hcc hms
                  have AM := Lib.hid (show ∀ cs, (w6.alloc (.cells cs 66)).heap[w6.heap.size]? = some (.cells cs 66 (0, 0)) from fun cs => heap_alloc_new w6 _)
                  go_upto_region 17 with (first | ((with_reducible refine bld1 rfl 23 _ rfl ?_); refine ⟨[(0, .int .i64 xg), (1, .int .i64 xt), (2, .string xs)], cc.cells, rfl, BC.out, ?_⟩) | ((with_reducible refine bld1 rfl 66 _ rfl ?_); refine ⟨[(0, .int .i64 ia), (1, .int .i64 ib), (2, .agg cc.cells)], ms, rfl, BM.out, ?_⟩) | ((with_reducible refine st_row1 rfl 66 _ _ rfl ?_); refine ⟨w6.heap.size, _, ms, _, rfl, rfl, AM.out _, by rw [msg_row.2, MS6.out.1], by rw [MS6.out.1]; rfl, MS6.out.2, ?_⟩))
                  obtain ⟨wm, hwm⟩ : ∃ wm, wm = (w6.alloc (.cells #[.int .i64 0, .int .i64 0, .int .i64 0, .int .i64 0, .string ⟨#[]⟩, .int .i64 0] 66)).setRow w6.heap.size ms := ⟨_, rfl⟩
                  rw [← hwm]
                  have bm : Below w6.heap.size w6 wm := hwm ▸ bel_row w6 _ _ _
                  have TM6 := Lib.hid (T6.out.over bm)
                  have HMS := Lib.hid (show wm.heap[w6.heap.size]? = some (.cells ms 66 (0, 0)) from hwm ▸ setRow_heap _ _ _ _ _ _ (heap_alloc_new w6 _))
                  clear hwm bm AM v0 v1 v2 v3 v5 v7 T6 y1 y2 y3 y4 y5
                  obtain ⟨MS, hMS⟩ : ∃ MS, w6.heap.size = MS := ⟨_, rfl⟩
                  rw [hMS] at HMS ⊢
                  clear hMS
                  go_wp2_with (first | ((with_reducible refine ld_row1 rfl 40 _ rfl ?_); refine ⟨G, _, h.arr, _, rfl, TM6.out.gm.hG, gp_row.1, rfl, by rw [gp_row.2, ZH.out], ?_⟩) | ((with_reducible refine ld_row1 rfl 66 _ rfl ?_); refine ⟨MS, _, ms, _, rfl, HMS.out, msg_row.1, rfl, by rw [msg_row.2, MS6.out.1], ?_⟩))
                  refine (F1.out _).mono ?_
                  rintro e w7 ⟨rfl, b7⟩
                  dsimp only
                  have T7 := Lib.hid (TM6.out.over b7)
                  have HM7 := Lib.hid (row_over HMS.out b7)
                  have Z7 := Lib.hid (new_z w7)
                  clear b7 F1 TM6 HMS
                  have T8 := Lib.hid (show GA w G M V W X h h h ((w7.alloc (.cells Try.zeroCells40 40)).setRow w7.heap.size Y.arr) from T7.out.over (bel_row w7 _ _ _))
                  have N8 := Lib.hid (show ((w7.alloc (.cells Try.zeroCells40 40)).setRow w7.heap.size Y.arr).heap[w7.heap.size]? = some (.cells Y.arr 40 (0, 0)) from (new_g w7 Y).2)
                  have HM8 := Lib.hid (show ((w7.alloc (.cells Try.zeroCells40 40)).setRow w7.heap.size Y.arr).heap[MS]? = some (.cells ms 66 (0, 0)) from row_over HM7.out (bel_row w7 _ _ _))
                  have hN1 := T7.out.gm.lt
                  have hN2 := T7.out.gm.ltM
                  go_wp2_with (first | ((with_reducible refine st_row1 rfl 40 _ _ rfl ?_); refine ⟨w7.heap.size, _, Y.arr, _, rfl, rfl, Z7.out, by rw [gp_row.2, ZY.out], by rw [ZY.out]; rfl, Gp.one _, ?_⟩) | ((with_reducible refine ld_row1 rfl 66 _ rfl ?_); refine ⟨MS, _, ms, _, rfl, HM8.out, msg_row.1, rfl, by rw [msg_row.2, MS6.out.1], ?_⟩))
                  refine (F2.out _ T8.out.gm.hM).mono ?_
                  obtain ⟨w8, hw8⟩ : ∃ w8, w8 = (w7.alloc (.cells Try.zeroCells40 40)).setRow w7.heap.size Y.arr := ⟨_, rfl⟩
                  rw [← hw8] at T8 N8 ⊢
                  clear hw8 Z7 T7 HM8 HM7
                  obtain ⟨N, hN⟩ : ∃ N, w7.heap.size = N := ⟨_, rfl⟩
                  rw [hN] at N8 hN1 hN2 ⊢
                  clear hN
                  rintro e w9 ⟨rfl, pg⟩
                  dsimp only
                  have T9 := Lib.hid (T8.out.pg pg)
                  have N9 := Lib.hid ((pg.keeps.block N (by omega) (Array.getElem?_eq_some_iff.1 N8.out).1).trans N8.out)
                  have T10 := Lib.hid (T9.out.put YOK.out)
                  have hBB : (B != B) = false := by simp
                  clear pg N8 T8
                  go_wp2_with (first | ((with_reducible refine ld_row1 rfl 40 _ rfl ?_); refine ⟨N, _, Y.arr, _, rfl, N9.out, gp_row.1, rfl, by rw [gp_row.2, ZY.out], ?_⟩) | ((with_reducible refine st_row1 rfl 40 _ _ rfl ?_); refine ⟨G, _, Y.arr, _, rfl, rfl, T9.out.gm.hG, by rw [gp_row.2, ZY.out], by rw [ZH, ZY.out], Gp.one _, ?_⟩))
                  go_meet
                  exact ⟨Y, T10.out, fun _ _ => FU.out⟩
                · as_aux_lemma =>
                  by_cases y1 : 2 < ib
                  · have y2 : (2 : Int) < (ib : Int) := by omega
                    go_wp2
                    go_ret
                    exact ⟨rfl, T6.out.gm.below⟩
                  have FU := Lib.hid (h.sync_u ia ib)
                  have F1 := Lib.hid (gsync_any h ia ib w6 T6.out.gm.ok (by omega))
                  have F2 := Lib.hid (fun w' (hM : w'.heap[M]? = some (.cells h.arr 55 (0, 0))) => rgsync_any h ia ib M w' T6.out.gm.ok (by omega) hM)
                  obtain ⟨Y, hY⟩ : ∃ Y, h.sync ia ib = Y := ⟨_, rfl⟩
                  have YOK := Lib.hid (show Y.ok from hY ▸ Gp.sync_ok T6.out.gm.ok _ _)
                  obtain ⟨B, hB⟩ : ∃ B, h.syncs ia ib = B := ⟨_, rfl⟩
                  rw [hY] at FU
                  rw [hY, hB] at F1 F2
                  have ZY := Lib.hid (Gp.size YOK.out)
                  clear hY hB
                  go_wp2_with ((with_reducible refine ld_row1 rfl 40 _ rfl ?_); refine ⟨G, _, h.arr, _, rfl, T6.out.gm.hG, gp_row.1, rfl, by rw [gp_row.2, ZH.out], ?_⟩)
                  refine F1.out.mono ?_
                  rintro e w7 ⟨rfl, b7⟩
                  dsimp only
                  have T7 := Lib.hid (T6.out.over b7)
                  have Z7 := Lib.hid (new_z w7)
                  clear b7 F1

                  have T8 := Lib.hid (show GA w G M V W X h h h ((w7.alloc (.cells Try.zeroCells40 40)).setRow w7.heap.size Y.arr) from T7.out.over (bel_row w7 _ _ _))
                  have N8 := Lib.hid (show ((w7.alloc (.cells Try.zeroCells40 40)).setRow w7.heap.size Y.arr).heap[w7.heap.size]? = some (.cells Y.arr 40 (0, 0)) from (new_g w7 Y).2)
                  have hN1 := T7.out.gm.lt
                  have hN2 := T7.out.gm.ltM
                  clear v0 v1 v2 v3 v5 v7 T6
                  obtain ⟨v0, v1, v2, v3, v5, v7⟩ := BOX.out _ T8.out.hV
                  go_wp2_with ((with_reducible refine st_row1 rfl 40 _ _ rfl ?_); refine ⟨w7.heap.size, _, Y.arr, _, rfl, rfl, Z7.out, by rw [gp_row.2, ZY.out], by rw [ZY.out]; rfl, Gp.one _, ?_⟩)
                  refine (F2.out _ T8.out.gm.hM).mono ?_
                  obtain ⟨w8, hw8⟩ : ∃ w8, w8 = (w7.alloc (.cells Try.zeroCells40 40)).setRow w7.heap.size Y.arr := ⟨_, rfl⟩
                  rw [← hw8] at T8 N8 ⊢
                  clear v0 v1 v2 v3 v5 v7 hw8 Z7 T7
                  obtain ⟨N, hN⟩ : ∃ N, w7.heap.size = N := ⟨_, rfl⟩
                  rw [hN] at N8 hN1 hN2 ⊢
                  clear hN
                  obtain ⟨v0, v1, v2, v3, v5, v7⟩ := BOX.out _ T8.out.hV
                  rintro e w9 ⟨rfl, pg⟩
                  dsimp only

                  have T9 := Lib.hid (T8.out.pg pg)
                  have N9 := Lib.hid ((pg.keeps.block N (by omega) (Array.getElem?_eq_some_iff.1 N8.out).1).trans N8.out)
                  have T10 := Lib.hid (T9.out.put YOK.out)
                  have hBB : (B != B) = false := by simp
                  clear pg v0 v1 v2 v3 v5 v7 N8 T8
                  go_wp2_with (first | ((with_reducible refine ld_row1 rfl 40 _ rfl ?_); refine ⟨N, _, Y.arr, _, rfl, N9.out, gp_row.1, rfl, by rw [gp_row.2, ZY.out], ?_⟩) | ((with_reducible refine st_row1 rfl 40 _ _ rfl ?_); refine ⟨G, _, Y.arr, _, rfl, rfl, T9.out.gm.hG, by rw [gp_row.2, ZY.out], by rw [ZH, ZY.out], Gp.one _, ?_⟩))
                  go_meet
                  exact ⟨Y, T10.out, fun _ _ => FU.out⟩
              · as_aux_lemma =>
                have FU := Lib.hid (h.read_u ia ib)
                have F1 := Lib.hid (gread_any h ia ib w6 T6.out.gm.ok hib)
                have F2 := Lib.hid (fun w' (hM : w'.heap[M]? = some (.cells h.arr 55 (0, 0))) => rgread_any h ia ib M w' T6.out.gm.ok hib hM)
                obtain ⟨Y, hY⟩ : ∃ Y, h.read ia ib = Y := ⟨_, rfl⟩
                have YOK := Lib.hid (show Y.ok from hY ▸ Gp.read_ok T6.out.gm.ok _ _)
                obtain ⟨C, hC⟩ : ∃ C, h.readC ia ib = C := ⟨_, rfl⟩
                obtain ⟨B, hB⟩ : ∃ B, decide (2 ≤ (h.mem ia).length) = B := ⟨_, rfl⟩
                rw [hY] at FU
                rw [hY, hC, hB] at F1 F2
                have ZY := Lib.hid (Gp.size YOK.out)
                clear hY hB hC
                go_wp2_with ((with_reducible refine ld_row1 rfl 40 _ rfl ?_); refine ⟨G, _, h.arr, _, rfl, T6.out.gm.hG, gp_row.1, rfl, by rw [gp_row.2, ZH.out], ?_⟩)
                refine F1.out.mono ?_
                rintro e w7 ⟨rfl, b7⟩
                dsimp only
                have T7 := Lib.hid (T6.out.over b7)
                have NG := Lib.hid (new_gc w7 Y C)
                have hN1 := T7.out.gm.lt
                have hN2 := T7.out.gm.ltM
                clear b7 F1 v0 v1 v2 v3 v5 v7 T6
                have T8 := Lib.hid (show GA w G M V W X h h h ((((w7.alloc (.cells Try.zeroCells40 40)).alloc (.cells #[.int .i64 0, .int .i64 0, .string ⟨#[]⟩] 23)).setRow w7.heap.size Y.arr).setRow (w7.heap.size + 1) C.cells) from T7.out.over NG.out.2.2.2.2)
                obtain ⟨v0, v1, v2, v3, v5, v7⟩ := BOX.out _ T8.out.hV
                go_wp2_with (first | ((with_reducible refine st_row1 rfl 40 _ _ rfl ?_); refine ⟨w7.heap.size, _, Y.arr, _, rfl, rfl, NG.out.1, by rw [gp_row.2, ZY.out], by rw [ZY.out]; rfl, Gp.one _, ?_⟩) | ((with_reducible refine st_row1 rfl 23 _ _ rfl ?_); refine ⟨w7.heap.size + 1, _, C.cells, _, rfl, rfl, NG.out.2.1, cell_row.2, rfl, cel_one _, ?_⟩))
                refine (F2.out _ T8.out.gm.hM).mono ?_
                obtain ⟨w8, hw8⟩ : ∃ w8, w8 = ((((w7.alloc (.cells Try.zeroCells40 40)).alloc (.cells #[.int .i64 0, .int .i64 0, .string ⟨#[]⟩] 23)).setRow w7.heap.size Y.arr).setRow (w7.heap.size + 1) C.cells) := ⟨_, rfl⟩
                have N8 := Lib.hid (show w8.heap[w7.heap.size]? = some (.cells Y.arr 40 (0, 0)) ∧ w8.heap[w7.heap.size + 1]? = some (.cells C.cells 23 (0, 0)) from hw8 ▸ ⟨NG.out.2.2.1, NG.out.2.2.2.1⟩)
                rw [← hw8] at T8 ⊢
                clear v0 v1 v2 v3 v5 v7 hw8 NG T7
                obtain ⟨N, hN⟩ : ∃ N, w7.heap.size = N := ⟨_, rfl⟩
                rw [hN] at N8 hN1 hN2 ⊢
                clear hN
                rintro e w9 ⟨rfl, pg⟩
                dsimp only
                have T9 := Lib.hid (T8.out.pg pg)
                have N9 := Lib.hid ((pg.keeps.block N (by omega) (Array.getElem?_eq_some_iff.1 N8.out.1).1).trans N8.out.1)
                have C9 := Lib.hid ((pg.keeps.block (N + 1) (by omega) (Array.getElem?_eq_some_iff.1 N8.out.2).1).trans N8.out.2)
                have hBB : (B != B) = false := by simp
                clear pg N8 T8
                go_upto_region 35 with ((with_reducible refine st_row1 rfl 23 _ _ rfl ?_); refine ⟨w9.heap.size, _, C.cells, _, rfl, rfl, heap_alloc_new w9 _, cell_row.2, rfl, cel_one _, ?_⟩)
                obtain ⟨wx, hwx⟩ : ∃ wx, wx = (w9.alloc (.cells #[.int .i64 0, .int .i64 0, .string ⟨#[]⟩] 23)).setRow w9.heap.size C.cells := ⟨_, rfl⟩
                rw [← hwx]
                have bx : Below w9.heap.size w9 wx := hwx ▸ bel_row w9 _ _ _
                have DX := Lib.hid (show wx.heap[w9.heap.size]? = some (.cells C.cells 23 (0, 0)) from hwx ▸ setRow_heap _ _ _ _ _ _ (heap_alloc_new w9 _))
                have TX := Lib.hid (T9.out.over bx)
                have NX := Lib.hid (row_over N9.out bx)
                have CX := Lib.hid (row_over C9.out bx)
                have T10 := Lib.hid (TX.out.put YOK.out)
                clear hwx bx T9 N9 C9
                obtain ⟨D, hD⟩ : ∃ D, w9.heap.size = D := ⟨_, rfl⟩
                rw [hD] at DX ⊢
                clear hD
                have NE := neq_cell_s C
                go_wp2_with (first | ((with_reducible refine ld_row1 rfl 23 _ rfl ?_); refine ⟨N + 1, _, C.cells, _, rfl, CX.out, cell_row.1, rfl, cell_row.2, ?_⟩) | ((with_reducible refine ld_row1 rfl 23 _ rfl ?_); refine ⟨D, _, C.cells, _, rfl, DX.out, cell_row.1, rfl, cell_row.2, ?_⟩) | ((with_reducible refine bin_g2 .neq 23 _ _ _ rfl ?_); refine ⟨by rfl, C.cells, C.cells, .bool false, rfl, rfl, eqg_cellS, NE, ?_⟩) | ((with_reducible refine ld_row1 rfl 40 _ rfl ?_); refine ⟨N, _, Y.arr, _, rfl, NX.out, gp_row.1, rfl, by rw [gp_row.2, ZY.out], ?_⟩) | ((with_reducible refine st_row1 rfl 40 _ _ rfl ?_); refine ⟨G, _, Y.arr, _, rfl, rfl, TX.out.gm.hG, by rw [gp_row.2, ZY.out], by rw [ZH, ZY.out], Gp.one _, ?_⟩))
                go_meet
                exact ⟨Y, T10.out, fun _ _ => FU.out⟩
            · as_aux_lemma =>
              have FU := Lib.hid (h.fence_u ia)
              have F1 := Lib.hid (gfence_any h ia w6 T6.out.gm.ok (by omega))
              have F2 := Lib.hid (fun w' (hM : w'.heap[M]? = some (.cells h.arr 55 (0, 0))) => rgfence_any h ia M w' T6.out.gm.ok (by omega) hM)
              obtain ⟨Y, hY⟩ : ∃ Y, h.fence ia = Y := ⟨_, rfl⟩
              have YOK := Lib.hid (show Y.ok from hY ▸ Gp.fence_ok T6.out.gm.ok _)
              rw [hY] at FU F1 F2
              obtain ⟨B, hB⟩ : ∃ B, decide (2 ≤ (Y.mem ia).length) = B := ⟨_, rfl⟩
              rw [hB] at F1 F2
              have ZY := Lib.hid (Gp.size YOK.out)
              clear hY hB
              go_wp2_with ((with_reducible refine ld_row1 rfl 40 _ rfl ?_); refine ⟨G, _, h.arr, _, rfl, T6.out.gm.hG, gp_row.1, rfl, by rw [gp_row.2, ZH.out], ?_⟩)
              refine F1.out.mono ?_
              rintro e w7 ⟨rfl, b7⟩
              dsimp only
              have T7 := Lib.hid (T6.out.over b7)
              have Z7 := Lib.hid (new_z w7)
              clear b7 F1

              have T8 := Lib.hid (show GA w G M V W X h h h ((w7.alloc (.cells Try.zeroCells40 40)).setRow w7.heap.size Y.arr) from T7.out.over (bel_row w7 _ _ _))
              have N8 := Lib.hid (show ((w7.alloc (.cells Try.zeroCells40 40)).setRow w7.heap.size Y.arr).heap[w7.heap.size]? = some (.cells Y.arr 40 (0, 0)) from (new_g w7 Y).2)
              have hN1 := T7.out.gm.lt
              have hN2 := T7.out.gm.ltM
              clear v0 v1 v2 v3 v5 v7 T6
              obtain ⟨v0, v1, v2, v3, v5, v7⟩ := BOX.out _ T8.out.hV
              go_wp2_with ((with_reducible refine st_row1 rfl 40 _ _ rfl ?_); refine ⟨w7.heap.size, _, Y.arr, _, rfl, rfl, Z7.out, by rw [gp_row.2, ZY.out], by rw [ZY.out]; rfl, Gp.one _, ?_⟩)
              refine (F2.out _ T8.out.gm.hM).mono ?_
              obtain ⟨w8, hw8⟩ : ∃ w8, w8 = (w7.alloc (.cells Try.zeroCells40 40)).setRow w7.heap.size Y.arr := ⟨_, rfl⟩
              rw [← hw8] at T8 N8 ⊢
              clear v0 v1 v2 v3 v5 v7 hw8 Z7 T7
              obtain ⟨N, hN⟩ : ∃ N, w7.heap.size = N := ⟨_, rfl⟩
              rw [hN] at N8 hN1 hN2 ⊢
              clear hN
              obtain ⟨v0, v1, v2, v3, v5, v7⟩ := BOX.out _ T8.out.hV
              rintro e w9 ⟨rfl, pg⟩
              dsimp only

              have T9 := Lib.hid (T8.out.pg pg)
              have N9 := Lib.hid ((pg.keeps.block N (by omega) (Array.getElem?_eq_some_iff.1 N8.out).1).trans N8.out)
              have T10 := Lib.hid (T9.out.put YOK.out)
              have hBB : (B != B) = false := by simp
              clear pg v0 v1 v2 v3 v5 v7 N8 T8
              go_wp2_with (first | ((with_reducible refine ld_row1 rfl 40 _ rfl ?_); refine ⟨N, _, Y.arr, _, rfl, N9.out, gp_row.1, rfl, by rw [gp_row.2, ZY.out], ?_⟩) | ((with_reducible refine st_row1 rfl 40 _ _ rfl ?_); refine ⟨G, _, Y.arr, _, rfl, rfl, T9.out.gm.hG, by rw [gp_row.2, ZY.out], by rw [ZH, ZY.out], Gp.one _, ?_⟩))
              go_meet
              exact ⟨Y, T10.out, fun _ _ => FU.out⟩
          · as_aux_lemma =>
            by_cases y1 : 2 < ia
            · have y2 : (2 : Int) < (ia : Int) := by omega
              go_wp2
              go_ret
              exact ⟨rfl, T6.out.gm.below⟩
            have hia3 : ia < 3 := by omega
            have hiI : (ia : Int) < 3 := by omega
            obtain ⟨u0, u1⟩ := gp_up (i := ia) T6.out.gm.hG T6.out.gm.ok (by rw [T6.out.gm.ok.u3]; exact hia3)
            have T7 := Lib.hid (T6.out.setU ia false)
            go_upto_region 26 with fail
            obtain ⟨w7, hw7⟩ : ∃ w7, w7 = w6.setCell ⟨G, 75 + ia, none⟩ (.bool false) := ⟨_, rfl⟩
            rw [← hw7] at T7
            rw [← hw7]
            clear hw7 v0 v1 v2 v3 v5 v7 u0 u1
            obtain ⟨v0, v1, v2, v3, v5, v7⟩ := BOX.out _ T7.out.hV
            obtain ⟨u0, u1⟩ := gp_up (i := ia) T7.out.gm.hM T7.out.gm.okM (by rw [T7.out.gm.okM.u3]; exact hia3)
            have T8 := Lib.hid (T7.out.setUM ia false)
            go_region
            go_wp2
            go_meet
            exact ⟨_, T8.out.over (Below.refl _ _).drew, fun h1 h2 => by first | exact absurd h1 (by decide) | exact absurd h2 (by decide)⟩
        · as_aux_lemma =>
          by_cases y1 : 2 < ia
          · have y2 : (2 : Int) < (ia : Int) := by omega
            go_wp2
            go_ret
            exact ⟨rfl, T6.out.gm.below⟩
          have hia3 : ia < 3 := by omega
          have hiI : (ia : Int) < 3 := by omega
          obtain ⟨u0, u1⟩ := gp_up (i := ia) T6.out.gm.hG T6.out.gm.ok (by rw [T6.out.gm.ok.u3]; exact hia3)
          have T7 := Lib.hid (T6.out.setU ia true)
          go_upto_region 26 with fail
          obtain ⟨w7, hw7⟩ : ∃ w7, w7 = w6.setCell ⟨G, 75 + ia, none⟩ (.bool true) := ⟨_, rfl⟩
          rw [← hw7] at T7
          rw [← hw7]
          clear hw7 v0 v1 v2 v3 v5 v7 u0 u1
          obtain ⟨v0, v1, v2, v3, v5, v7⟩ := BOX.out _ T7.out.hV
          obtain ⟨u0, u1⟩ := gp_up (i := ia) T7.out.gm.hM T7.out.gm.okM (by rw [T7.out.gm.okM.u3]; exact hia3)
          have T8 := Lib.hid (T7.out.setUM ia true)
          go_region
          go_wp2
          go_meet
          exact ⟨_, T8.out.over (Below.refl _ _).drew, fun h1 h2 => by first | exact absurd h1 (by decide) | exact absurd h2 (by decide)⟩
      case rest => as_aux_lemma =>
        obtain ⟨h', t7, hu⟩ := hcut
        obtain ⟨w7, rfl⟩ : ∃ w7 : World, w7 = wc := ⟨_, rfl⟩
        obtain ⟨wo, rfl⟩ : ∃ wo : World, wo = wr := ⟨_, rfl⟩
        have T7 := Lib.hid t7
        have HU := Lib.hid hu
        have ZH' := Lib.hid (Gp.size t7.gm.ok)
        clear t7 hu T6 v0 v1 v2 v3 v5 v7
        have AG := Lib.hid (asgroup_any h' M _ T7.out.gm.ok T7.out.gm.hM)
        go_upto_region 45 with fail
        go_cut [228] (fun v wx => v = .bool false ∧ Below w7.heap.size w7 wx)
        case first =>
          go_wp2_with ((with_reducible refine ld_row1 rfl 40 _ rfl ?_); refine ⟨G, _, h'.arr, _, rfl, T7.out.gm.hG, gp_row.1, rfl, by rw [gp_row.2, ZH'.out], ?_⟩)
          refine AG.out.mono ?_
          rintro e w8 ⟨rfl, b8⟩
          have T8 := Lib.hid (T7.out.over b8)
          have B8 := Lib.hid b8
          obtain ⟨v0, v1, v2, v3, v5, v7⟩ := BOX.out _ T8.out.hV
          clear b8 AG T7
          have hn1 : (kd.toList != [117, 112]) = !B1 := by rw [← hB1]; rfl
          have hn2 : (kd.toList != [100, 111, 119, 110]) = !B2 := by rw [← hB2]; rfl
          cases B1
          · cases B2
            · obtain ⟨U, hU⟩ : ∃ U, upsA h.u = U := ⟨_, rfl⟩
              have R1 := Lib.hid (show w8.rangeAt W 75 U.toList from hU ▸ gp_rangeU T8.out.hW OKH.out)
              have R2 := Lib.hid (show w8.rangeAt G 75 U.toList from hU ▸ HU.out rfl rfl ▸ gp_rangeU T8.out.gm.hG T8.out.gm.ok)
              have ZU := Lib.hid (show U.size = 3 from by rw [← hU]; simp [upsA, OKH.out.u3])
              have NE := Lib.hid (show ∀ w, (binOp .neq 38 (.agg U) (.agg U)).run Try.prog w = .ok (.bool false) w from hU ▸ neq_ups h.u OKH.out.u3)
              clear hU
              go_wp2_with (first | ((with_reducible refine ld_mid_g1 38 _ rfl ?_); (first | refine ⟨by rfl, W, 75, U, _, rfl, R1.out, ups_row.1, rfl, by rw [ups_row.2, ZU.out], ?_⟩ | refine ⟨by rfl, G, 75, U, _, rfl, R2.out, ups_row.1, rfl, by rw [ups_row.2, ZU.out], ?_⟩)) | ((with_reducible refine bin_g2 .neq 38 _ _ _ rfl ?_); refine ⟨by rfl, U, U, .bool false, rfl, rfl, eqg_ups, NE.out, ?_⟩))
              go_meet
              exact ⟨rfl, B8.out⟩
            · go_wp2
              go_meet
              exact ⟨rfl, B8.out⟩
          · go_wp2
            go_meet
            exact ⟨rfl, B8.out⟩
        case rest =>
          obtain ⟨rfl, b8⟩ := hcut
          have T8 := Lib.hid (T7.out.gm.over b8)
          clear b8 T7 AG HU hB1 hB2 BOX ZH OKH
          go_wp2
          go_loopw [21, 229] (fun v _ wr => ∃ e : Nat, e ≤ 4 ∧ v = .int .i64 e ∧ GM w G M h' h' wr) (fun v _ _ => 4 - (intOf v).toNat)
          case atStart => exact ⟨0, by omega, rfl, T8.out⟩
          case round =>
            clear T8
            obtain ⟨ep, he, rfl, gm⟩ := hrel
            have T9 := Lib.hid gm
            clear gm
            by_cases he4 : ep < 4
            · have MA := Lib.hid (members_any h' (ep : Int) wr T9.out.ok)
              have MB := Lib.hid (fun w' (hM : w'.heap[M]? = some (.cells h'.arr 55 (0, 0))) => rmembers_any h' (ep : Int) M w' T9.out.ok hM)
              have ML := Lib.hid (h'.mem_len (ep : Int) 3)
              obtain ⟨L, hL⟩ : ∃ L, h'.mem (ep : Int) = L := ⟨_, rfl⟩
              have L3 := Lib.hid (show L.length ≤ 3 from hL ▸ ML.out)
              rw [hL] at MA MB
              clear ML hL
              have SN := Lib.hid (fun a b c d w' ha hb => samenumbers_any L L a b c d w' (by have := L3.out; unfold maxLen; omega) (by have := L3.out; unfold maxLen; omega) ha hb)
              obtain ⟨n, hn⟩ : ∃ n, L.length = n := ⟨_, rfl⟩
              have HN := Lib.hid hn
              rw [hn] at MA MB SN
              clear hn
              go_wp2_with ((with_reducible refine ld_row1 rfl 40 _ rfl ?_); refine ⟨G, _, h'.arr, _, rfl, T9.out.hG, gp_row.1, rfl, by rw [gp_row.2, ZH'.out], ?_⟩)
              refine MA.out.mono ?_
              rintro _ w9 ⟨a9, c9, rfl, hown, b9⟩
              have T10 := Lib.hid (T9.out.over b9)
              have I9 := Lib.hid (show OwnI _ w9 (.slice a9 L.length c9) L from HN.out ▸ hown).ints
              clear hown b9 MA
              go_wp2_with fail
              refine (MB.out _ T10.out.hM).mono ?_
              rintro _ w11 ⟨a11, c11, rfl, hown, b11⟩
              have T11 := Lib.hid (T10.out.over b11)
              have I11 := Lib.hid (show OwnI _ w11 (.slice a11 L.length c11) L from HN.out ▸ hown).ints
              have I10 := Lib.hid ((I9.out.below b11 (Nat.le_refl _)).mono b11.size)
              clear hown b11 MB I9 T10
              go_wp2_with fail
              refine (SN.out _ _ _ _ _ I10.out I11.out).mono ?_
              rintro _ w12 ⟨rfl, b12⟩
              have T12 := Lib.hid (T11.out.over b12)
              simp only [decide_true]
              clear b12 SN I10 I11 T11
              go_wp2
              go_roundw
              case rel => exact ⟨ep + 1, by omega, by go_num, T12.out⟩
              case measure => simp [intOf]; omega
            · obtain rfl : ep = 4 := by omega
              go_wp2
              go_roundw
              case rel => exact ⟨k + 1, h', by omega, by go_num, T9.out⟩
              case measure => simp [intOf]; omega
    · obtain rfl : k = l.length := by omega
      go_wp2
      go_ret
      exact ⟨rfl, TM.out.below⟩
end Go.Proofs.Ytclhmpknkinjcaa
