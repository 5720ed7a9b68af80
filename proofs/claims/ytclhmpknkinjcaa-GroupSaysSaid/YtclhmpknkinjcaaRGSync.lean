/-
  Contract: the document's (*Group).Sync.
-/
import Derived.Test.YtclhmpknkinjcaaRGRead
namespace Go.Proofs.Ytclhmpknkinjcaa
open Go.RowKit Go.Sort

theorem rr_row : Try.prog.underlying 52 = some (.struct (Try.prog.fieldsOf 52)) ∧ (Try.prog.info? 52).map (·.size) = some 25 := by constructor <;> kernel_rfl
theorem built_rr (f : Int) : Try.prog.built 52 [(0, .int .i64 f)] = some (Rp.mk f zeros8).arr := by kernel_rfl
theorem rp_thereC {w : World} {N k : Nat} {r : Rp} {T : TypeId} (h : w.heap[N]? = some (.cells r.arr T (0, 0))) (h8 : r.cells.length = 8) (hk : k < 8) : w.there N (1 + k * 3) 3 := by
  intro j hj
  have hz := Rp.size h8
  refine ⟨?_, by simp [World.frozen?, h]⟩
  rw [cell_of_row w N _ r.arr T (0, 0) h, Array.getElem?_eq_getElem (by omega)]
  rfl
theorem rp_setC {w : World} {N k : Nat} {r : Rp} {T : TypeId} (h : w.heap[N]? = some (.cells r.arr T (0, 0))) (hk : k < r.cells.length) (c : Cel) : (w.setCells N (1 + k * 3) c.cells.toList).heap[N]? = some (.cells (Rp.mk r.floor (r.cells.set k c)).arr T (0, 0)) := by
  rw [block_setCells c.cells.toList _ _ _ h]
  have := Rp.set r c hk
  rw [← this]
  congr 2
  apply Array.toList_inj.1
  simp [putL, Array.toList_setIfInBounds]
theorem PG.setR {w wx : World} {G i : Nat} {h : Gp} (f : PG w G h wx) (hi : i < 3) {r : Rp} (hr : r.cells.length = 8) : PG w G (h.setR i r) (wx.setCells G (i * 25) r.arr.toList) :=
  ⟨f.keeps.trans (Keeps.setCells (S := (· = G)) rfl r.arr.toList (i * 25) wx wx (Keeps.refl _ _)), f.ok.setR i hr, gp_setR f.hG f.ok (by rw [f.ok.r3]; exact hi) hr⟩

set_option maxRecDepth 100000 in
set_option maxHeartbeats 2000000 in
theorem rgsync_any (g : Gp) (epoch : Int) (i G : Nat) (w : World) (hg : g.ok) (hi3 : i < 3) (h : w.heap[G]? = some (.cells g.arr 55 (0, 0))) :
    Calls Try.prog 32 #[.pointer (some ⟨G, 0, none⟩), .int .i64 epoch, .int .i64 i] w fun e w' => e = .returned (.bool (g.syncs epoch i)) ∧ PG w G (g.sync epoch i) w' := by
  have F0 := Lib.hid (show PG w G g w from ⟨Keeps.refl _ _, hg, h⟩)
  have hlt : G < w.heap.size := F0.out.lt
  have hti : (i : Int) < 3 := by omega
  have htr : i < g.r.length := by rw [hg.r3]; exact hi3
  have htu : i < g.u.length := by rw [hg.u3]; exact hi3
  clear hg h
  go_enter Try.func32, Try.ntmps32
  go_wp2_with fail
  refine (rmembers_any g epoch G _ F0.out.ok F0.out.hG).mono ?_
  rintro e w2 ⟨a2, c2, rfl, hown, b2⟩
  have F2 := Lib.hid (F0.out.over b2)
  have HI := Lib.hid hown.hi
  have ML := Lib.hid (g.mem_len epoch 3)
  obtain ⟨m, hm⟩ : ∃ m, (g.mem epoch).length = m := ⟨_, rfl⟩
  have GOK := Lib.hid F0.out.ok
  have NW := Lib.hid (fun (k : Nat) (hk8 : k < 8) w' (h : w'.heap[G]? = some (.cells g.arr 55 (0, 0))) (hi : HiI 0 w' a2 (g.mem epoch)) => newest_any g (g.mem epoch) a2 c2 k G w' GOK.out hk8 ML.out (fun j h => mem_nats j h) hi h)
  rw [hm] at NW ⊢
  have HM := Lib.hid hm
  have hm3 : m ≤ 3 := hm ▸ ML.out
  clear hm b2 F0 hown ML
  obtain ⟨u0, -⟩ := gp_up F2.out.hG F2.out.ok htu
  obtain ⟨f0, -⟩ := gp_floor F2.out.hG F2.out.ok htr
  obtain ⟨U, hU⟩ : ∃ U, g.u[i] = U := ⟨_, rfl⟩
  obtain ⟨F, hF⟩ : ∃ F, g.r[i].floor = F := ⟨_, rfl⟩
  rw [hU] at u0
  rw [hF] at f0
  have HS := Lib.hid (show g.syncs epoch i = (U && decide (2 ≤ m) && decide (F < epoch)) from by unfold Gp.syncs; rw [← hU, ← hF, ← HM.out]; simp [htu, htr])
  clear hU hF htr htu
  cases U
  · have HN := Lib.hid (show g.sync epoch i = g ∧ g.syncs epoch i = false from by unfold Gp.sync; rw [HS.out]; exact ⟨rfl, rfl⟩)
    clear f0
    go_wp2
    go_ret
    exact ⟨by rw [HN.out.2]; rfl, by rw [HN.out.1]; exact F2.out⟩
  by_cases hm2 : m < 2
  · have HN := Lib.hid (show g.sync epoch i = g ∧ g.syncs epoch i = false from by unfold Gp.sync; rw [HS.out, show decide (2 ≤ m) = false from by simp; omega]; exact ⟨rfl, rfl⟩)
    clear f0
    go_wp2
    go_ret
    exact ⟨by rw [HN.out.2]; rfl, by rw [HN.out.1]; exact F2.out⟩
  by_cases hfe : epoch ≤ F
  · have HN := Lib.hid (show g.sync epoch i = g ∧ g.syncs epoch i = false from by unfold Gp.sync; rw [HS.out, show decide (F < epoch) = false from by simp; omega]; simp)
    have hd2 : decide ((m : Int) < 2) = false := by simp; omega
    go_wp2
    go_ret
    exact ⟨by rw [HN.out.2]; rfl, by rw [HN.out.1]; exact F2.out⟩
  have HN := Lib.hid (show g.sync epoch i = g.setR i ⟨epoch, mergeL (g.frm epoch)⟩ ∧ g.syncs epoch i = true from by
    have : g.syncs epoch i = true := by rw [HS.out]; simp; omega
    exact ⟨if_pos this, this⟩)
  have hd2 : decide ((m : Int) < 2) = false := by simp; omega
  have hdf : decide (epoch ≤ F) = false := by simp; omega
  obtain ⟨M, hM⟩ : ∃ M, mergeL (g.frm epoch) = M := ⟨_, rfl⟩
  have M8 := Lib.hid (show M.length = 8 from hM ▸ mergeL_len _)
  have MG := Lib.hid (show ∀ k, k < 8 → bestL k (g.some (g.mem epoch)) = M.getD k Cel.zero from fun k hk => by rw [← hM, mergeL_get _ k hk]; rfl)
  rw [hM] at HN
  clear hM HS hm2 hfe
  obtain ⟨Z0, hZ0⟩ : ∃ Z, Rp.mk epoch zeros8 = Z := ⟨_, rfl⟩
  have BR := Lib.hid (show Try.prog.built 52 [(0, .int .i64 epoch)] = some Z0.arr from hZ0 ▸ built_rr epoch)
  have ZZ := Lib.hid (show Z0.arr.size = 25 from hZ0 ▸ Rp.size rfl)
  have HZ0 := Lib.hid hZ0
  clear hZ0
  have AN := Lib.hid (show (w2.alloc (.cells Rp.zero.arr 52)).heap[w2.heap.size]? = some (.cells Rp.zero.arr 52 (0, 0)) from heap_alloc_new _ _)
  go_upto_region 5 with (first | ((with_reducible refine bld1 rfl 52 _ rfl ?_); refine ⟨[(0, .int .i64 epoch)], Z0.arr, rfl, BR.out, ?_⟩) | ((with_reducible refine st_row1 rfl 52 _ _ rfl ?_); refine ⟨w2.heap.size, _, Z0.arr, _, rfl, rfl, AN.out, by rw [rr_row.2, ZZ.out], by rw [ZZ.out]; rfl, Rp.one _, ?_⟩))
  obtain ⟨w4, hw4⟩ : ∃ w4, w4 = (w2.alloc (.cells Rp.zero.arr 52)).setRow w2.heap.size Z0.arr := ⟨_, rfl⟩
  have b4 : Below w2.heap.size w2 w4 := hw4 ▸ bel_row w2 _ _ _
  have N4 := Lib.hid (show w4.heap[w2.heap.size]? = some (.cells (Rp.mk epoch (upTo M 0)).arr 52 (0, 0)) from by rw [upTo_none, HZ0.out, hw4]; exact setRow_heap _ _ _ _ _ _ AN.out)
  rw [rp_zero_arr] at hw4
  rw [← hw4]
  have F4 := Lib.hid (F2.out.over b4)
  have I4 := Lib.hid (show HiI 0 w4 a2 (g.mem epoch) from (HI.out.keeps (Keeps.of_below (S := fun _ => False) b4) (fun _ h => h.elim)).mono (Nat.zero_le _))
  have hN2 : w.heap.size ≤ w2.heap.size := F2.out.keeps.size
  clear hw4 b4 F2 AN f0 u0
  obtain ⟨N, hNN⟩ : ∃ N, w2.heap.size = N := ⟨_, rfl⟩
  rw [hNN] at N4 hN2
  rw [hNN]
  have HLO := Lib.hid (show ∀ j (h : j < (g.mem epoch).length), ∃ b o, a2 = some ⟨b, o, none⟩ ∧ b < N from fun j h => by
    obtain ⟨b, o, e, _, h2, _⟩ := HI.out j h
    exact ⟨b, o, e, hNN ▸ h2⟩)
  clear hNN HI
  have hN4 : N < w4.heap.size := (Array.getElem?_eq_some_iff.1 N4.out).1
  go_wp2
  go_loopw [9, 38] (fun i _ wr => ∃ j : Nat, j ≤ 8 ∧ i = .int .i64 j ∧ wr.heap[N]? = some (.cells (Rp.mk epoch (upTo M j)).arr 52 (0, 0)) ∧ Keeps (· = N) w4 wr) (fun i _ _ => 8 - (intOf i).toNat)
  case atStart => exact ⟨0, by omega, rfl, N4.out, Keeps.refl _ _⟩
  case round =>
    obtain ⟨j, hj, rfl, hn, kp⟩ := hrel
    have HNB := Lib.hid hn
    have KP := Lib.hid kp
    have FR := Lib.hid (F4.out.side hN2 hlt kp)
    clear hn kp
    by_cases hj8 : j < 8
    · have HIR := Lib.hid (show HiI 0 wr a2 (g.mem epoch) from fun q hq => by
        obtain ⟨b, o, e, h0, h1, h2⟩ := I4.out q hq
        obtain ⟨b', o', e', hb⟩ := HLO.out q hq
        obtain ⟨rfl, rfl⟩ : b = b' ∧ o = o' := by rw [e] at e'; simpa using e'
        exact ⟨b, o, e, h0, Nat.lt_of_lt_of_le h1 KP.out.size, (KP.out.cell (by omega) h1).trans h2⟩)
      have NW2 := Lib.hid (NW.out j hj8 _ FR.out.hG HIR.out)
      obtain ⟨c, hc⟩ : ∃ c, bestL j (g.some (g.mem epoch)) = c := ⟨_, rfl⟩
      have HU := Lib.hid (show (upTo M j).set j c = upTo M (j + 1) from by rw [← hc, MG.out j hj8]; exact upTo_set M8.out hj8)
      rw [hc] at NW2
      clear hc
      have hji : (j : Int) < 8 := by omega
      go_wp2_with fail
      refine NW2.out.mono ?_
      rintro e w5 ⟨rfl, b5⟩
      have HN5 := Lib.hid ((b5.block _ (Array.getElem?_eq_some_iff.1 HNB.out).1).trans HNB.out)
      have K5 := Lib.hid (KP.out.trans (Keeps.of_below b5))
      have TH := Lib.hid (rp_thereC HN5.out (upTo_len M8.out (Nat.le_of_lt hj8)) hj8)
      have SC := Lib.hid (show (w5.setCells N (1 + j * 3) c.cells.toList).heap[N]? = some (.cells (Rp.mk epoch (upTo M (j + 1))).arr 52 (0, 0)) from by
        rw [← HU.out]; exact rp_setC HN5.out (by show j < (upTo M j).length; rw [upTo_len M8.out (Nat.le_of_lt hj8)]; exact hj8) c)
      have KS := Lib.hid (Keeps.setCells (S := (· = N)) rfl c.cells.toList (1 + j * 3) _ w5 K5.out)
      clear b5 NW2
      go_wp2_with ((with_reducible refine st_mid1 rfl 23 _ _ rfl ?_); refine ⟨N, 1 + j * 3, c.cells, rfl, rfl, TH.out, cell_row.2, cel_one _, ?_⟩)
      go_roundw
      case rel => exact ⟨j + 1, by omega, by go_num, SC.out, KS.out⟩
      case measure => simp [intOf]; omega
    · obtain rfl : j = 8 := by omega
      obtain ⟨Y, hY⟩ : ∃ Y, Rp.mk epoch M = Y := ⟨_, rfl⟩
      have HY := Lib.hid (show wr.heap[N]? = some (.cells Y.arr 52 (0, 0)) from by have := HNB.out; rwa [upTo_all M8.out, hY] at this)
      have Y8 := Lib.hid (show Y.cells.length = 8 from hY ▸ M8.out)
      rw [hY] at HN
      clear hY HNB
      have ZY := Lib.hid (Rp.size Y8.out)
      go_wp2_with fail
      refine region_tail1 6 (by kernel_rfl) (by kernel_rfl) ?_
      intro wd hwd hwh
      have RD := Lib.hid (FR.out.over hwd)
      have YD := Lib.hid ((hwd.block _ (Array.getElem?_eq_some_iff.1 HY.out).1).trans HY.out)
      have TH := Lib.hid (show wd.there G (i * 25) Y.arr.size from by rw [ZY.out]; exact (gp_range RD.out.hG RD.out.ok (by rw [RD.out.ok.r3]; exact hi3)).2)
      have FS := Lib.hid (RD.out.setR hi3 Y8.out)
      clear hwd hwh
      simp only [List.take_succ_cons, List.take_zero, List.drop_succ_cons, List.drop_zero]
      repeat (first | still_step | (refine wpStill_load_row rfl 52 _ rfl N rfl 52 Y.arr (0, 0) _ YD.out rr_row.1 rfl (by rw [rr_row.2, ZY.out]) ?_))
      refine wpStill_nil ?_
      go_wp2_with ((with_reducible refine st_mid1 rfl 52 _ _ rfl ?_); refine ⟨G, i * 25, Y.arr, rfl, rfl, TH.out, by rw [rr_row.2, ZY.out], Rp.one _, ?_⟩)
      go_ret
      exact ⟨by rw [HN.out.2]; rfl, by rw [HN.out.1]; exact FS.out⟩
end Go.Proofs.Ytclhmpknkinjcaa
