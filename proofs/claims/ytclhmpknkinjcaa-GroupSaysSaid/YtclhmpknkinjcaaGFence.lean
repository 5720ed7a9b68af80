/-
  Contract: (group.Group).Fence.
-/
import Derived.Test.YtclhmpknkinjcaaGNew
namespace Go.Proofs.Ytclhmpknkinjcaa
open Go.RowKit Go.Sort

/-- a group in its box, the result's place behind it -/
structure GF (w : World) (h : Gp) (wx : World) : Prop where
  below : Below w.heap.size w wx
  ok : h.ok
  hG : wx.heap[w.heap.size]? = some (.cells h.arr 40 (0, 0))
  hZ : wx.heap[w.heap.size + 1]? = some (.cells Gp.zero.arr 40 (0, 0))
theorem GF.lt {w wx : World} {h : Gp} (f : GF w h wx) : w.heap.size + 1 < wx.heap.size := (Array.getElem?_eq_some_iff.1 f.hZ).1
theorem GF.over {w wx w' : World} {h : Gp} (f : GF w h wx) (b : Below wx.heap.size wx w') : GF w h w' :=
  ⟨f.below.trans (b.mono f.below.size), f.ok, (b.block _ (by have := f.lt; omega)).trans f.hG, (b.block _ f.lt).trans f.hZ⟩
theorem GF.setR {w wx : World} {h : Gp} (f : GF w h wx) {i : Nat} (hi : i < 3) {r : Rp} (hr : r.cells.length = 8) : GF w (h.setR i r) (wx.setCells w.heap.size (i * 25) r.arr.toList) := by
  have kp := Keeps.setCells (S := (· = w.heap.size)) rfl r.arr.toList (i * 25) wx wx (Keeps.refl _ _)
  exact ⟨f.below.trans (kp.below f.below.size (fun m hm => by omega)), f.ok.setR i hr, gp_setR f.hG f.ok (by rw [f.ok.r3]; exact hi) hr, (kp.block _ (by omega) f.lt).trans f.hZ⟩
/-- the result is laid -/
theorem GF.done {w wx : World} {h : Gp} (f : GF w h wx) (cs : Array Value) : Below w.heap.size w (wx.setRow (w.heap.size + 1) cs) :=
  f.below.trans (((Keeps.refl (· = w.heap.size + 1) wx).setRow rfl _).below f.below.size (fun m hm => by omega))

def Gp.fenceTo (g : Gp) (epoch : Int) : Nat → Gp
  | 0 => g
  | k + 1 => if g.u.getD k false then (g.fenceTo epoch k).setR k (((g.fenceTo epoch k).r.getD k Rp.zero).fence epoch) else g.fenceTo epoch k
def Gp.fence (g : Gp) (epoch : Int) : Gp := if 2 ≤ (g.mem (epoch - 1)).length then g.fenceTo epoch 3 else g
theorem Rp.fence_len (r : Rp) (epoch : Int) : (r.fence epoch).cells.length = r.cells.length := by unfold Rp.fence; split <;> rfl
theorem Gp.fenceTo_u (g : Gp) (epoch : Int) : ∀ k, (g.fenceTo epoch k).u = g.u
  | 0 => rfl
  | k + 1 => by
    have ih := Gp.fenceTo_u g epoch k
    unfold Gp.fenceTo
    split
    · exact ih
    · exact ih
theorem Gp.fenceTo_ok {g : Gp} (h : g.ok) (epoch : Int) : ∀ k, k ≤ 3 → (g.fenceTo epoch k).ok
  | 0, _ => h
  | k + 1, hk => by
    have ih := Gp.fenceTo_ok h epoch k (by omega)
    unfold Gp.fenceTo
    split
    · refine ih.setR k ?_
      rw [Rp.fence_len]
      have hl : k < (g.fenceTo epoch k).r.length := by rw [ih.r3]; omega
      simp only [List.getD_eq_getElem?_getD, List.getElem?_eq_getElem hl, Option.getD_some]
      exact ih.c8 _ (List.getElem_mem hl)
    · exact ih
theorem Gp.fence_ok {g : Gp} (h : g.ok) (epoch : Int) : (g.fence epoch).ok := by
  unfold Gp.fence; split
  · exact Gp.fenceTo_ok h epoch 3 (by omega)
  · exact h

set_option maxRecDepth 100000 in
set_option maxHeartbeats 2000000 in
theorem gfence_any (g : Gp) (epoch : Int) (w : World) (hg : g.ok) (he : -4611686018427387904 ≤ epoch ∧ epoch ≤ 4611686018427387904) :
    Calls Try.prog 27 #[.agg g.arr, .int .i64 epoch] w fun e w' => e = .returned (.tuple #[.agg (g.fence epoch).arr, .bool (decide (2 ≤ ((g.fence epoch).mem epoch).length))]) ∧ Below w.heap.size w w' := by
  have OK := Lib.hid hg
  have Z := Lib.hid (Gp.size hg)
  have q1 : IntKind.i64.wrap (epoch - 1) = epoch - 1 := IntWalk.i64_in _ (by omega)
  clear hg
  go_enter Try.func27, Try.ntmps27
  go_upto_region 1 with fail
  obtain ⟨w1, hw1⟩ : ∃ w1, w1 = (w.alloc (.cells g.arr 40)).alloc (.cells Gp.zero.arr 40) := ⟨_, rfl⟩
  rw [← gp_zero_arr] at hw1
  rw [← hw1]
  rw [gp_zero_arr] at hw1
  have F1 := Lib.hid (show GF w g w1 from hw1 ▸ ⟨(bal w _).alloc (by simp) _, OK.out, heap_alloc2_old w _ _, heap_alloc2_new w _ _⟩)
  clear hw1
  go_wp2_with ((with_reducible refine ld_row1 rfl 40 _ rfl ?_); refine ⟨w.heap.size, _, g.arr, _, rfl, F1.out.hG, gp_row.1, rfl, by rw [gp_row.2, Z.out], ?_⟩)
  refine (members_any g _ _ OK.out).mono ?_
  rintro e w2 ⟨a2, c2, rfl, -, b2⟩
  have F2 := Lib.hid (F1.out.over b2)
  obtain ⟨m, hm⟩ : ∃ m, (g.mem (epoch - 1)).length = m := ⟨_, rfl⟩
  rw [hm]
  have HM := Lib.hid hm
  clear hm b2 F1
  obtain ⟨B, hB⟩ : ∃ B, decide ((2 : Int) ≤ (m : Int)) = B := ⟨_, rfl⟩
  have HB2 := Lib.hid hB
  go_upto_if 12 with fail
  clear hB
  go_cut [12] (fun _ wx => GF w (g.fence epoch) wx)
  case first =>
    cases B
    · have HF := Lib.hid (show g.fence epoch = g from if_neg (by rw [HM.out]; have := HB2.out; simp at this; omega))
      go_wp2
      go_meet
      rw [HF.out]
      exact F2.out
    · have HF := Lib.hid (show g.fence epoch = g.fenceTo epoch 3 from if_pos (by rw [HM.out]; have := HB2.out; simp at this; omega))
      go_wp2
      go_loopw [6, 13] (fun _ i wr => ∃ k : Nat, k ≤ 3 ∧ i = .int .i64 k ∧ GF w (g.fenceTo epoch k) wr) (fun _ i _ => 3 - (intOf i).toNat)
      case atStart => exact ⟨0, by omega, rfl, F2.out⟩
      case round =>
        obtain ⟨k, hk, rfl, gf⟩ := hrel
        obtain ⟨h, hh⟩ : ∃ h, g.fenceTo epoch k = h := ⟨_, rfl⟩
        rw [hh] at gf
        have HU := Lib.hid (show h.u = g.u from hh ▸ g.fenceTo_u epoch k)
        have HS := Lib.hid (show g.fenceTo epoch (k + 1) = if g.u.getD k false then h.setR k ((h.r.getD k Rp.zero).fence epoch) else h from by rw [← hh]; rfl)
        have GFH := Lib.hid gf
        have HH := Lib.hid hh
        clear gf hh F2
        by_cases hk3 : k < 3
        · have hkr : k < h.r.length := by rw [GFH.out.ok.r3]; exact hk3
          have hku : k < h.u.length := by rw [GFH.out.ok.u3]; exact hk3
          obtain ⟨u0, -⟩ := gp_up GFH.out.hG GFH.out.ok hku
          obtain ⟨U, hU⟩ : ∃ U, h.u[k] = U := ⟨_, rfl⟩
          rw [hU] at u0
          have HUU := Lib.hid (show g.u.getD k false = U from by rw [← HU.out, ← hU]; simp [hku])
          obtain ⟨R, hR⟩ : ∃ R, h.r[k] = R := ⟨_, rfl⟩
          have RG := Lib.hid (show wr.rangeAt w.heap.size (k * 25) R.arr.toList from hR ▸ (gp_range GFH.out.hG GFH.out.ok hkr).1)
          have R8 := Lib.hid (show R.cells.length = 8 from hR ▸ GFH.out.ok.c8 _ (List.getElem_mem hkr))
          have HRR := Lib.hid (show h.r.getD k Rp.zero = R from by rw [← hR]; simp [hkr])
          clear hR hU hku hkr
          cases U
          · have HE := Lib.hid (show g.fenceTo epoch (k + 1) = h from by rw [HS.out, HUU.out]; rfl)
            go_wp2
            go_roundw
            case rel => exact ⟨k + 1, by omega, by go_num, by rw [HE.out]; exact GFH.out⟩
            case measure => simp [intOf]; omega
          · have HE := Lib.hid (show g.fenceTo epoch (k + 1) = h.setR k (R.fence epoch) from by rw [HS.out, HUU.out, HRR.out]; rfl)
            have ZR := Lib.hid (Rp.size R8.out)
            go_wp2_with ((with_reducible refine ld_mid1 rfl 26 _ rfl ?_); refine ⟨w.heap.size, k * 25, R.arr, _, rfl, RG.out, rp_row.1, rfl, by rw [rp_row.2.1, ZR.out], ?_⟩)
            refine (fence_any R epoch _ R8.out he).mono ?_
            rintro e w3 ⟨rfl, b3⟩
            obtain ⟨Y, hY⟩ : ∃ Y, R.fence epoch = Y := ⟨_, rfl⟩
            have Y8 := Lib.hid (show Y.cells.length = 8 from by rw [← hY, Rp.fence_len]; exact R8.out)
            rw [hY] at HE ⊢
            have F3 := Lib.hid (GFH.out.over b3)
            have ZY := Lib.hid (Rp.size Y8.out)
            have TH := Lib.hid (show w3.there w.heap.size (k * 25) Y.arr.size from by rw [ZY.out]; exact (gp_range F3.out.hG F3.out.ok (by rw [F3.out.ok.r3]; exact hk3)).2)
            have F4 := Lib.hid (F3.out.setR hk3 Y8.out)
            clear hY b3 u0
            go_wp2_with ((with_reducible refine st_mid1 rfl 26 _ _ rfl ?_); refine ⟨w.heap.size, k * 25, Y.arr, rfl, rfl, TH.out, by rw [rp_row.2.1, ZY.out], Rp.one _, ?_⟩)
            go_roundw
            case rel => exact ⟨k + 1, by omega, by go_num, by rw [HE.out]; exact F4.out⟩
            case measure => simp [intOf]; omega
        · obtain rfl : k = 3 := by omega
          go_wp2
          go_meet
          rw [HF.out, HH.out]
          exact GFH.out
  case rest =>
    obtain ⟨Y, hY⟩ : ∃ Y, g.fence epoch = Y := ⟨_, rfl⟩
    rw [hY] at hcut
    have FC := Lib.hid hcut
    have HY := Lib.hid hY
    have ZY := Lib.hid (Gp.size hcut.ok)
    clear hcut F2 hY
    go_wp2_with fail
    obtain ⟨S, hS⟩ : ∃ S : World → Prop, S = fun w' => w'.heap[w.heap.size]? = some (.cells Y.arr 40 (0, 0)) := ⟨_, rfl⟩
    have S1 : ∀ w', S w' → w'.heap[w.heap.size]? = some (.cells Y.arr 40 (0, 0)) := fun w' h => by rw [hS] at h; exact h
    have S2 : ∀ w', w'.heap[w.heap.size]? = some (.cells Y.arr 40 (0, 0)) → S w' := fun w' h => by rw [hS]; exact h
    clear hS
    refine wp_region_held_drew (S := S) (by kernel_rfl) (S2 _ FC.out.hG) (fun hHeld => ?_)
    refine wpAnyH_take (i := 0) (oi := _) (v := .agg Y.arr) rfl (by kernel_rfl) (by kernel_rfl) (by kernel_rfl) (fun _ _ _ h => h) (yieldsIf_load_row (by rfl) 40 _ rfl w.heap.size rfl 40 Y.arr (0, 0) _ S1 gp_row.1 rfl (by rw [gp_row.2, ZY.out])) hHeld ?_
    simp only [Act.put, List.getElem_toArray, List.getElem_cons_zero, List.setIfInBounds_toArray, List.set_cons_zero, List.set_cons_succ]
    refine wpAnyH_take (i := 1) (oi := _) (v := .agg Y.arr) rfl (by kernel_rfl) (by kernel_rfl) (by kernel_rfl) (fun _ _ _ h => h) (yieldsIf_load_row (by rfl) 40 _ rfl w.heap.size rfl 40 Y.arr (0, 0) _ S1 gp_row.1 rfl (by rw [gp_row.2, ZY.out])) hHeld ?_
    simp only [Act.put, List.getElem_toArray, List.getElem_cons_zero, List.getElem_cons_succ, List.setIfInBounds_toArray, List.set_cons_zero, List.set_cons_succ]
    refine wpAnyH_take (i := 2) (oi := _) (v := .int .i64 epoch) rfl (by kernel_rfl) (by kernel_rfl) (by kernel_rfl) (fun _ _ _ h => h) (Or.inl ⟨by rfl, fun w' hSw => by go_simp⟩) hHeld ?_
    simp only [Act.put, List.getElem_toArray, List.getElem_cons_zero, List.getElem_cons_succ, List.setIfInBounds_toArray, List.set_cons_zero, List.set_cons_succ]
    refine wpAnyH_ready (rs := [3]) (by kernel_rfl) (by simp) ?_
    have FD := Lib.hid (show GF w Y wc.drew from FC.out.over (Below.refl _ _).drew)
    clear FC
    refine AllReadyH.cons (o := _) rfl (fun K hK => ?_) AllReadyH.nil
    · go_simp
      refine (members_any Y epoch _ FD.out.ok).mono ?_
      rintro e w7 ⟨a7, c7, rfl, -, b7⟩
      have F7 := Lib.hid (FD.out.over b7)
      obtain ⟨n, hn⟩ : ∃ n, (Y.mem epoch).length = n := ⟨_, rfl⟩
      rw [hn]
      have HN := Lib.hid hn
      clear hn b7 FD
      refine hK.out _ _ (S2 _ F7.out.hG) (fun hHeld2 => ?_)
      clear hK K
      refine wpAnyH_take (i := 4) (oi := _) (v := .int .i64 n) rfl (by kernel_rfl) (by kernel_rfl) (by kernel_rfl) (fun _ _ _ h => h) (Or.inl ⟨by rfl, fun w' hSw => by go_simp⟩) hHeld2 ?_
      simp only [Act.put, List.getElem_toArray, List.getElem_cons_zero, List.getElem_cons_succ, List.setIfInBounds_toArray, List.set_cons_zero, List.set_cons_succ]
      refine wpAnyH_take (i := 5) (oi := _) (v := .bool (decide ((2 : Int) ≤ (n : Int)))) rfl (by kernel_rfl) (by kernel_rfl) (by kernel_rfl) (fun _ _ _ h => h) (Or.inl ⟨by rfl, fun w' hSw => by go_simp⟩) hHeld2 ?_
      simp only [Act.put, List.getElem_toArray, List.getElem_cons_zero, List.getElem_cons_succ, List.setIfInBounds_toArray, List.set_cons_zero, List.set_cons_succ]
      refine wpAnyH_ready (rs := [6]) (by kernel_rfl) (by simp) ?_
      refine AllReadyH.cons (o := _) rfl (fun K hK => ?_) AllReadyH.nil
      refine step_store_row rfl 40 _ _ rfl (w.heap.size + 1) Y.arr rfl rfl 40 Gp.zero.arr F7.out.hZ (by rw [gp_row.2, ZY.out]) (by rw [ZY.out]; rfl) (Gp.one _) ?_
      refine hK.out _ _ (S2 _ ((setRow_other _ _ _ _ (by omega)).trans F7.out.hG)) (fun hHeld3 => ?_)
      clear hK K
      simp only [Act.put, List.getElem_toArray, List.getElem_cons_zero, List.getElem_cons_succ]
      refine wpAnyH_ready (rs := [7]) (by kernel_rfl) (by simp) ?_
      refine AllReadyH.cons (o := _) rfl (fun K hK => ?_) AllReadyH.nil
      go_simp
      refine hK.out _ _ hHeld3 (fun hHeld4 => ?_)
      clear hK K
      refine wpAnyH_done (by kernel_rfl) ?_ _
      go_wp2
      refine bodyPost_ret (v := .tuple #[.agg Y.arr, .bool (decide ((2 : Int) ≤ (n : Int)))]) (results_row_tmp Try.results27 _ _ (w.heap.size + 1) 40 Y.arr (0, 0) _ _ rfl rfl (setRow_heap _ _ _ _ _ _ F7.out.hZ) gp_row.1 rfl (by rw [gp_row.2, ZY.out])) rfl ?_
      exact ⟨by rw [HY.out, HN.out]; simp; omega, F7.out.done _⟩
end Go.Proofs.Ytclhmpknkinjcaa
