/-
  Contract: the document's (*Group).Deliver.
-/
import Derived.Test.YtclhmpknkinjcaaRGSync
namespace Go.Proofs.Ytclhmpknkinjcaa
open Go.RowKit Go.Sort

theorem deliver_no {g : Gp} (hg : g.ok) {tt at' : Nat} (ht : tt < 3) {c : Cel} (h : (g.r.getD tt Rp.zero).admitC at' c = g.r.getD tt Rp.zero) : g.deliver tt at' c = g := by
  unfold Gp.deliver
  split
  · rw [h, setR_same (by rw [hg.r3]; exact ht)]
  · rfl

set_option maxRecDepth 100000 in
set_option maxHeartbeats 2000000 in
theorem rgdeliver_any (g : Gp) (tt at' : Nat) (c : Cel) (tag : Int) (G : Nat) (w : World) (hg : g.ok) (hto : tt < 3) (hat : at' < 8) (h : w.heap[G]? = some (.cells g.arr 55 (0, 0))) :
    Calls Try.prog 34 #[.pointer (some ⟨G, 0, none⟩), .agg (msgC tt at' c tag)] w fun e w' => e = .returned (.bool (g.delivers tt c)) ∧ PG w G (g.deliver tt at' c) w' := by
  have F0 := Lib.hid (show PG w G g w from ⟨Keeps.refl _ _, hg, h⟩)
  have hlt : G < w.heap.size := F0.out.lt
  have hti : (tt : Int) < 3 := by omega
  have hai : (at' : Int) < 8 := by omega
  have htr : tt < g.r.length := by rw [hg.r3]; exact hto
  have htu : tt < g.u.length := by rw [hg.u3]; exact hto
  have hkc : at' < g.r[tt].cells.length := by rw [hg.c8 _ (List.getElem_mem htr)]; exact hat
  clear hg h
  go_enter Try.func34, Try.ntmps34
  go_upto_region 1 with fail
  obtain ⟨w1, hw1⟩ : ∃ w1, w1 = w.alloc (.cells (msgC tt at' c tag) 66) := ⟨_, rfl⟩
  have hw1' := hw1
  rw [← hw1]
  clear hw1
  have F1 := Lib.hid (show PG w G g w1 from hw1' ▸ F0.out.over (bal w _))
  have HMS := Lib.hid (show w1.heap[w.heap.size]? = some (.cells (msgC tt at' c tag) 66 (0, 0)) from hw1' ▸ heap_alloc_new w _)
  clear hw1' F0
  obtain ⟨m0, m1, m2, m3, m4⟩ := msg_box HMS.out
  obtain ⟨u0, -⟩ := gp_up F1.out.hG F1.out.ok htu
  obtain ⟨f0, -⟩ := gp_floor F1.out.hG F1.out.ok htr
  obtain ⟨⟨g0, g1, g2⟩, s0, s1, s2⟩ := gp_cellA F1.out.hG F1.out.ok htr hkc
  obtain ⟨U, hU⟩ : ∃ U, g.u[tt] = U := ⟨_, rfl⟩
  obtain ⟨F, hF⟩ : ∃ F, g.r[tt].floor = F := ⟨_, rfl⟩
  obtain ⟨d, hd⟩ : ∃ d, g.r[tt].cells[at'] = d := ⟨_, rfl⟩
  rw [hU] at u0
  rw [hF] at f0
  rw [hd] at g0 g1 g2
  have HD := Lib.hid (show g.delivers tt c = (U && decide (c.e = F)) from by unfold Gp.delivers; rw [← hU, ← hF]; simp [htr, htu])
  have HR := Lib.hid (show g.r.getD tt Rp.zero = g.r[tt] ∧ (g.r.getD tt Rp.zero).floor = F ∧ (g.r.getD tt Rp.zero).get at' = d ∧ g.u.getD tt false = U from by
    have e : g.r.getD tt Rp.zero = g.r[tt] := by simp [htr]
    refine ⟨e, by rw [e, hF], by rw [e, Rp.get_at hkc, hd], by rw [← hU]; simp [htu]⟩)
  have hq := bregrown (Below.refl w1.heap.size w1)
  have hv0 : w.heap.size < w1.heap.size := (Array.getElem?_eq_some_iff.1 HMS.out).1
  have hv1 : G < w1.heap.size := by omega
  clear hU hF hd
  go_cut [5] (fun v wx => v = .pointer (some ⟨G, tt * 25, none⟩) ∧ Below w1.heap.size w1 wx)
  case first =>
    refine wp_region_quiet_below (by kernel_rfl) (by kernel_rfl) ?_
    repeat (go_big_quiet_step (fail))
    refine wpQuiet_nil ?_
    rintro w' ⟨⟨dq, osq⟩, rfl⟩
    go_wp2_with fail
    go_meet
    exact ⟨rfl, below_regrown _ dq osq⟩
  case rest =>
  obtain ⟨rfl, b2⟩ := hcut
  obtain ⟨w2, rfl⟩ : ∃ w2 : World, w2 = wc := ⟨_, rfl⟩
  have F2 := Lib.hid (F1.out.over b2)
  have M2 := Lib.hid ((b2.block _ hv0).trans HMS.out)
  clear b2 hq m0 m1 m2 m3 m4 u0 f0 g0 g1 g2 s0 s1 s2 hv0 hv1 F1 HMS
  obtain ⟨B, hB⟩ : ∃ B, (!U || decide (F ≠ c.e)) = B := ⟨_, rfl⟩
  have HB := Lib.hid hB
  go_upto_region 2 with fail
  go_cut [30] (fun v wx => v = .bool B ∧ Below w2.heap.size w2 wx)
  case first =>
    obtain ⟨m0, m1, m2, m3, m4⟩ := msg_box M2.out
    obtain ⟨u0, -⟩ := gp_up F2.out.hG F2.out.ok htu
    obtain ⟨f0, -⟩ := gp_floor F2.out.hG F2.out.ok htr
    obtain ⟨⟨g0, g1, g2⟩, s0, s1, s2⟩ := gp_cellA F2.out.hG F2.out.ok htr hkc
    have e1 := HR.out
    rw [e1.1] at e1
    obtain ⟨-, e2, e3, e4⟩ := e1
    rw [e2] at f0
    have u0' : w2.cell? ⟨G, 75 + tt, none⟩ = some (.bool U) := by
      rw [u0, ← e4]; simp [htu]
    have hq := bregrown (Below.refl w2.heap.size w2)
    have hv0 : w.heap.size < w2.heap.size := (Array.getElem?_eq_some_iff.1 M2.out).1
    have hv1 : G < w2.heap.size := F2.out.lt
    clear g0 g1 g2 s0 s1 s2 u0 e2 e3 e4 htu hkc
    cases U
    · obtain rfl : true = B := HB.out
      refine wp_region_quiet_below (by kernel_rfl) (by kernel_rfl) ?_
      repeat (go_big_quiet_step (fail))
      refine wpQuiet_nil ?_
      rintro w' ⟨⟨dq, osq⟩, rfl⟩
      go_wp2_with fail
      go_meet
      exact ⟨rfl, below_regrown _ dq osq⟩
    · have eb : (F != c.e) = B := by rw [← HB.out]; by_cases h : F = c.e <;> simp [h]
      refine wp_region_quiet_below (by kernel_rfl) (by kernel_rfl) ?_
      repeat (go_big_quiet_step (fail))
      refine wpQuiet_nil ?_
      rintro w' ⟨⟨dq, osq⟩, rfl⟩
      go_wp2_with fail
      go_meet
      exact ⟨rfl, below_regrown _ dq osq⟩
  case rest =>
  obtain ⟨rfl, b3⟩ := hcut
  obtain ⟨w3, rfl⟩ : ∃ w3 : World, w3 = wc := ⟨_, rfl⟩
  have F3 := Lib.hid (F2.out.over b3)
  have M3 := Lib.hid ((b3.block _ (Array.getElem?_eq_some_iff.1 M2.out).1).trans M2.out)
  clear b3 F2 M2 hB
  cases B
  rotate_left 1
  · have HN := Lib.hid (show g.deliver tt at' c = g ∧ g.delivers tt c = false from by
      have hb := HB.out
      refine ⟨?_, by rw [HD.out]; by_cases h : c.e = F <;> simp_all⟩
      cases U
      · unfold Gp.deliver; rw [HR.out.2.2.2]; rfl
      · have : F ≠ c.e := by simpa using hb
        exact deliver_no F3.out.ok hto (if_neg (fun h => this (by rw [h.1, HR.out.2.1]))))
    go_wp2
    go_ret
    exact ⟨by rw [HN.out.2]; rfl, by rw [HN.out.1]; exact F3.out⟩
  have HUF := Lib.hid (show U = true ∧ F = c.e from by
    have hb := HB.out
    simpa using hb)
  have HDT := Lib.hid (show g.delivers tt c = true from by rw [HD.out, HUF.out.1, HUF.out.2]; simp)
  obtain ⟨X, hX⟩ : ∃ X, newerB c d = X := ⟨_, rfl⟩
  have RN := Lib.hid (fun (w : World) => rnewer_x hX w)
  have HX := Lib.hid (show g.deliver tt at' c = if X then g.setR tt ⟨g.r[tt].floor, g.r[tt].cells.set at' c⟩ else g from by
    cases X
    · exact deliver_no F3.out.ok hto (if_neg (fun h => by have := h.2; rw [HR.out.2.2.1, hX] at this; cases this))
    · unfold Gp.deliver
      rw [HR.out.2.2.2, HUF.out.1]
      have : (g.r.getD tt Rp.zero).admitC at' c = ⟨g.r[tt].floor, g.r[tt].cells.set at' c⟩ := by
        unfold Rp.admitC
        rw [if_pos ⟨by rw [HR.out.2.1, HUF.out.2], by rw [HR.out.2.2.1, hX]⟩, HR.out.1]
      rw [this])
  clear hX HB HD
  obtain ⟨m0, m1, m2, m3, m4⟩ := msg_box M3.out
  obtain ⟨⟨g0, g1, g2⟩, s0, s1, s2⟩ := gp_cellA F3.out.hG F3.out.ok htr hkc
  have e1 := HR.out
  rw [e1.1] at e1
  obtain ⟨-, -, e3, -⟩ := e1
  rw [Rp.get_at hkc] at e3
  rw [e3] at g0 g1 g2
  have hq := bregrown (Below.refl w3.heap.size w3)
  have hv0 : w.heap.size < w3.heap.size := (Array.getElem?_eq_some_iff.1 M3.out).1
  have hv1 : G < w3.heap.size := F3.out.lt
  clear e3 s0 s1 s2
  go_upto_region 4 with fail
  go_cut [6] (fun v wx => v = .bool X ∧ Below w3.heap.size w3 wx)
  case first =>
    refine wp_region_quiet_below (by kernel_rfl) (by kernel_rfl) ?_
    repeat (go_big_quiet_step (exact Calls.regrown_of (RN.out _)))
    refine wpQuiet_nil ?_
    rintro w' ⟨⟨dq, osq⟩, rfl⟩
    go_wp2_with fail
    go_meet
    exact ⟨rfl, below_regrown _ dq osq⟩
  case rest =>
  obtain ⟨rfl, b4⟩ := hcut
  obtain ⟨w4, rfl⟩ : ∃ w4 : World, w4 = wc := ⟨_, rfl⟩
  have F4 := Lib.hid (F3.out.over b4)
  have M4 := Lib.hid ((b4.block _ hv0).trans M3.out)
  clear b4 hq m0 m1 m2 m3 m4 g0 g1 g2 hv0 hv1 F3 M3
  cases X
  · go_wp2
    go_ret
    exact ⟨by rw [HDT.out]; rfl, by rw [HX.out]; exact F4.out⟩
  · obtain ⟨m0, m1, m2, m3, m4⟩ := msg_box M4.out
    obtain ⟨⟨g0, g1, g2⟩, s0, s1, s2⟩ := gp_cellA F4.out.hG F4.out.ok htr hkc
    have e : g.put1 at' c (tt : Int) = g.setR tt ⟨g.r[tt].floor, g.r[tt].cells.set at' c⟩ := by simp [Gp.put1, htr]
    have FS := Lib.hid (F4.out.setC c (i := tt) (k := at') hto hat)
    rw [e] at FS
    clear e
    go_wp2
    go_region
    go_wp2
    go_ret
    exact ⟨by rw [HDT.out]; rfl, by rw [HX.out]; exact FS.out.1.over (Below.refl _ _).drew⟩
end Go.Proofs.Ytclhmpknkinjcaa
