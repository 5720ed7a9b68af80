/-
  Contract: (group.Group).Deliver.
-/
import Derived.Test.YtclhmpknkinjcaaGFence
namespace Go.Proofs.Ytclhmpknkinjcaa
open Go.RowKit Go.Sort

theorem yieldsIf_load_midA {P : Program} {ops : Array Oper} {S : World → Prop} {op : Oper} {a : Act} (hw : Region.wanted op (yielded ops a.tmps) = true) (ty : TypeId) (x : Operand) (ho : op.op = .load ty x)
    (b o : Nat) (hx : a.eval x = .pointer (some ⟨b, o, none⟩)) (cs : Array Value) (d : TypeDesc) (hS : ∀ w, S w → w.rangeAt b o cs.toList)
    (hu : P.underlying ty = some d) (hd : d.isRow = true) (hi : (P.info? ty).map (·.size) = some cs.size) : YieldsIf P ops S op (.agg cs) a := by
  have := yieldsIf_load_mid (ops := ops) hw ty x ho b o hx cs.toList d hS hu hd (by simpa using hi)
  simpa using this
def msgC (tt at' : Int) (c : Cel) (tag : Int) : Array Value := #[.int .i64 tt, .int .i64 at', .int .i64 c.e, .int .i64 c.n, .string c.d, .int .i64 tag]
theorem msg_box {w : World} {b : Nat} {tt at' tag : Int} {c : Cel} {T : TypeId} (h : w.heap[b]? = some (.cells (msgC tt at' c tag) T (0, 0))) : w.cell? ⟨b, 0, none⟩ = some (.int .i64 tt) ∧ w.cell? ⟨b, 1, none⟩ = some (.int .i64 at') ∧ w.cell? ⟨b, 2, none⟩ = some (.int .i64 c.e) ∧ w.cell? ⟨b, 3, none⟩ = some (.int .i64 c.n) ∧ w.cell? ⟨b, 4, none⟩ = some (.string c.d) := by
  unfold msgC at h
  simp [World.cell?, h]
/-- what is delivered -/
def Gp.deliver (g : Gp) (tt at' : Nat) (c : Cel) : Gp := if g.u.getD tt false then g.setR tt ((g.r.getD tt Rp.zero).admitC at' c) else g
def Gp.delivers (g : Gp) (tt : Nat) (c : Cel) : Bool := g.u.getD tt false && decide (c.e = (g.r.getD tt Rp.zero).floor)
theorem Gp.getR {g : Gp} (h : g.ok) {i : Nat} (hi : i < 3) : (g.r.getD i Rp.zero).cells.length = 8 := by
  have hl : i < g.r.length := by rw [h.r3]; exact hi
  simp only [List.getD_eq_getElem?_getD, List.getElem?_eq_getElem hl, Option.getD_some]
  exact h.c8 _ (List.getElem_mem hl)
theorem Gp.deliver_ok {g : Gp} (h : g.ok) {tt at' : Nat} (ht : tt < 3) (c : Cel) : (g.deliver tt at' c).ok := by
  unfold Gp.deliver
  split
  · exact h.setR tt (by rw [Rp.admit_len]; exact Gp.getR h ht)
  · exact h

/-- a group and a message in their boxes, the result's place behind them -/
structure DF (w : World) (h : Gp) (cs : Array Value) (wx : World) : Prop where
  below : Below w.heap.size w wx
  ok : h.ok
  hG : wx.heap[w.heap.size]? = some (.cells h.arr 40 (0, 0))
  hM : wx.heap[w.heap.size + 1]? = some (.cells cs 66 (0, 0))
  hZ : wx.heap[w.heap.size + 1 + 1]? = some (.cells Gp.zero.arr 40 (0, 0))
theorem DF.lt {w wx : World} {h : Gp} {cs : Array Value} (f : DF w h cs wx) : w.heap.size + 1 + 1 < wx.heap.size := (Array.getElem?_eq_some_iff.1 f.hZ).1
theorem DF.over {w wx w' : World} {h : Gp} {cs : Array Value} (f : DF w h cs wx) (b : Below wx.heap.size wx w') : DF w h cs w' :=
  ⟨f.below.trans (b.mono f.below.size), f.ok, (b.block _ (by have := f.lt; omega)).trans f.hG, (b.block _ (by have := f.lt; omega)).trans f.hM, (b.block _ f.lt).trans f.hZ⟩
theorem DF.setR {w wx : World} {h : Gp} {cs : Array Value} (f : DF w h cs wx) {i : Nat} (hi : i < 3) {r : Rp} (hr : r.cells.length = 8) : DF w (h.setR i r) cs (wx.setCells w.heap.size (i * 25) r.arr.toList) := by
  have kp := Keeps.setCells (S := (· = w.heap.size)) rfl r.arr.toList (i * 25) wx wx (Keeps.refl _ _)
  have := f.lt
  exact ⟨f.below.trans (kp.below f.below.size (fun m hm => by omega)), f.ok.setR i hr, gp_setR f.hG f.ok (by rw [f.ok.r3]; exact hi) hr, (kp.block _ (by omega) (by omega)).trans f.hM, (kp.block _ (by omega) f.lt).trans f.hZ⟩
theorem DF.done {w wx : World} {h : Gp} {cs : Array Value} (f : DF w h cs wx) (cs' : Array Value) : Below w.heap.size w (wx.setRow (w.heap.size + 1 + 1) cs') :=
  f.below.trans (((Keeps.refl (· = w.heap.size + 1 + 1) wx).setRow rfl _).below f.below.size (fun m hm => by omega))
theorem DF.other {w wx : World} {h : Gp} {cs : Array Value} (f : DF w h cs wx) {V : Nat} (hV : w.heap.size + 1 + 1 < V) (cs' : Array Value) : DF w h cs (wx.setRow V cs') := by
  have kp := (Keeps.refl (· = V) wx).setRow (g := V) rfl cs'
  have := f.lt
  exact ⟨f.below.trans (kp.below f.below.size (fun m hm => by omega)), f.ok, (kp.block _ (by omega) (by omega)).trans f.hG, (kp.block _ (by omega) (by omega)).trans f.hM, (kp.block _ (by omega) f.lt).trans f.hZ⟩

set_option maxRecDepth 100000 in
set_option maxHeartbeats 2000000 in
theorem gdeliver_any (g : Gp) (tt at' : Nat) (c : Cel) (tag : Int) (w : World) (hg : g.ok) (hto : tt < 3) (hat : at' < 8) :
    Calls Try.prog 33 #[.agg g.arr, .agg #[.int .i64 tt, .int .i64 at', .int .i64 c.e, .int .i64 c.n, .string c.d, .int .i64 tag]] w fun e w' => e = .returned (.tuple #[.agg (g.deliver tt at' c).arr, .bool (g.delivers tt c)]) ∧ Below w.heap.size w w' := by
  have OK := Lib.hid hg
  have Z := Lib.hid (Gp.size hg)
  have hti : decide ((tt : Int) < 3) = true := by simp; omega
  have htr : tt < g.r.length := by rw [hg.r3]; exact hto
  have htu : tt < g.u.length := by rw [hg.u3]; exact hto
  clear hg
  go_enter Try.func33, Try.ntmps33
  go_upto_region 1 with fail
  obtain ⟨w1, hw1⟩ : ∃ w1, w1 = ((w.alloc (.cells g.arr 40)).alloc (.cells (msgC tt at' c tag) 66)).alloc (.cells Gp.zero.arr 40) := ⟨_, rfl⟩
  have hw1' := hw1
  rw [← gp_zero_arr] at hw1
  unfold msgC at hw1
  rw [← hw1]
  clear hw1
  have F1 := Lib.hid (show DF w g (msgC tt at' c tag) w1 from hw1' ▸ ⟨bal3a w _ _ _, OK.out, (heap3 w _ _ _).1, (heap3 w _ _ _).2.1, (heap3 w _ _ _).2.2⟩)
  clear hw1'
  obtain ⟨m0, m1, m2, m3, m4⟩ := msg_box F1.out.hM
  obtain ⟨u0, -⟩ := gp_up F1.out.hG F1.out.ok htu
  obtain ⟨U, hU⟩ : ∃ U, g.u[tt] = U := ⟨_, rfl⟩
  rw [hU] at u0
  obtain ⟨R, hR⟩ : ∃ R, g.r[tt] = R := ⟨_, rfl⟩
  have R8 := Lib.hid (show R.cells.length = 8 from hR ▸ OK.out.c8 _ (List.getElem_mem htr))
  have RG := Lib.hid (show ∀ w' : World, w'.heap[w.heap.size]? = some (.cells g.arr 40 (0, 0)) → w'.rangeAt w.heap.size (tt * 25) R.arr.toList from fun w' h => hR ▸ (gp_range h OK.out htr).1)
  have HD := Lib.hid (show g.deliver tt at' c = (if U then g.setR tt (R.admitC at' c) else g) ∧ g.delivers tt c = (U && decide (c.e = R.floor)) from by
    unfold Gp.deliver Gp.delivers
    rw [← hU, ← hR]
    simp [htr, htu])
  clear hU hR htr htu
  cases U
  · go_wp2_with (first | ((with_reducible refine ld_row1 rfl 40 _ rfl ?_); refine ⟨w.heap.size, _, g.arr, _, rfl, F1.out.hG, gp_row.1, rfl, by rw [gp_row.2, Z.out], ?_⟩) | ((with_reducible refine st_row1 rfl 40 _ _ rfl ?_); refine ⟨w.heap.size + 1 + 1, _, g.arr, _, rfl, rfl, F1.out.hZ, by rw [gp_row.2, Z.out], by rw [Z.out]; rfl, Gp.one _, ?_⟩))
    refine bodyPost_ret (v := .tuple #[.agg g.arr, .bool false]) (results_row_tmp Try.results33 _ _ (w.heap.size + 1 + 1) 40 g.arr (0, 0) _ _ rfl rfl (setRow_heap _ _ _ _ _ _ F1.out.hZ) gp_row.1 rfl (by rw [gp_row.2, Z.out])) rfl ?_
    exact ⟨by rw [HD.out.1, HD.out.2]; rfl, F1.out.done _⟩
  · go_upto_region 3 with fail
    obtain ⟨Y, hY⟩ : ∃ Y, R.admitC at' c = Y := ⟨_, rfl⟩
    obtain ⟨X, hX⟩ : ∃ X, decide (c.e = R.floor) = X := ⟨_, rfl⟩
    have Y8 := Lib.hid (show Y.cells.length = 8 from by rw [← hY, Rp.admit_len]; exact R8.out)
    have HE := Lib.hid (show g.deliver tt at' c = g.setR tt Y ∧ g.delivers tt c = X from by rw [HD.out.1, HD.out.2, hY, hX]; exact ⟨rfl, rfl⟩)
    have AD := Lib.hid (fun (w : World) => admit_x R at' at' rfl c w R8.out hat Y hY X hX)
    have ZR := Lib.hid (Rp.size R8.out)
    have ZY := Lib.hid (Rp.size Y8.out)
    clear hY hX u0
    go_cut [6, 7] (fun v6 v7 wx => ∃ V, v6 = .pointer (some ⟨V, 0, none⟩) ∧ v7 = .bool X ∧ w.heap.size + 1 + 1 < V ∧ wx.heap[V]? = some (.cells Y.arr 26 (0, 0)) ∧ DF w g (msgC tt at' c tag) wx)
    case first =>
      obtain ⟨S, hS⟩ : ∃ S : World → Prop, S = fun w' => DF w g (msgC tt at' c tag) w' := ⟨_, rfl⟩
      have S1 : ∀ w', S w' → w'.heap[w.heap.size]? = some (.cells g.arr 40 (0, 0)) := fun w' h => by rw [hS] at h; exact h.hG
      have S2 : ∀ w', S w' → w'.heap[w.heap.size + 1]? = some (.cells (msgC tt at' c tag) 66 (0, 0)) := fun w' h => by rw [hS] at h; exact h.hM
      have S3 : ∀ w', DF w g (msgC tt at' c tag) w' → S w' := fun w' h => by rw [hS]; exact h
      have S4 : ∀ w', S w' → DF w g (msgC tt at' c tag) w' := fun w' h => by rw [hS] at h; exact h
      clear hS m0 m1 m2 m3 m4
      refine wp_region_held_drew (S := S) (by kernel_rfl) (S3 _ (F1.out.over (Below.refl _ _).drew)) (fun hHeld => ?_)
      refine wpAnyH_take (i := 0) (oi := _) (v := .pointer (some ⟨w.heap.size + 1, 0, none⟩)) rfl (by kernel_rfl) (by kernel_rfl) (by kernel_rfl) (fun _ _ _ h => h) (Or.inl ⟨by rfl, fun w' hSw => by go_simp⟩) hHeld ?_
      simp only [Act.put, List.getElem_toArray, List.getElem_cons_zero, List.setIfInBounds_toArray, List.set_cons_zero, List.set_cons_succ]
      refine wpAnyH_take (i := 1) (oi := _) (v := .int .i64 tt) rfl (by kernel_rfl) (by kernel_rfl) (by kernel_rfl) (fun _ _ _ h => h) (Or.inl ⟨by rfl, fun w' hSw => by obtain ⟨m0, m1, m2, m3, m4⟩ := msg_box (S2 w' hSw); go_simp⟩) hHeld ?_
      simp only [Act.put, List.getElem_toArray, List.getElem_cons_zero, List.getElem_cons_succ, List.setIfInBounds_toArray, List.set_cons_zero, List.set_cons_succ]
      refine wpAnyH_take (i := 2) (oi := _) (v := .pointer (some ⟨w.heap.size, 0, none⟩)) rfl (by kernel_rfl) (by kernel_rfl) (by kernel_rfl) (fun _ _ _ h => h) (Or.inl ⟨by rfl, fun w' hSw => by go_simp⟩) hHeld ?_
      simp only [Act.put, List.getElem_toArray, List.getElem_cons_zero, List.getElem_cons_succ, List.setIfInBounds_toArray, List.set_cons_zero, List.set_cons_succ]
      refine wpAnyH_take (i := 3) (oi := _) (v := .pointer (some ⟨w.heap.size, tt * 25, none⟩)) rfl (by kernel_rfl) (by kernel_rfl) (by kernel_rfl) (fun _ _ _ h => h) (Or.inl ⟨by rfl, fun w' hSw => by go_simp; intro h; omega⟩) hHeld ?_
      simp only [Act.put, List.getElem_toArray, List.getElem_cons_zero, List.getElem_cons_succ, List.setIfInBounds_toArray, List.set_cons_zero, List.set_cons_succ]
      refine wpAnyH_take (i := 4) (oi := _) (v := .agg R.arr) rfl (by kernel_rfl) (by kernel_rfl) (by kernel_rfl) (fun _ _ _ h => h) (yieldsIf_load_midA (by rfl) 26 _ rfl w.heap.size (tt * 25) rfl R.arr _ (fun w' h => RG.out w' (S1 w' h)) rp_row.1 rfl (by rw [rp_row.2.1, ZR.out])) hHeld ?_
      simp only [Act.put, List.getElem_toArray, List.getElem_cons_zero, List.getElem_cons_succ, List.setIfInBounds_toArray, List.set_cons_zero, List.set_cons_succ]
      refine wpAnyH_take (i := 5) (oi := _) (v := .pointer (some ⟨w.heap.size + 1, 1, none⟩)) rfl (by kernel_rfl) (by kernel_rfl) (by kernel_rfl) (fun _ _ _ h => h) (Or.inl ⟨by rfl, fun w' hSw => by go_simp⟩) hHeld ?_
      simp only [Act.put, List.getElem_toArray, List.getElem_cons_zero, List.getElem_cons_succ, List.setIfInBounds_toArray, List.set_cons_zero, List.set_cons_succ]
      refine wpAnyH_take (i := 6) (oi := _) (v := .int .i64 at') rfl (by kernel_rfl) (by kernel_rfl) (by kernel_rfl) (fun _ _ _ h => h) (Or.inl ⟨by rfl, fun w' hSw => by obtain ⟨m0, m1, m2, m3, m4⟩ := msg_box (S2 w' hSw); go_simp⟩) hHeld ?_
      simp only [Act.put, List.getElem_toArray, List.getElem_cons_zero, List.getElem_cons_succ, List.setIfInBounds_toArray, List.set_cons_zero, List.set_cons_succ]
      refine wpAnyH_take (i := 7) (oi := _) (v := .pointer (some ⟨w.heap.size + 1, 2, none⟩)) rfl (by kernel_rfl) (by kernel_rfl) (by kernel_rfl) (fun _ _ _ h => h) (Or.inl ⟨by rfl, fun w' hSw => by go_simp⟩) hHeld ?_
      simp only [Act.put, List.getElem_toArray, List.getElem_cons_zero, List.getElem_cons_succ, List.setIfInBounds_toArray, List.set_cons_zero, List.set_cons_succ]
      refine wpAnyH_take (i := 8) (oi := _) (v := .agg #[.int .i64 c.e, .int .i64 c.n, .string c.d]) rfl (by kernel_rfl) (by kernel_rfl) (by kernel_rfl) (fun _ _ _ h => h) (Or.inl ⟨by rfl, fun w' hSw => by obtain ⟨m0, m1, m2, m3, m4⟩ := msg_box (S2 w' hSw); go_simp⟩) hHeld ?_
      simp only [Act.put, List.getElem_toArray, List.getElem_cons_zero, List.getElem_cons_succ, List.setIfInBounds_toArray, List.set_cons_zero, List.set_cons_succ]
      refine wpAnyH_ready (rs := [9, 13]) (by kernel_rfl) (by simp) ?_
      refine AllReadyH.cons (o := _) rfl (fun K hK => ?_) (AllReadyH.cons (o := _) rfl (fun K hK => ?_) AllReadyH.nil)
      · go_simp
        refine (AD.out _).mono ?_
        rintro e w7 ⟨rfl, b7⟩
        have F7 := Lib.hid ((S4 _ hHeld).over b7)
        have hz7 : w1.heap.size ≤ w7.heap.size := b7.size
        refine hK.out _ _ (S3 _ F7.out) (fun hHeld2 => ?_)
        clear hK K b7
        refine wpAnyH_take (i := 10) (oi := _) (v := .tuple #[.agg Y.arr, .bool X]) rfl (by kernel_rfl) (by kernel_rfl) (by kernel_rfl) (fun _ _ _ h => h) (Or.inl ⟨by rfl, fun w' hSw => by go_simp⟩) hHeld2 ?_
        simp only [Act.put, List.getElem_toArray, List.getElem_cons_zero, List.getElem_cons_succ, List.setIfInBounds_toArray, List.set_cons_zero, List.set_cons_succ]
        refine wpAnyH_take (i := 11) (oi := _) (v := .agg Y.arr) rfl (by kernel_rfl) (by kernel_rfl) (by kernel_rfl) (fun _ _ _ h => h) (Or.inl ⟨by rfl, fun w' hSw => by go_simp⟩) hHeld2 ?_
        simp only [Act.put, List.getElem_toArray, List.getElem_cons_zero, List.getElem_cons_succ, List.setIfInBounds_toArray, List.set_cons_zero, List.set_cons_succ]
        refine wpAnyH_take (i := 12) (oi := _) (v := .bool X) rfl (by kernel_rfl) (by kernel_rfl) (by kernel_rfl) (fun _ _ _ h => h) (Or.inl ⟨by rfl, fun w' hSw => by go_simp⟩) hHeld2 ?_
        simp only [Act.put, List.getElem_toArray, List.getElem_cons_zero, List.getElem_cons_succ, List.setIfInBounds_toArray, List.set_cons_zero, List.set_cons_succ]
        refine wpAnyH_ready (rs := [13]) (by kernel_rfl) (by simp) ?_
        refine AllReadyH.cons (o := _) rfl (fun K hK => ?_) AllReadyH.nil
        go_simp
        have HV := Lib.hid (show (w7.alloc (.cells Rp.zero.arr 26)).heap[w7.heap.size]? = some (.cells Rp.zero.arr 26 (0, 0)) from heap_alloc_new _ _)
        have F8 := Lib.hid (F7.out.over (bal w7 (.cells Rp.zero.arr 26)))
        obtain ⟨w8, hw8⟩ : ∃ w8, w8 = w7.alloc (.cells Rp.zero.arr 26) := ⟨_, rfl⟩
        rw [← hw8] at HV F8
        rw [rp_zero_arr] at hw8
        rw [← hw8]
        clear hw8
        refine hK.out _ _ (S3 _ F8.out) (fun hHeld3 => ?_)
        clear hK K
        refine wpAnyH_ready (rs := [14]) (by kernel_rfl) (by simp) ?_
        refine AllReadyH.cons (o := _) rfl (fun K hK => ?_) AllReadyH.nil
        refine step_store_row rfl 26 _ _ rfl w7.heap.size Y.arr rfl rfl 26 Rp.zero.arr HV.out (by rw [rp_row.2.1, ZY.out]) (by rw [ZY.out]; rfl) (Rp.one _) ?_
        refine hK.out _ _ (S3 _ (F8.out.other (by have := F7.out.lt; omega) Y.arr)) (fun hHeld4 => ?_)
        clear hK K
        simp only [Act.put, List.getElem_toArray, List.getElem_cons_zero, List.getElem_cons_succ]
        refine wpAnyH_ready (rs := [15]) (by kernel_rfl) (by simp) ?_
        refine AllReadyH.cons (o := _) rfl (fun K hK => ?_) AllReadyH.nil
        go_simp
        refine hK.out _ _ hHeld4 (fun hHeld5 => ?_)
        clear hK K
        refine wpAnyH_done (by kernel_rfl) ?_ _
        go_wp2_with fail
        go_meet
        exact ⟨w7.heap.size, rfl, rfl, by have := F7.out.lt; omega, setRow_heap _ _ _ _ _ _ HV.out, S4 _ hHeld5⟩
      · go_simp
        have HV := Lib.hid (show (w1.alloc (.cells Rp.zero.arr 26)).drew.heap[w1.heap.size]? = some (.cells Rp.zero.arr 26 (0, 0)) from heap_alloc_new _ _)
        have F2 := Lib.hid (show DF w g (msgC tt at' c tag) (w1.alloc (.cells Rp.zero.arr 26)).drew from F1.out.over (bal w1 (.cells Rp.zero.arr 26)).drew)
        have hV : w.heap.size + 1 + 1 < w1.heap.size := F1.out.lt
        obtain ⟨V, hVV⟩ : ∃ V, w1.heap.size = V := ⟨_, rfl⟩
        obtain ⟨w8, hw8⟩ : ∃ w8, w8 = (w1.alloc (.cells Rp.zero.arr 26)).drew := ⟨_, rfl⟩
        rw [← hw8] at HV F2
        rw [rp_zero_arr] at hw8
        rw [← hw8]
        clear hw8
        rw [hVV] at HV hV ⊢
        clear hVV
        refine hK.out _ _ (S3 _ F2.out) (fun hHeld2 => ?_)
        clear hK K
        refine wpAnyH_ready (rs := [9]) (by kernel_rfl) (by simp) ?_
        refine AllReadyH.cons (o := _) rfl (fun K hK => ?_) AllReadyH.nil
        go_simp
        refine (AD.out _).mono ?_
        rintro e w7 ⟨rfl, b7⟩
        have F7 := Lib.hid (F2.out.over b7)
        have HV7 := Lib.hid ((b7.block _ (Array.getElem?_eq_some_iff.1 HV.out).1).trans HV.out)
        refine hK.out _ _ (S3 _ F7.out) (fun hHeld3 => ?_)
        clear hK K b7
        refine wpAnyH_take (i := 10) (oi := _) (v := .tuple #[.agg Y.arr, .bool X]) rfl (by kernel_rfl) (by kernel_rfl) (by kernel_rfl) (fun _ _ _ h => h) (Or.inl ⟨by rfl, fun w' hSw => by go_simp⟩) hHeld3 ?_
        simp only [Act.put, List.getElem_toArray, List.getElem_cons_zero, List.getElem_cons_succ, List.setIfInBounds_toArray, List.set_cons_zero, List.set_cons_succ]
        refine wpAnyH_take (i := 11) (oi := _) (v := .agg Y.arr) rfl (by kernel_rfl) (by kernel_rfl) (by kernel_rfl) (fun _ _ _ h => h) (Or.inl ⟨by rfl, fun w' hSw => by go_simp⟩) hHeld3 ?_
        simp only [Act.put, List.getElem_toArray, List.getElem_cons_zero, List.getElem_cons_succ, List.setIfInBounds_toArray, List.set_cons_zero, List.set_cons_succ]
        refine wpAnyH_take (i := 12) (oi := _) (v := .bool X) rfl (by kernel_rfl) (by kernel_rfl) (by kernel_rfl) (fun _ _ _ h => h) (Or.inl ⟨by rfl, fun w' hSw => by go_simp⟩) hHeld3 ?_
        simp only [Act.put, List.getElem_toArray, List.getElem_cons_zero, List.getElem_cons_succ, List.setIfInBounds_toArray, List.set_cons_zero, List.set_cons_succ]
        refine wpAnyH_ready (rs := [14]) (by kernel_rfl) (by simp) ?_
        refine AllReadyH.cons (o := _) rfl (fun K hK => ?_) AllReadyH.nil
        refine step_store_row rfl 26 _ _ rfl V Y.arr rfl rfl 26 Rp.zero.arr HV7.out (by rw [rp_row.2.1, ZY.out]) (by rw [ZY.out]; rfl) (Rp.one _) ?_
        refine hK.out _ _ (S3 _ (F7.out.other hV Y.arr)) (fun hHeld4 => ?_)
        clear hK K
        simp only [Act.put, List.getElem_toArray, List.getElem_cons_zero, List.getElem_cons_succ]
        refine wpAnyH_ready (rs := [15]) (by kernel_rfl) (by simp) ?_
        refine AllReadyH.cons (o := _) rfl (fun K hK => ?_) AllReadyH.nil
        go_simp
        refine hK.out _ _ hHeld4 (fun hHeld5 => ?_)
        clear hK K
        refine wpAnyH_done (by kernel_rfl) ?_ _
        go_wp2_with fail
        go_meet
        exact ⟨V, rfl, rfl, hV, setRow_heap _ _ _ _ _ _ HV7.out, S4 _ hHeld5⟩
    case rest =>
      obtain ⟨V, rfl, rfl, hV, hc, f⟩ := hcut
      obtain ⟨m0, -⟩ := msg_box f.hM
      have FD := Lib.hid f
      have HC := Lib.hid hc
      have TH := Lib.hid (show wc.there w.heap.size (tt * 25) Y.arr.size from by rw [ZY.out]; exact (gp_range FD.out.hG FD.out.ok (by rw [FD.out.ok.r3]; exact hto)).2)
      have F4 := Lib.hid (f.setR hto Y8.out)
      obtain ⟨G, hG⟩ : ∃ G, g.setR tt Y = G := ⟨_, rfl⟩
      rw [hG] at F4 HE
      have ZG := Lib.hid (Gp.size F4.out.ok)
      clear f hc hG F1
      go_wp2_with (first | ((with_reducible refine ld_row1 rfl 26 _ rfl ?_); refine ⟨V, _, Y.arr, _, rfl, HC.out, rp_row.1, rfl, by rw [rp_row.2.1, ZY.out], ?_⟩) | ((with_reducible refine st_mid1 rfl 26 _ _ rfl ?_); refine ⟨w.heap.size, tt * 25, Y.arr, rfl, rfl, TH.out, by rw [rp_row.2.1, ZY.out], Rp.one _, ?_⟩) | ((with_reducible refine ld_row1 rfl 40 _ rfl ?_); refine ⟨w.heap.size, _, G.arr, _, rfl, F4.out.hG, gp_row.1, rfl, by rw [gp_row.2, ZG.out], ?_⟩) | ((with_reducible refine st_row1 rfl 40 _ _ rfl ?_); refine ⟨w.heap.size + 1 + 1, _, G.arr, _, rfl, rfl, F4.out.hZ, by rw [gp_row.2, ZG.out], by rw [ZG.out]; rfl, Gp.one _, ?_⟩))
      refine bodyPost_ret (v := .tuple #[.agg G.arr, .bool X]) (results_row_tmp Try.results33 _ _ (w.heap.size + 1 + 1) 40 G.arr (0, 0) _ _ rfl rfl (setRow_heap _ _ _ _ _ _ F4.out.hZ) gp_row.1 rfl (by rw [gp_row.2, ZG.out])) rfl ?_
      exact ⟨by rw [HE.out.1, HE.out.2], F4.out.done _⟩
end Go.Proofs.Ytclhmpknkinjcaa
