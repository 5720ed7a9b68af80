/-
  Contract: replica.Merge.
-/
import Derived.Test.YtclhmpknkinjcaaNewR
import Derived.Deep.MidRow
import Derived.Test.YtclhmpknkinjcaaOpenR
namespace Go.Proofs.Ytclhmpknkinjcaa
open Go.RowKit Go.Sort

/-- the first n cells of the best, against those of one more -/
def mstep (best cs : List Cel) : Nat → List Cel
  | 0 => best
  | n + 1 => if newerB (cs.getD n Cel.zero) ((mstep best cs n).getD n Cel.zero) then (mstep best cs n).set n (cs.getD n Cel.zero) else mstep best cs n
theorem mstep_len (best cs : List Cel) : ∀ n, (mstep best cs n).length = best.length
  | 0 => rfl
  | n + 1 => by
    unfold mstep
    split
    · simp [mstep_len best cs n]
    · exact mstep_len best cs n
theorem mstep_get (best cs : List Cel) (i : Nat) (hi : i < best.length) : ∀ n, (mstep best cs n).getD i Cel.zero = if i < n ∧ newerB (cs.getD i Cel.zero) (best.getD i Cel.zero) = true then cs.getD i Cel.zero else best.getD i Cel.zero
  | 0 => by simp [mstep]
  | n + 1 => by
    have ih := mstep_get best cs i hi n
    have hl := mstep_len best cs n
    unfold mstep
    by_cases hin : i = n
    · subst hin
      rw [if_neg (by omega)] at ih
      rw [ih]
      by_cases hn : newerB (cs.getD i Cel.zero) (best.getD i Cel.zero) = true
      · rw [if_pos hn, if_pos ⟨by omega, hn⟩]
        simp [List.getD_eq_getElem?_getD, hl, hi]
      · rw [if_neg hn, if_neg (fun h => hn h.2), ih]
    · have e : ∀ c, ((mstep best cs n).set n c).getD i Cel.zero = (mstep best cs n).getD i Cel.zero := fun c => by
        simp [List.getD_eq_getElem?_getD, List.getElem?_set_ne (Ne.symm hin)]
      have e2 : (i < n + 1 ∧ newerB (cs.getD i Cel.zero) (best.getD i Cel.zero) = true) ↔ (i < n ∧ newerB (cs.getD i Cel.zero) (best.getD i Cel.zero) = true) := by
        constructor <;> rintro ⟨h1, h2⟩ <;> exact ⟨by omega, h2⟩
      split
      · rw [e, ih]; simp only [e2]
      · rw [ih]; simp only [e2]
def zeros8 : List Cel := List.replicate 8 Cel.zero
def mergeL (l : List Rp) : List Cel := l.foldl (fun b r => mstep b r.cells 8) zeros8
theorem mergeL_len (l : List Rp) : (mergeL l).length = 8 := by
  have : ∀ (l : List Rp) (b : List Cel), b.length = 8 → (l.foldl (fun b r => mstep b r.cells 8) b).length = 8 := by
    intro l
    induction l with
    | nil => intro b h; exact h
    | cons r l ih => intro b h; exact ih _ (by rw [mstep_len]; exact h)
  exact this l _ (by simp [zeros8])
theorem mergeL_take {l : List Rp} {k : Nat} (h : k < l.length) : mergeL (l.take (k + 1)) = mstep (mergeL (l.take k)) l[k].cells 8 := by
  unfold mergeL
  rw [List.take_add_one, List.getElem?_eq_getElem h, List.foldl_append]
  rfl
/-- the best cell there is -/
def bestL (i : Nat) (l : List Rp) : Cel := l.foldl (fun b r => if newerB (r.get i) b then r.get i else b) Cel.zero
theorem mergeL_get (l : List Rp) (i : Nat) (hi : i < 8) : (mergeL l).getD i Cel.zero = bestL i l := by
  have : ∀ (l : List Rp) (b : List Cel) (c : Cel), b.length = 8 → b.getD i Cel.zero = c → (l.foldl (fun b r => mstep b r.cells 8) b).getD i Cel.zero = l.foldl (fun b r => if newerB (r.get i) b then r.get i else b) c := by
    intro l
    induction l with
    | nil => intro b c _ h; exact h
    | cons r l ih =>
      intro b c hb h
      refine ih _ _ (by rw [mstep_len]; exact hb) ?_
      rw [mstep_get b r.cells i (by omega) 8, h]
      unfold Rp.get
      simp [hi]
  exact this l _ _ (by simp [zeros8]) (by unfold zeros8; rw [List.getD_eq_getElem?_getD, List.getElem?_replicate]; split <;> rfl)
theorem bestL_take {l : List Rp} {i k : Nat} (h : k < l.length) : bestL i (l.take (k + 1)) = if newerB (l[k].get i) (bestL i (l.take k)) then l[k].get i else bestL i (l.take k) := by
  unfold bestL
  rw [List.take_add_one, List.getElem?_eq_getElem h, List.foldl_append]
  rfl

theorem zeros8_arr : (flat zeros8).toArray = #[.int .i64 0, .int .i64 0, .string ⟨#[]⟩, .int .i64 0, .int .i64 0, .string ⟨#[]⟩, .int .i64 0, .int .i64 0, .string ⟨#[]⟩, .int .i64 0, .int .i64 0, .string ⟨#[]⟩, .int .i64 0, .int .i64 0, .string ⟨#[]⟩, .int .i64 0, .int .i64 0, .string ⟨#[]⟩, .int .i64 0, .int .i64 0, .string ⟨#[]⟩, .int .i64 0, .int .i64 0, .string ⟨#[]⟩] := rfl
theorem flat_cells {w : World} {b j : Nat} {m : List Cel} {T : TypeId} (h : w.heap[b]? = some (.cells (flat m).toArray T (0, 0))) (hj : j < m.length) :
    (w.cell? ⟨b, j * 3, none⟩ = some (.int .i64 m[j].e) ∧ w.cell? ⟨b, j * 3 + 1, none⟩ = some (.int .i64 m[j].n) ∧ w.cell? ⟨b, j * 3 + 2, none⟩ = some (.string m[j].d)) ∧
    w.frozen? ⟨b, j * 3, none⟩ = false ∧ w.frozen? ⟨b, j * 3 + 1, none⟩ = false ∧ w.frozen? ⟨b, j * 3 + 2, none⟩ = false := by
  obtain ⟨h1, h2, h3⟩ := flat_at m j hj
  simp [World.cell?, World.frozen?, h, h1, h2, h3]
theorem flat_set_arr (m : List Cel) (j : Nat) (c : Cel) (h : j < m.length) :
    (((flat m).toArray.setIfInBounds (j * 3) (.int .i64 c.e)).setIfInBounds (j * 3 + 1) (.int .i64 c.n)).setIfInBounds (j * 3 + 2) (.string c.d) = (flat (m.set j c)).toArray := by
  apply Array.toList_inj.1
  simp only [Array.toList_setIfInBounds]
  exact flat_set m j c h
theorem flat_size {m : List Cel} (h : m.length = 8) : (flat m).toArray.size = 24 := by simp [flat_length, h]
theorem index_cells (l : List Cel) (j : Nat) (hl : l.length = 8) (hj : j < 8) (c : Cel) (hc : l[j]'(by omega) = c) (w : World) :
    (Instr.index 24 (.agg (flat l).toArray) (.int .i64 j)).run Try.prog w = .ok c.v w := by
  have hs : (sizeOf 23).run Try.prog w = .ok 3 w := by
    have hn := cell_row.2
    cases hq : Try.prog.info? 23 with
    | none => simp [hq] at hn
    | some i => simp [hq] at hn; simp [sizeOf, typeInfo, hq, hn]
  unfold Instr.index
  simp only [asIntOf, Sem.run_bind, Sem.run_pure, Result.andThen_ok, run_underlying cells_row.1]
  rw [if_pos (by omega)]
  simp only [Sem.run_bind, hs, Result.andThen_ok, Int.toNat_natCast]
  rw [part_agg w cell_row.1 rfl cell_row.2, flat_part (by omega), hc]

theorem wpList_load_midA {P : Program} {ops : Array Oper} {rest : List Oper} {op : Oper} {a : Act} {w : World} {Q : Exit → Act → World → Prop} (hgd : op.guard = none) (ty : TypeId) (x : Operand) (ho : op.op = .load ty x)
    (b o : Nat) (hx : a.eval x = .pointer (some ⟨b, o, none⟩)) (cs : Array Value) (d : TypeDesc) (hc : w.rangeAt b o cs.toList)
    (hu : P.underlying ty = some d) (hd : d.isRow = true) (hi : (P.info? ty).map (·.size) = some cs.size)
    (h : wpList P ops Q rest (a.put op.dst (.agg cs)) w) : wpList P ops Q (op :: rest) a w :=
  wpList_load_mid hgd ty x ho b o hx cs.toList d hc hu hd hi (by simpa using h)
theorem rp_cells_range {w : World} {b : Nat} {r : Rp} {T : TypeId} (h : w.heap[b]? = some (.cells r.arr T (0, 0))) : w.rangeAt b 1 (flat r.cells).toArray.toList := fun j v hv => by
  rw [cell_of_row w b (1 + j) r.arr T (0, 0) h]
  unfold Rp.arr
  rw [Nat.add_comm]
  simpa using hv
theorem newer_x {a b : Cel} {X : Bool} (h : newerB a b = X) (w : World) : Calls Try.prog 20 #[a.v, b.v] w fun e w' => e = .returned (.bool X) ∧ Below w.heap.size w w' := by
  have := newer_any a b w
  rwa [h] at this
theorem rnewer_x {a b : Cel} {X : Bool} (h : newerB a b = X) (w : World) : Calls Try.prog 19 #[a.v, b.v] w fun e w' => e = .returned (.bool X) ∧ Below w.heap.size w w' := by
  have := rnewer_any a b w
  rwa [h] at this
/-- what the outer loop keeps -/
structure MG (w : World) (m : List Cel) (wx : World) : Prop where
  below : Below w.heap.size w wx
  len : m.length = 8
  hO : wx.heap[w.heap.size]? = some (.cells (flat zeros8).toArray 24 (0, 0))
  hM : wx.heap[w.heap.size + 1]? = some (.cells (flat m).toArray 24 (0, 0))
theorem MG.big {w wx : World} {m : List Cel} (h : MG w m wx) : w.heap.size + 1 < wx.heap.size := (Array.getElem?_eq_some_iff.1 h.hM).1
theorem MG.over {w wx w' : World} {m : List Cel} (h : MG w m wx) (b : Below wx.heap.size wx w') : MG w m w' :=
  ⟨h.below.trans (b.mono h.below.size), h.len, (b.block _ (Array.getElem?_eq_some_iff.1 h.hO).1).trans h.hO, (b.block _ h.big).trans h.hM⟩
theorem MG.put {w wx : World} {m : List Cel} (h : MG w m wx) (j : Nat) (c : Cel) (hj : j < m.length) :
    MG w (m.set j c) (((wx.setCell ⟨w.heap.size + 1, j * 3, none⟩ (.int .i64 c.e)).setCell ⟨w.heap.size + 1, j * 3 + 1, none⟩ (.int .i64 c.n)).setCell ⟨w.heap.size + 1, j * 3 + 2, none⟩ (.string c.d)) := by
  have kp : Keeps (· = w.heap.size + 1) wx (((wx.setCell ⟨w.heap.size + 1, j * 3, none⟩ (.int .i64 c.e)).setCell ⟨w.heap.size + 1, j * 3 + 1, none⟩ (.int .i64 c.n)).setCell ⟨w.heap.size + 1, j * 3 + 2, none⟩ (.string c.d)) :=
    Keeps.setCell (S := (· = w.heap.size + 1)) (Keeps.setCell (S := (· = w.heap.size + 1)) (Keeps.setCell (S := (· = w.heap.size + 1)) (Keeps.refl _ _) rfl _) rfl _) rfl _
  refine ⟨h.below.trans (kp.below h.below.size (fun k hk => by omega)), by simp [h.len], (kp.block _ (by omega) (Array.getElem?_eq_some_iff.1 h.hO).1).trans h.hO, ?_⟩
  rw [← flat_set_arr m j c hj]
  exact block_setCell (block_setCell (block_setCell h.hM _) _) _

set_option maxRecDepth 100000 in
set_option maxHeartbeats 4000000 in
theorem merge_any (l : List Rp) (a : Option Addr) (cap : Nat) (w : World) (hl : l.length ≤ maxLen) (hr : RpsAt w a l) :
    Calls Try.prog 22 #[.slice a l.length cap] w fun e w' => e = .returned (.agg (flat (mergeL l)).toArray) ∧ Below w.heap.size w w' := by
  unfold maxLen at hl
  have HR := Lib.hid hr
  clear hr
  go_enter Try.func22, Try.ntmps22
  go_upto_region 2 with fail
  obtain ⟨w1, hw1⟩ : ∃ w1, w1 = (w.alloc (.cells (flat zeros8).toArray 24)).alloc (.cells (flat zeros8).toArray 24) := ⟨_, rfl⟩
  rw [zeros8_arr] at hw1
  rw [← hw1]
  rw [← zeros8_arr] at hw1
  have HM1 := Lib.hid (show MG w zeros8 w1 from hw1 ▸ ⟨(bal w _).alloc (by simp) _, rfl, heap_alloc2_old w _ _, heap_alloc2_new w _ _⟩)
  clear hw1
  go_wp2
  go_loopw [10] (fun i wr => ∃ k : Nat, k ≤ l.length ∧ i = .int .i64 k ∧ MG w (mergeL (l.take k)) wr) (fun i _ => l.length - (intOf i).toNat)
  case atStart =>
    exact ⟨0, by omega, rfl, by simpa [mergeL] using HM1.out⟩
  case round =>
    obtain ⟨k, hk, rfl, mg⟩ := hrel
    have HMG := Lib.hid mg
    clear mg HM1
    by_cases hlt : k < l.length
    · obtain ⟨h8, bb, oo, rfl, hbs, hra⟩ := HR.out k hlt
      have HRA := Lib.hid (show wr.rangeAt bb (oo + k * 25) l[k].arr.toList from fun j v hv => (HMG.out.below.cell (p := ⟨bb, _, none⟩) hbs).trans (hra j v hv))
      have HL8 := Lib.hid h8
      have hz := Lib.hid (Rp.size h8)
      clear hra h8
      obtain ⟨R, hR⟩ : ∃ R, l[k] = R := ⟨_, rfl⟩
      have HMT := Lib.hid (show mergeL (l.take (k + 1)) = mstep (mergeL (l.take k)) R.cells 8 from hR ▸ mergeL_take hlt)
      rw [hR] at HRA HL8 hz
      clear hR
      have hu := HMG.out.big
      go_upto_region 5 with (first | (refine wpList_load_midA rfl 26 _ rfl bb (oo + k * 25) rfl R.arr _ HRA.out rp_row.1 rfl (by rw [rp_row.2.1, hz.out]) ?_) | (refine wpList_store_row rfl 26 _ _ rfl wr.heap.size R.arr rfl rfl 26 Rp.zero.arr (heap_alloc_new wr _) (by rw [rp_row.2.1, hz.out]) (by rw [hz.out]; rfl) (Rp.one _) ?_))
      obtain ⟨w2, hw2⟩ : ∃ w2, w2 = (wr.alloc (.cells Rp.zero.arr 26)).setRow wr.heap.size R.arr := ⟨_, rfl⟩
      rw [rp_zero_arr] at hw2
      rw [← hw2]
      have HM2 := Lib.hid (show MG w (mergeL (l.take k)) w2 from hw2 ▸ HMG.out.over (bel_row wr _ _ _))
      have HN2 := Lib.hid (show w2.heap[wr.heap.size]? = some (.cells R.arr 26 (0, 0)) from hw2 ▸ setRow_heap _ _ _ _ _ _ (heap_alloc_new wr _))
      clear hw2 HMG
      have hz2 := Lib.hid (flat_size HL8.out)
      go_wp2_with (refine wpList_load_midA rfl 24 _ rfl wr.heap.size 1 rfl (flat R.cells).toArray _ (rp_cells_range HN2.out) cells_row.1 rfl (by rw [cells_row.2, hz2.out]) ?_)
      go_loopw [16] (fun i wz => ∃ j : Nat, j ≤ 8 ∧ i = .int .i64 j ∧ MG w (mstep (mergeL (l.take k)) R.cells j) wz) (fun i _ => 8 - (intOf i).toNat)
      case atStart => exact ⟨0, by omega, rfl, HM2.out⟩
      case round =>
        obtain ⟨j, hj, rfl, mg⟩ := hrel
        obtain ⟨m, hm⟩ : ∃ m, mstep (mergeL (l.take k)) R.cells j = m := ⟨_, rfl⟩
        rw [hm] at mg
        have HMG := Lib.hid mg
        have HM := Lib.hid hm
        clear mg HM2 hm
        by_cases hj8 : j < 8
        · obtain ⟨c, hc⟩ : ∃ c, R.cells[j]'(by rw [HL8.out]; exact hj8) = c := ⟨_, rfl⟩
          have hidx := index_cells R.cells j HL8.out hj8 c hc
          have hjm : j < m.length := by rw [HMG.out.len]; exact hj8
          obtain ⟨b, hb⟩ : ∃ b, m[j] = b := ⟨_, rfl⟩
          have HC := Lib.hid (show R.cells.getD j Cel.zero = c ∧ m.getD j Cel.zero = b from ⟨by rw [← hc]; simp [HL8.out, hj8], by rw [← hb]; simp [hjm]⟩)
          clear hc hb hjm
          have hk8 : decide ((j : Int) < 8) = true := by simpa using (by omega : (j : Int) < 8)
          go_upto_region 8 with fail
          obtain ⟨w3, hw3⟩ : ∃ w3, w3 = wr.alloc (.cells #[.int .i64 c.e, .int .i64 c.n, .string c.d] 23) := ⟨_, rfl⟩
          rw [← hw3]
          have HM3 := Lib.hid (show MG w m w3 from hw3 ▸ HMG.out.over (bal wr _))
          have HX3 := Lib.hid (show w3.heap[wr.heap.size]? = some (.cells #[.int .i64 c.e, .int .i64 c.n, .string c.d] 23 (0, 0)) from hw3 ▸ heap_alloc_new wr _)
          clear hw3
          obtain ⟨c0, c1, c2⟩ := cell_box HX3.out
          have hjm : j < m.length := by rw [HM3.out.len]; exact hj8
          obtain ⟨⟨b0, b1, b2⟩, -⟩ := flat_cells HM3.out.hM hjm
          have hb : m[j] = b := by have := HC.out.2; simpa [hjm] using this
          rw [hb] at b0 b1 b2
          obtain ⟨X, hX⟩ : ∃ X, newerB c b = X := ⟨_, rfl⟩
          have HXX := Lib.hid hX
          have NW := Lib.hid (fun (w : World) => newer_x hX w)
          clear hb hX hjm hidx
          have hv1 : wr.heap.size < w3.heap.size := (Array.getElem?_eq_some_iff.1 HX3.out).1
          have hv2 : w.heap.size + 1 < w3.heap.size := HM3.out.big
          have hq := bregrown (Below.refl w3.heap.size w3)
          go_cut [24] (fun v wx => v = .bool X ∧ Below w3.heap.size w3 wx)
          case first =>
            refine wp_region_quiet_below (by kernel_rfl) (by kernel_rfl) ?_
            repeat (go_big_quiet_step (exact Calls.regrown_of (NW.out _)))
            refine wpQuiet_nil ?_
            rintro w' ⟨⟨dq, osq⟩, rfl⟩
            go_wp2_with fail
            go_meet
            exact ⟨rfl, below_regrown _ dq osq⟩
          case rest =>
            obtain ⟨rfl, b4⟩ := hcut
            have HM4 := Lib.hid (HM3.out.over b4)
            have HX4 := Lib.hid ((b4.block _ hv1).trans HX3.out)
            clear b4 hq c0 c1 c2 b0 b1 b2 hv1 hv2
            have HST := Lib.hid (show mstep (mergeL (l.take k)) R.cells (j + 1) = if X then m.set j c else m from by
              show (if newerB (R.cells.getD j Cel.zero) ((mstep (mergeL (l.take k)) R.cells j).getD j Cel.zero) then _ else _) = _
              rw [HM.out, HC.out.1, HC.out.2, HXX.out])
            cases X
            · go_wp2
              exact ⟨⟨j + 1, by omega, by simp, by rw [HST.out]; exact HM4.out⟩, by simp [intOf]; omega⟩
            · obtain ⟨c0, c1, c2⟩ := cell_box HX4.out
              have hjm : j < m.length := by rw [HM4.out.len]; exact hj8
              obtain ⟨⟨b0, b1, b2⟩, f0, f1, f2⟩ := flat_cells HM4.out.hM hjm
              have hb : m[j] = b := by have := HC.out.2; simpa [hjm] using this
              rw [hb] at b0 b1 b2
              have HP := Lib.hid (HM4.out.put j c hjm)
              clear hb hjm
              go_wp2
              exact ⟨⟨j + 1, by omega, by simp, by rw [HST.out]; exact HP.out⟩, by simp [intOf]; omega⟩
        · obtain rfl : j = 8 := by omega
          go_wp2
          exact ⟨⟨k + 1, by omega, by simp, by rw [HMT.out, HM.out]; exact HMG.out⟩, by simp [intOf]; omega⟩
    · obtain rfl : k = l.length := by omega
      have HT := Lib.hid (show mergeL (l.take l.length) = mergeL l from by rw [List.take_length])
      have hzm := Lib.hid (flat_size (mergeL_len (l.take l.length)))
      go_wp2_with (first | (refine wpList_load_row rfl 24 _ rfl (w.heap.size + 1) rfl 24 (flat (mergeL (l.take l.length))).toArray (0, 0) _ HMG.out.hM cells_row.1 rfl (by rw [cells_row.2, hzm.out]) ?_) | (refine wpList_store_row rfl 24 _ _ rfl w.heap.size (flat (mergeL (l.take l.length))).toArray rfl rfl 24 (flat zeros8).toArray HMG.out.hO (by rw [cells_row.2, hzm.out]) (by rw [hzm.out]; rfl) (all_oneCell_toArray (flat_one _)) ?_))
      refine bodyPost_ret (v := .agg (flat (mergeL l)).toArray) (by rw [← HT.out]; exact results_row1 Try.results22 _ _ w.heap.size 24 _ (0, 0) _ rfl (setRow_heap _ _ _ _ _ _ HMG.out.hO) cells_row.1 rfl (by rw [cells_row.2, hzm.out])) rfl ?_
      exact ⟨rfl, HMG.out.below.trans (((Keeps.refl (· = w.heap.size) wr).setRow rfl _).below HMG.out.below.size (fun m hm => by omega))⟩
end Go.Proofs.Ytclhmpknkinjcaa
