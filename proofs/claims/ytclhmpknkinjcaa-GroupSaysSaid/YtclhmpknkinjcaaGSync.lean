/-
  Contract: (group.Group).Sync.
-/
import Derived.Test.YtclhmpknkinjcaaGDeliver
import Derived.Great.BuildSlice
namespace Go.Proofs.Ytclhmpknkinjcaa
open Go.RowKit Go.Sort

section
variable {P : Program} {ops : Array Oper} {rest : List Oper} {op : Oper} {a : Act} {w : World} {Q : Exit → Act → World → Prop}
theorem bld1 (hgd : op.guard = none) (t : TypeId) (parts : Array (Nat × Operand)) (ho : op.op = .build t parts)
    (h : ∃ (l : List (Nat × Value)) (cells : Array Value), parts.toList.map (fun p => (p.1, a.eval p.2)) = l ∧ P.built t l = some cells ∧ wpList P ops Q rest (a.put op.dst (.agg cells)) w) : wpList P ops Q (op :: rest) a w := by
  obtain ⟨l, cells, h1, h2, h3⟩ := h
  refine wpList_plain hgd fun _ hK => ?_
  have hb : P.built t (parts.map fun (i, x) => (i, a.eval x)).toList = some cells := by rw [Array.toList_map, ← h2, ← h1]
  unfold Oper.wp execOp
  simp only [ho, Sem.run_bind, run_build w t _ _ hb, Result.andThen_ok]
  exact hK _ _ h3
theorem bsl1 (hgd : op.guard = none) (t : TypeId) (len : Nat) (parts : Array (Nat × Operand)) (ho : op.op = .buildSlice t len parts)
    (h : ∃ (e : TypeId) (l : List (Nat × Value)) (cells : Array Value) (ie : TypeInfo) (z : Value), parts.toList.map (fun p => (p.1, a.eval p.2)) = l ∧ P.underlying t = some (.slice e) ∧ P.info? e = some ie ∧ ie.zero = some z ∧ ¬ len * ie.size > 2 ^ 24 ∧ ¬ len * ie.size = 0 ∧
      Instr.fill (fun i => some (i * ie.size, ie.size)) ((Array.range (len * ie.size)).map (z.cells[· % z.cells.size]!)) l = some cells ∧
      wpList P ops Q rest (a.put op.dst (.slice (some ⟨w.heap.size, 0, none⟩) len len)) (w.alloc (.cells cells e))) : wpList P ops Q (op :: rest) a w := by
  obtain ⟨e, l, cells, ie, z, h1, h2, h3, h4, h5, h6, h7, h8⟩ := h
  refine wpList_buildSlice hgd t e len parts ho cells ie z h2 h3 h4 h5 h6 ?_ h8
  rw [Array.toList_map, ← h7, ← h1]
end
theorem built_rp (f : Int) (cs : List Cel) (h : cs.length = 8) : Try.prog.built 26 [(0, .int .i64 f), (1, .agg (flat cs).toArray)] = some (Rp.mk f cs).arr := by
  obtain ⟨f', d0, d1, d2, d3, d4, d5, d6, d7, e⟩ := rp_lit (Y := ⟨f, cs⟩) h
  cases e
  kernel_rfl
theorem filled_rp (ie : TypeInfo) (z : Value) (hie : Try.prog.info? 26 = some ie) (hz : ie.zero = some z) (r : Rp) (h : r.cells.length = 8) : Instr.fill (fun i => some (i * ie.size, ie.size)) ((Array.range (1 * ie.size)).map (z.cells[· % z.cells.size]!)) [(0, .agg r.arr)] = some r.arr := by
  obtain ⟨f, d0, d1, d2, d3, d4, d5, d6, d7, rfl⟩ := rp_lit h
  have : ∀ x : TypeInfo, Try.prog.info? 26 = some x → ∀ z, x.zero = some z → Instr.fill (fun i => some (i * x.size, x.size)) ((Array.range (1 * x.size)).map (z.cells[· % z.cells.size]!)) [(0, .agg (Rp.mk f [d0, d1, d2, d3, d4, d5, d6, d7]).arr)] = some (Rp.mk f [d0, d1, d2, d3, d4, d5, d6, d7]).arr := by
    have key : (Try.prog.info? 26).bind (fun x => x.zero.bind (fun z => Instr.fill (fun i => some (i * x.size, x.size)) ((Array.range (1 * x.size)).map (z.cells[· % z.cells.size]!)) [(0, .agg (Rp.mk f [d0, d1, d2, d3, d4, d5, d6, d7]).arr)])) = some (Rp.mk f [d0, d1, d2, d3, d4, d5, d6, d7]).arr := by kernel_rfl
    intro x hx z hz
    rw [hx] at key
    simpa [hz] using key
  exact this ie hie z hz
theorem rp_zero_info : ∃ ie z, Try.prog.info? 26 = some ie ∧ ie.zero = some z ∧ ie.size = 25 ∧ ie.bytes = 264 ∧ z.cells.size = 25 := by
  have key : (Try.prog.info? 26).bind (fun ie => ie.zero.map (fun z => (ie.size, ie.bytes, z.cells.size))) = some (25, 264, 25) := by kernel_rfl
  cases hi : Try.prog.info? 26 with
  | none => rw [hi] at key; cases key
  | some ie =>
    rw [hi] at key
    cases hz : ie.zero with
    | none => simp [hz] at key
    | some z => simp [hz] at key; exact ⟨ie, z, rfl, hz, key.1, key.2.1, key.2.2⟩

/-- a row of replicas of one's own -/
def OwnR (B : Nat) (w : World) (v : Value) (l : List Rp) : Prop := w.ownsRow B 26 25 v l.length (flatR l)
theorem OwnR.below {B : Nat} {w w' : World} {v : Value} {l : List Rp} (h : OwnR B w v l) (hb : Below w.heap.size w w') : OwnR B w' v l := by
  obtain ⟨h1, h2⟩ := h
  refine ⟨h1, ?_⟩
  rcases h2 with h2 | ⟨g, cap, cur, e, hg, hh, ht⟩
  · exact .inl h2
  · exact .inr ⟨g, cap, cur, e, hg, (hb.block g (Array.getElem?_eq_some_iff.1 hh).1).trans hh, ht⟩
theorem OwnR.blk {B : Nat} {w : World} {v : Value} {l : List Rp} (h : OwnR B w v l) : ∀ k, v.ownBlock = some k → B ≤ k := by
  obtain ⟨-, h2⟩ := h
  intro k hk
  rcases h2 with ⟨rfl, -⟩ | ⟨g, cap, cur, rfl, hg, -⟩
  · cases hk
  · simp [Value.ownBlock] at hk; omega
theorem OwnR.rps {B : Nat} {w : World} {v : Value} {l : List Rp} (h : OwnR B w v l) (h8 : ∀ r ∈ l, r.cells.length = 8) : ∃ a c, v = .slice a l.length c ∧ RpsAt w a l := by
  obtain ⟨h1, h2⟩ := h
  rcases h2 with ⟨rfl, hn⟩ | ⟨g, cap, cur, rfl, hg, hh, hc, hm, hs, ht⟩
  · obtain rfl := List.length_eq_zero_iff.1 hn
    exact ⟨none, 0, rfl, fun i hi => absurd hi (by simp)⟩
  · refine ⟨some ⟨g, 0, none⟩, cap, rfl, fun i hi => ⟨h8 _ (List.getElem_mem hi), g, 0, rfl, (Array.getElem?_eq_some_iff.1 hh).1, fun j u hj => ?_⟩⟩
    have hz := Rp.size (h8 _ (List.getElem_mem hi))
    have hj25 : j < 25 := by
      have := (List.getElem?_eq_some_iff.1 hj).1
      simp at this; omega
    have hat := flatR_at l h8 i hi j hj25
    rw [← ht, List.getElem?_take_of_lt (by omega)] at hat
    have : w.cell? ⟨g, 0 + i * 25 + j, none⟩ = cur[i * 25 + j]? := by
      rw [cell_of_row w g (0 + i * 25 + j) cur 26 (0, 0) hh]
      congr 1; omega
    rw [this]
    have e2 : cur.toList[i * 25 + j]? = cur[i * 25 + j]? := by simp
    rw [← e2, hat, ← hj]; simp

theorem flatR_snoc (l : List Rp) (r : Rp) : flatR (l ++ [r]) = flatR l ++ r.arr.toList := by simp [flatR]
theorem row_new (w : World) (cs : Array Value) (T : TypeId) : ∀ j u, cs.toList[j]? = some u → (w.alloc (.cells cs T)).cell? ((⟨w.heap.size, 0, none⟩ : Addr).add j) = some u := by
  intro j u h
  rw [Addr.add_mid, cell_of_row _ w.heap.size (0 + j) cs T (0, 0) (heap_alloc_new w _), Nat.zero_add]
  simpa using h
def Gp.frm (g : Gp) (epoch : Int) : List Rp := (g.mem epoch).map (fun x => g.r.getD x.toNat Rp.zero)
def Gp.syncs (g : Gp) (epoch : Int) (i : Nat) : Bool := g.u.getD i false && decide (2 ≤ (g.mem epoch).length) && decide ((g.r.getD i Rp.zero).floor < epoch)
def Gp.sync (g : Gp) (epoch : Int) (i : Nat) : Gp := if g.syncs epoch i then g.setR i ⟨epoch, mergeL (g.frm epoch)⟩ else g
theorem Gp.frm8 {g : Gp} (h : g.ok) (epoch : Int) : ∀ r ∈ g.frm epoch, r.cells.length = 8 := by
  intro r hr
  obtain ⟨x, hx, rfl⟩ := List.mem_map.1 hr
  obtain ⟨i, rfl, hi, -⟩ := Gp.mem_lt hx
  exact Gp.getR h hi
theorem Gp.sync_ok {g : Gp} (h : g.ok) (epoch : Int) (i : Nat) : (g.sync epoch i).ok := by
  unfold Gp.sync; split
  · exact h.setR i (mergeL_len _)
  · exact h

set_option maxRecDepth 100000 in
set_option maxHeartbeats 2000000 in
theorem gsync_any (g : Gp) (epoch : Int) (i : Nat) (w : World) (hg : g.ok) (hi3 : i < 3) :
    Calls Try.prog 31 #[.agg g.arr, .int .i64 epoch, .int .i64 i] w fun e w' => e = .returned (.tuple #[.agg (g.sync epoch i).arr, .bool (g.syncs epoch i)]) ∧ Below w.heap.size w w' := by
  have OK := Lib.hid hg
  have Z := Lib.hid (Gp.size hg)
  have hti : (i : Int) < 3 := by omega
  have htr : i < g.r.length := by rw [hg.r3]; exact hi3
  have htu : i < g.u.length := by rw [hg.u3]; exact hi3
  clear hg
  go_enter Try.func31, Try.ntmps31
  go_upto_region 1 with fail
  obtain ⟨w1, hw1⟩ : ∃ w1, w1 = (w.alloc (.cells g.arr 40)).alloc (.cells Gp.zero.arr 40) := ⟨_, rfl⟩
  rw [← gp_zero_arr] at hw1
  rw [← hw1]
  rw [gp_zero_arr] at hw1
  have F1 := Lib.hid (show GF w g w1 from hw1 ▸ ⟨(bal w _).alloc (by simp) _, OK.out, heap_alloc2_old w _ _, heap_alloc2_new w _ _⟩)
  clear hw1
  go_wp2_with ((with_reducible refine ld_row1 rfl 40 _ rfl ?_); refine ⟨w.heap.size, _, g.arr, _, rfl, F1.out.hG, gp_row.1, rfl, by rw [gp_row.2, Z.out], ?_⟩)
  refine (members_any g _ _ OK.out).mono ?_
  rintro e w2 ⟨a2, c2, rfl, hown, b2⟩
  have F2 := Lib.hid (F1.out.over b2)
  have HI := Lib.hid hown.hi
  obtain ⟨m, hm⟩ : ∃ m, (g.mem epoch).length = m := ⟨_, rfl⟩
  rw [hm]
  have HM := Lib.hid hm
  have hm3 : m ≤ 3 := hm ▸ g.mem_len epoch 3
  clear hm b2 F1 hown
  obtain ⟨u0, -⟩ := gp_up F2.out.hG F2.out.ok htu
  obtain ⟨f0, -⟩ := gp_floor F2.out.hG F2.out.ok htr
  obtain ⟨U, hU⟩ : ∃ U, g.u[i] = U := ⟨_, rfl⟩
  obtain ⟨F, hF⟩ : ∃ F, g.r[i].floor = F := ⟨_, rfl⟩
  rw [hU] at u0
  rw [hF] at f0
  have HS := Lib.hid (show g.syncs epoch i = (U && decide (2 ≤ m) && decide (F < epoch)) from by unfold Gp.syncs; rw [← hU, ← hF, ← HM.out]; simp [htu, htr])
  clear hU hF htr htu
  cases U
  · have HN := Lib.hid (show g.sync epoch i = g ∧ g.syncs epoch i = false from by unfold Gp.sync; rw [HS.out]; exact ⟨rfl, rfl⟩)
    clear f0
    go_wp2_with (first | ((with_reducible refine ld_row1 rfl 40 _ rfl ?_); refine ⟨w.heap.size, _, g.arr, _, rfl, F2.out.hG, gp_row.1, rfl, by rw [gp_row.2, Z.out], ?_⟩) | ((with_reducible refine st_row1 rfl 40 _ _ rfl ?_); refine ⟨w.heap.size + 1, _, g.arr, _, rfl, rfl, F2.out.hZ, by rw [gp_row.2, Z.out], by rw [Z.out]; rfl, Gp.one _, ?_⟩))
    refine bodyPost_ret (v := .tuple #[.agg g.arr, .bool false]) (results_row_tmp Try.results31 _ _ (w.heap.size + 1) 40 g.arr (0, 0) _ _ rfl rfl (setRow_heap _ _ _ _ _ _ F2.out.hZ) gp_row.1 rfl (by rw [gp_row.2, Z.out])) rfl ?_
    exact ⟨by rw [HN.out.1, HN.out.2], F2.out.done _⟩
  · by_cases hm2 : m < 2
    · have HN := Lib.hid (show g.sync epoch i = g ∧ g.syncs epoch i = false from by unfold Gp.sync; rw [HS.out, show decide (2 ≤ m) = false from by simp; omega]; exact ⟨rfl, rfl⟩)
      clear f0
      go_wp2_with (first | ((with_reducible refine ld_row1 rfl 40 _ rfl ?_); refine ⟨w.heap.size, _, g.arr, _, rfl, F2.out.hG, gp_row.1, rfl, by rw [gp_row.2, Z.out], ?_⟩) | ((with_reducible refine st_row1 rfl 40 _ _ rfl ?_); refine ⟨w.heap.size + 1, _, g.arr, _, rfl, rfl, F2.out.hZ, by rw [gp_row.2, Z.out], by rw [Z.out]; rfl, Gp.one _, ?_⟩))
      refine bodyPost_ret (v := .tuple #[.agg g.arr, .bool false]) (results_row_tmp Try.results31 _ _ (w.heap.size + 1) 40 g.arr (0, 0) _ _ rfl rfl (setRow_heap _ _ _ _ _ _ F2.out.hZ) gp_row.1 rfl (by rw [gp_row.2, Z.out])) rfl ?_
      exact ⟨by rw [HN.out.1, HN.out.2], F2.out.done _⟩
    · by_cases hfe : epoch ≤ F
      · have HN := Lib.hid (show g.sync epoch i = g ∧ g.syncs epoch i = false from by unfold Gp.sync; rw [HS.out, show decide (F < epoch) = false from by simp; omega]; simp)
        go_wp2_with (first | ((with_reducible refine ld_row1 rfl 40 _ rfl ?_); refine ⟨w.heap.size, _, g.arr, _, rfl, F2.out.hG, gp_row.1, rfl, by rw [gp_row.2, Z.out], ?_⟩) | ((with_reducible refine st_row1 rfl 40 _ _ rfl ?_); refine ⟨w.heap.size + 1, _, g.arr, _, rfl, rfl, F2.out.hZ, by rw [gp_row.2, Z.out], by rw [Z.out]; rfl, Gp.one _, ?_⟩))
        refine bodyPost_ret (v := .tuple #[.agg g.arr, .bool false]) (results_row_tmp Try.results31 _ _ (w.heap.size + 1) 40 g.arr (0, 0) _ _ rfl rfl (setRow_heap _ _ _ _ _ _ F2.out.hZ) gp_row.1 rfl (by rw [gp_row.2, Z.out])) rfl ?_
        exact ⟨by rw [HN.out.1, HN.out.2], F2.out.done _⟩
      · have HN := Lib.hid (show g.sync epoch i = g.setR i ⟨epoch, mergeL (g.frm epoch)⟩ ∧ g.syncs epoch i = true from by
          have : g.syncs epoch i = true := by rw [HS.out]; simp; omega
          exact ⟨if_pos this, this⟩)
        have hd2 : decide ((m : Int) < 2) = false := by simp; omega
        have hdf : decide (epoch ≤ F) = false := by simp; omega
        obtain ⟨L, hL⟩ : ∃ L, g.frm epoch = L := ⟨_, rfl⟩
        have L8 := Lib.hid (show ∀ r ∈ L, r.cells.length = 8 from hL ▸ Gp.frm8 OK.out epoch)
        have LM := Lib.hid (show L.length = m from by rw [← hL, ← HM.out]; simp [Gp.frm])
        have LAT := Lib.hid (show ∀ j (h : j < (g.mem epoch).length), ∃ i' : Nat, i' < 3 ∧ (g.mem epoch)[j] = (i' : Int) ∧ L[j]? = some (g.r.getD i' Rp.zero) from fun j h => by
          obtain ⟨i', e, h3, -⟩ := Gp.mem_lt (List.getElem_mem h)
          refine ⟨i', h3, e, ?_⟩
          rw [← hL]
          unfold Gp.frm
          rw [List.getElem?_map, List.getElem?_eq_getElem h, e]
          rfl)
        rw [hL] at HN
        have HL := Lib.hid hL
        clear hL
        obtain ⟨ie, z, hie, hz, hsz, hby, hzs⟩ := rp_zero_info
        have I1 := Lib.hid hie
        have I2 := Lib.hid hz
        have I3 := Lib.hid hsz
        have I4 := Lib.hid hby
        have I5 := Lib.hid hzs
        clear hie hz hsz hby hzs
        go_wp2
        clear f0 u0
        go_loopw [9, 11, 37] (fun v _ k wr => ∃ j : Nat, j ≤ m ∧ k = .int .i64 j ∧ OwnR w2.heap.size wr v (L.take j) ∧ Below w2.heap.size w2 wr) (fun _ _ k _ => m - (intOf k).toNat)
        case atStart => exact ⟨0, by omega, rfl, ⟨rfl, .inl ⟨rfl, rfl⟩⟩, Below.refl _ _⟩
        case round =>
          obtain ⟨j, hj, rfl, hO, hB⟩ := hrel
          have hlen : (L.take j).length = j := by rw [List.length_take, LM.out]; omega
          have GFR := Lib.hid (F2.out.over hB)
          have HB := Lib.hid hB
          have HO := Lib.hid hO
          obtain ⟨av, cv, rfl, hrps⟩ := hO.rps (fun r hr => L8.out r (List.mem_of_mem_take hr))
          rw [hlen] at HO ⊢
          have HRPS := Lib.hid hrps
          have HLEN := Lib.hid hlen
          have BLK := Lib.hid (HO.out.blk)
          clear hO hB hrps hlen
          by_cases hjm : j < m
          · obtain ⟨i', h3, hx, hLj⟩ := LAT.out j (by rw [HM.out]; exact hjm)
            obtain ⟨bb, oo, rfl, -, hbb, hcell⟩ := HI.out j (by rw [HM.out]; exact hjm)
            rw [hx] at hcell
            have c0 := (HB.out.cell (p := ⟨bb, oo + j, none⟩) hbb).trans hcell
            have h3i : (i' : Int) < 3 := by omega
            have hkr : i' < g.r.length := by rw [OK.out.r3]; exact h3
            obtain ⟨R, hR⟩ : ∃ R, g.r[i'] = R := ⟨_, rfl⟩
            have RG := Lib.hid (show wr.rangeAt w.heap.size (i' * 25) R.arr.toList from hR ▸ (gp_range GFR.out.hG GFR.out.ok hkr).1)
            have R8 := Lib.hid (show R.cells.length = 8 from hR ▸ OK.out.c8 _ (List.getElem_mem hkr))
            have ZR := Lib.hid (Rp.size R8.out)
            have HT := Lib.hid (show L.take (j + 1) = L.take j ++ [R] from by rw [List.take_add_one, hLj, ← hR]; simp [hkr])
            have OW := Lib.hid (fun o => show (wr.alloc o).ownsRow w2.heap.size 26 25 (.slice av j cv) j (flatR (L.take j)) from by
              have := HO.out.below (bal wr o)
              unfold OwnR at this
              rwa [HLEN.out] at this)
            clear hR hkr hLj hx hcell
            go_wp2_with (first | ((with_reducible refine ld_mid1 rfl 26 _ rfl ?_); refine ⟨w.heap.size, i' * 25, R.arr, _, rfl, RG.out, rp_row.1, rfl, by rw [rp_row.2.1, ZR.out], ?_⟩) | ((with_reducible refine bsl1 rfl 27 _ _ rfl ?_); refine ⟨26, [(0, .agg R.arr)], R.arr, ie, z, rfl, Try.underlying27, I1.out, I2.out, by rw [I3.out]; decide, by rw [I3.out]; decide, filled_rp ie z I1.out I2.out R R8.out, ?_⟩) | (at_builtin; refine wpList_append_own _ rfl _ _ 27 rfl w2.heap.size 26 ie z 25 264 Try.underlying27 I1.out I2.out I3.out I4.out I5.out (by decide) _ _ _ rfl (OW.out _) ⟨wr.heap.size, 0, none⟩ 1 1 R.arr.toList rfl (by simp [ZR.out]) (row_new wr R.arr _) (fun u hu => (Array.all_eq_true_iff_forall_mem.1 R.one) u (by simpa using hu)) (by unfold maxLen; omega) (by omega) (Nat.le_trans HB.out.size (bal wr _).size) ?_))
            intro v' w7 hown1 hg1 _
            have HN7 := Lib.hid (show OwnR w2.heap.size w7 v' (L.take (j + 1)) from by rw [HT.out]; simpa [OwnR, HLEN.out, flatR_snoc] using hown1)
            have HZ7 := Lib.hid ((HB.out.trans ((bal wr _).mono HB.out.size)).grown hg1 (Nat.le_trans HB.out.size (bal wr _).size) (fun m hm => by have := BLK.out m hm; omega))
            clear hown1 hg1
            go_wp2
            go_roundw
            case rel => exact ⟨j + 1, by omega, by go_num, HN7.out, HZ7.out⟩
            case measure => simp [intOf]; omega
          · obtain rfl : j = m := by omega
            have MG := Lib.hid (show RpsAt wr av L from by have := HRPS.out; rwa [List.take_of_length_le (by rw [LM.out]; exact Nat.le_refl _)] at this)
            have ME := Lib.hid (fun (w' : World) (hb : Below wr.heap.size wr w') => merge_any L av cv w' (by rw [LM.out]; unfold maxLen; omega) (fun k hk => by
              obtain ⟨e1, b, o, e2, e3, e4⟩ := MG.out k hk
              exact ⟨e1, b, o, e2, Nat.lt_of_lt_of_le e3 hb.size, fun q v hv => (hb.cell (p := ⟨b, _, none⟩) e3).trans (e4 q v hv)⟩))
            rw [LM.out] at ME
            go_wp2_with fail
            refine (ME.out _ (Below.refl _ _)).mono ?_
            rintro e w5 ⟨rfl, b5⟩
            have F5 := Lib.hid (GFR.out.over b5)
            obtain ⟨M, hM⟩ : ∃ M, mergeL L = M := ⟨_, rfl⟩
            have M8 := Lib.hid (show M.length = 8 from hM ▸ mergeL_len L)
            rw [hM] at HN ⊢
            obtain ⟨Y, hY⟩ : ∃ Y, Rp.mk epoch M = Y := ⟨_, rfl⟩
            have BR := Lib.hid (show Try.prog.built 26 [(0, .int .i64 epoch), (1, .agg (flat M).toArray)] = some Y.arr from hY ▸ built_rp epoch M M8.out)
            have Y8 := Lib.hid (show Y.cells.length = 8 from hY ▸ M8.out)
            rw [hY] at HN
            have ZY := Lib.hid (Rp.size Y8.out)
            have TH := Lib.hid (show w5.there w.heap.size (i * 25) Y.arr.size from by rw [ZY.out]; exact (gp_range F5.out.hG F5.out.ok (by rw [F5.out.ok.r3]; exact hi3)).2)
            have F6 := Lib.hid (F5.out.setR hi3 Y8.out)
            obtain ⟨G, hG⟩ : ∃ G, g.setR i Y = G := ⟨_, rfl⟩
            rw [hG] at F6 HN
            have ZG := Lib.hid (Gp.size F6.out.ok)
            clear hM hY hG b5
            go_wp2_with (first | ((with_reducible refine bld1 rfl 26 _ rfl ?_); refine ⟨[(0, .int .i64 epoch), (1, .agg (flat M).toArray)], Y.arr, rfl, BR.out, ?_⟩) | ((with_reducible refine st_mid1 rfl 26 _ _ rfl ?_); refine ⟨w.heap.size, i * 25, Y.arr, rfl, rfl, TH.out, by rw [rp_row.2.1, ZY.out], Rp.one _, ?_⟩) | ((with_reducible refine ld_row1 rfl 40 _ rfl ?_); refine ⟨w.heap.size, _, G.arr, _, rfl, F6.out.hG, gp_row.1, rfl, by rw [gp_row.2, ZG.out], ?_⟩) | ((with_reducible refine st_row1 rfl 40 _ _ rfl ?_); refine ⟨w.heap.size + 1, _, G.arr, _, rfl, rfl, F6.out.hZ, by rw [gp_row.2, ZG.out], by rw [ZG.out]; rfl, Gp.one _, ?_⟩))
            refine bodyPost_ret (v := .tuple #[.agg G.arr, .bool true]) (results_row_tmp Try.results31 _ _ (w.heap.size + 1) 40 G.arr (0, 0) _ _ rfl rfl (setRow_heap _ _ _ _ _ _ F6.out.hZ) gp_row.1 rfl (by rw [gp_row.2, ZG.out])) rfl ?_
            exact ⟨by rw [HN.out.1, HN.out.2], F6.out.done _⟩
end Go.Proofs.Ytclhmpknkinjcaa
