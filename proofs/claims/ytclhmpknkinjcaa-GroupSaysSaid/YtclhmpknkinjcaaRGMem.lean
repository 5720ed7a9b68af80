/-
  Contracts: the document's (*Group).Members and Fence.
-/
import Derived.Test.YtclhmpknkinjcaaRGp
namespace Go.Proofs.Ytclhmpknkinjcaa
open Go.RowKit Go.Sort

set_option maxRecDepth 100000 in
set_option maxHeartbeats 2000000 in
theorem rmembers_any (g : Gp) (epoch : Int) (G : Nat) (w : World) (hg : g.ok) (h : w.heap[G]? = some (.cells g.arr 55 (0, 0))) :
    Calls Try.prog 38 #[.pointer (some ⟨G, 0, none⟩), .int .i64 epoch] w fun e w' => ∃ a c, e = .returned (.slice a (g.mem epoch).length c) ∧ OwnI w.heap.size w' (.slice a (g.mem epoch).length c) (g.mem epoch) ∧ Below w.heap.size w w' := by
  have OK := Lib.hid hg
  have HG := Lib.hid h
  have hlt : G < w.heap.size := (Array.getElem?_eq_some_iff.1 h).1
  clear hg h
  go_enter Try.func38, Try.ntmps38
  go_wp2
  go_loopw [5, 6] (fun v i wr => ∃ k : Nat, k ≤ 3 ∧ i = .int .i64 k ∧ OwnI w.heap.size wr v (g.memTo epoch k) ∧ Below w.heap.size w wr) (fun _ i _ => 3 - (intOf i).toNat)
  case atStart => exact ⟨0, by omega, rfl, ⟨rfl, .inl ⟨rfl, rfl⟩⟩, Below.refl _ _⟩
  case round =>
    obtain ⟨k, hk, rfl, hO, hB⟩ := hrel
    obtain ⟨L, hL⟩ : ∃ L, g.memTo epoch k = L := ⟨_, rfl⟩
    rw [hL] at hO
    obtain ⟨av, cv, rfl, -⟩ := hO.shape
    have hLk : L.length ≤ k := hL ▸ g.mem_len epoch k
    obtain ⟨n, hn⟩ : ∃ n, L.length = n := ⟨_, rfl⟩
    have HLN := Lib.hid hn
    have HL := Lib.hid hL
    rw [hn] at hLk hO ⊢
    have HO := Lib.hid hO
    have HX := Lib.hid ((hB.block _ hlt).trans HG.out)
    have HZ := Lib.hid hB
    clear hO hB hn hL
    by_cases hk3 : k < 3
    · have hkr : k < g.r.length := by rw [OK.out.r3]; exact hk3
      have hku : k < g.u.length := by rw [OK.out.u3]; exact hk3
      obtain ⟨u0, -⟩ := gp_up HX.out OK.out hku
      obtain ⟨f0, -⟩ := gp_floor HX.out OK.out hkr
      obtain ⟨U, hU⟩ : ∃ U, g.u[k] = U := ⟨_, rfl⟩
      obtain ⟨F, hF⟩ : ∃ F, g.r[k].floor = F := ⟨_, rfl⟩
      rw [hU] at u0
      rw [hF] at f0
      have HM := Lib.hid (show g.isM epoch k = (U && decide (F = epoch)) from by unfold Gp.isM; rw [← hU, ← hF]; simp [hku, hkr])
      have HSU := Lib.hid (g.mem_succ epoch k)
      clear hU hF hkr hku
      cases U
      · have HE := Lib.hid (show g.memTo epoch (k + 1) = L from by rw [HSU.out, HM.out, HL.out]; simp)
        clear f0
        go_wp2
        go_roundw
        case rel => exact ⟨k + 1, by omega, by go_num, by rw [HE.out]; exact HO.out, HZ.out⟩
        case measure => simp [intOf]; omega
      · by_cases hF : F = epoch
        · have eb : (F == epoch) = true := by simp [hF]
          have HE := Lib.hid (show g.memTo epoch (k + 1) = L ++ [(k : Int)] from by rw [HSU.out, HM.out, HL.out]; simp [hF])
          clear hF
          obtain ⟨i0, hi, hz0, hz1, hz2⟩ := info_parts Try.infoInt
          have OW := Lib.hid (fun o => show (wr.alloc o).ownsRow w.heap.size 3 1 (.slice av n cv) n (L.map (Value.int .i64)) from by
            have := HO.out.below (bal wr o)
            unfold OwnI at this
            rwa [HLN.out] at this)
          go_wp2_with (at_builtin; refine wpList_append_own _ rfl _ _ 71 rfl w.heap.size 3 i0 (.int .i64 0) 1 8 Try.underlying71 hi hz0 hz1 hz2 rfl (by decide) _ _ _ rfl (OW.out _) ⟨wr.heap.size, 0, none⟩ 1 1 [.int .i64 k] rfl rfl ?c1 ?c2 ?c3 ?c4 ?c5 ?_)
          case c1 =>
            intro j u hj
            match j, hj with
            | 0, hj => simp at hj; subst hj; simp [Addr.add]
          case c2 => intro u hu; simp at hu; subst hu; rfl
          case c3 => unfold maxLen; omega
          case c4 => omega
          case c5 => exact Nat.le_trans HZ.out.size (bal wr _).size
          intro v' w7 hown1 hg1 _
          have HN := Lib.hid (show OwnI w.heap.size w7 v' (g.memTo epoch (k + 1)) from by rw [HE.out]; simpa [OwnI, HLN.out] using hown1)
          have HZ7 := Lib.hid ((HZ.out.trans ((bal wr _).mono HZ.out.size)).grown hg1 (Nat.le_trans HZ.out.size (bal wr _).size) (fun m hm => by have := HO.out.blk m hm; omega))
          clear hown1 hg1
          go_wp2
          go_roundw
          case rel => exact ⟨k + 1, by omega, by go_num, HN.out, HZ7.out⟩
          case measure => simp [intOf]; omega
        · have eb : (F == epoch) = false := by simp [hF]
          have HE := Lib.hid (show g.memTo epoch (k + 1) = L from by rw [HSU.out, HM.out, HL.out]; simp [hF])
          clear hF
          go_wp2
          go_roundw
          case rel => exact ⟨k + 1, by omega, by go_num, by rw [HE.out]; exact HO.out, HZ.out⟩
          case measure => simp [intOf]; omega
    · obtain rfl : k = 3 := by omega
      have HLL := Lib.hid (show g.mem epoch = L from HL.out)
      go_wp2
      go_ret
      exact ⟨av, cv, by rw [HLL.out, HLN.out]; rfl, by rw [HLL.out, HLN.out]; exact HO.out, HZ.out⟩

/-- the group in its block -/
structure PG (w : World) (G : Nat) (h : Gp) (wx : World) : Prop where
  keeps : Keeps (· = G) w wx
  ok : h.ok
  hG : wx.heap[G]? = some (.cells h.arr 55 (0, 0))
theorem PG.lt {w wx : World} {G : Nat} {h : Gp} (f : PG w G h wx) : G < wx.heap.size := (Array.getElem?_eq_some_iff.1 f.hG).1
theorem PG.over {w wx w' : World} {G : Nat} {h : Gp} (f : PG w G h wx) (b : Below wx.heap.size wx w') : PG w G h w' :=
  ⟨f.keeps.trans (Keeps.of_below b), f.ok, (b.block _ f.lt).trans f.hG⟩
theorem PG.setF {w wx : World} {G : Nat} {h : Gp} (f : PG w G h wx) {i : Nat} (hi : i < 3) (e : Int) : PG w G (Gp.lift1 e h i) (wx.setCell ⟨G, i * 25, none⟩ (.int .i64 e)) := by
  have hir : i < h.r.length := by rw [f.ok.r3]; exact hi
  refine ⟨f.keeps.setCell (p := ⟨G, i * 25, none⟩) rfl _, Gp.lift1_ok f.ok e hi, ?_⟩
  have := gp_setF f.hG f.ok hir e
  unfold Gp.lift1
  rw [Int.toNat_natCast, List.getD_eq_getElem?_getD, List.getElem?_eq_getElem hir]
  exact this
theorem mem_nats {g : Gp} {ep : Int} (j : Nat) (h : j < (g.mem ep).length) : ∃ i : Nat, i < 3 ∧ (g.mem ep)[j] = (i : Int) := by
  obtain ⟨i', e, h3, -⟩ := Gp.mem_lt (List.getElem_mem h)
  exact ⟨i', h3, e⟩

set_option maxRecDepth 100000 in
set_option maxHeartbeats 2000000 in
theorem rgfence_any (g : Gp) (epoch : Int) (G : Nat) (w : World) (hg : g.ok) (he : -4611686018427387904 ≤ epoch ∧ epoch ≤ 4611686018427387904) (h : w.heap[G]? = some (.cells g.arr 55 (0, 0))) :
    Calls Try.prog 28 #[.pointer (some ⟨G, 0, none⟩), .int .i64 epoch] w fun e w' => e = .returned (.bool (decide (2 ≤ ((g.fence epoch).mem epoch).length))) ∧ PG w G (g.fence epoch) w' := by
  have F0 := Lib.hid (show PG w G g w from ⟨Keeps.refl _ _, hg, h⟩)
  have q1 : IntKind.i64.wrap (epoch - 1) = epoch - 1 := IntWalk.i64_in _ (by omega)
  clear hg h
  go_enter Try.func28, Try.ntmps28
  go_wp2_with fail
  refine (rmembers_any g _ G _ F0.out.ok F0.out.hG).mono ?_
  rintro e w2 ⟨a2, c2, rfl, hown, b2⟩
  have F2 := Lib.hid (F0.out.over b2)
  have HI := Lib.hid hown.hi
  have hsz := Lib.hid b2.size
  obtain ⟨m, hm⟩ : ∃ m, (g.mem (epoch - 1)).length = m := ⟨_, rfl⟩
  rw [hm]
  have HM := Lib.hid hm
  have hm3 : m ≤ 3 := hm ▸ g.mem_len (epoch - 1) 3
  clear hm b2 hown
  obtain ⟨B, hB⟩ : ∃ B, decide ((2 : Int) ≤ (m : Int)) = B := ⟨_, rfl⟩
  have HB2 := Lib.hid hB
  go_upto_if 13 with fail
  clear hB
  go_cut [13] (fun _ wx => PG w G (g.fence epoch) wx)
  case first =>
    cases B
    · have HF := Lib.hid (show g.fence epoch = g from if_neg (by rw [HM.out]; have := HB2.out; simp at this; omega))
      go_wp2
      go_meet
      rw [HF.out]
      exact F2.out
    · have HF := Lib.hid (show g.fence epoch = g.liftAll epoch (g.mem (epoch - 1)) from (if_pos (by rw [HM.out]; have := HB2.out; simp at this; omega)).trans (liftAll_mem F0.out.ok epoch 3 (Nat.le_refl _)).symm)
      have hGlt := Lib.hid (show G < w.heap.size from F0.out.lt)
      go_wp2
      go_loopw [6, 14] (fun i _ wr => ∃ k : Nat, k ≤ m ∧ i = .int .i64 k ∧ PG w G (g.liftAll epoch ((g.mem (epoch - 1)).take k)) wr ∧ Keeps (· = G) w2 wr) (fun i _ _ => m - (intOf i).toNat)
      case atStart => exact ⟨0, by omega, rfl, F2.out, Keeps.refl _ _⟩
      case round =>
        obtain ⟨k, hk, rfl, pg, kp⟩ := hrel
        obtain ⟨h, hh⟩ : ∃ h, g.liftAll epoch ((g.mem (epoch - 1)).take k) = h := ⟨_, rfl⟩
        rw [hh] at pg
        have PGH := Lib.hid pg
        have KP := Lib.hid kp
        have HH := Lib.hid hh
        clear pg kp hh F2
        by_cases hkm : k < m
        · obtain ⟨i', h3, hx⟩ := mem_nats k (show k < (g.mem (epoch - 1)).length by rw [HM.out]; exact hkm)
          obtain ⟨bb, oo, rfl, hlo, hbk, hcell⟩ := HI.out k (by rw [HM.out]; exact hkm)
          have HP1 := Lib.hid (show g.liftAll epoch ((g.mem (epoch - 1)).take (k + 1)) = Gp.lift1 epoch h (i' : Int) from by
            rw [List.take_succ_eq_append_getElem (by rw [HM.out]; exact hkm), Gp.liftAll_snoc, HH.out, hx])
          rw [hx] at hcell
          have c0 := (KP.out.cell (b := bb) (o := oo + k) (by have := hGlt.out; omega) hbk).trans hcell
          have h3i : (i' : Int) < 3 := by omega
          obtain ⟨f0, f1⟩ := gp_floor PGH.out.hG PGH.out.ok (i := i') (by rw [PGH.out.ok.r3]; exact h3)
          have PS := Lib.hid (PGH.out.setF h3 epoch)
          have KS := Lib.hid (KP.out.setCell (p := ⟨G, i' * 25, none⟩) rfl (.int .i64 epoch))
          clear hx hcell
          go_wp2
          go_region
          go_wp2
          go_roundw
          case rel => exact ⟨k + 1, by omega, by go_num, by rw [HP1.out]; exact PS.out.over (Below.refl _ _).drew, KS.out.drew⟩
          case measure => simp [intOf]; omega
        · obtain rfl : k = m := by omega
          rw [List.take_of_length_le (by rw [HM.out]; exact Nat.le_refl _)] at HH
          go_wp2
          go_meet
          rw [HF.out, HH.out]
          exact PGH.out
  case rest =>
    obtain ⟨Y, hY⟩ : ∃ Y, g.fence epoch = Y := ⟨_, rfl⟩
    rw [hY] at hcut
    have FC := Lib.hid hcut
    have HY := Lib.hid hY
    clear hcut F2 hY
    go_wp2_with fail
    refine (rmembers_any Y epoch G _ FC.out.ok FC.out.hG).mono ?_
    rintro e w7 ⟨a7, c7, rfl, -, b7⟩
    have F7 := Lib.hid (FC.out.over b7)
    obtain ⟨n, hn⟩ : ∃ n, (Y.mem epoch).length = n := ⟨_, rfl⟩
    rw [hn]
    have HN := Lib.hid hn
    clear hn b7 FC
    go_wp2
    go_ret
    rw [HY.out, HN.out]
    exact ⟨by simp; omega, F7.out⟩
end Go.Proofs.Ytclhmpknkinjcaa
