/-
  Contracts: group.New, Members.
-/
import Derived.Test.YtclhmpknkinjcaaGp
namespace Go.Proofs.Ytclhmpknkinjcaa
open Go.RowKit Go.Sort

def Gp.zero : Gp := ⟨List.replicate 3 Rp.zero, List.replicate 3 false⟩
def Gp.start : Gp := ⟨List.replicate 3 Rp.start, List.replicate 3 true⟩
def Gp.startTo (k : Nat) : Gp := ⟨List.replicate k Rp.start ++ List.replicate (3 - k) Rp.zero, List.replicate k true ++ List.replicate (3 - k) false⟩
theorem Gp.zero_ok : Gp.zero.ok := ⟨rfl, rfl, fun r hr => by simp [Gp.zero] at hr; subst hr; rfl⟩
theorem startTo_ok (k : Nat) (hk : k ≤ 3) : (Gp.startTo k).ok := by
  refine ⟨by simp [Gp.startTo]; omega, by simp [Gp.startTo]; omega, fun r hr => ?_⟩
  simp only [Gp.startTo, List.mem_append, List.mem_replicate] at hr
  rcases hr with ⟨-, rfl⟩ | ⟨-, rfl⟩ <;> rfl
theorem startTo_succ (k : Nat) (hk : k < 3) : ((Gp.startTo k).setR k Rp.start).setU k true = Gp.startTo (k + 1) := by
  rcases (by omega : k = 0 ∨ k = 1 ∨ k = 2) with rfl | rfl | rfl <;> rfl
theorem gp_zero_arr : Try.zeroCells40 = Gp.zero.arr := by kernel_rfl

set_option maxRecDepth 100000 in
set_option maxHeartbeats 200000 in
theorem gnew_any (w : World) : Calls Try.prog 25 #[] w fun e w' => e = .returned (.agg Gp.start.arr) ∧ Below w.heap.size w w' := by
  go_enter Try.func25, Try.ntmps25
  go_upto_region 2 with fail
  obtain ⟨w1, hw1⟩ : ∃ w1, w1 = (w.alloc (.cells Gp.zero.arr 40)).alloc (.cells Gp.zero.arr 40) := ⟨_, rfl⟩
  rw [← gp_zero_arr] at hw1
  rw [← hw1]
  rw [gp_zero_arr] at hw1
  have HB := Lib.hid (show Below w.heap.size w w1 from hw1 ▸ (bal w _).alloc (by simp) _)
  have HO := Lib.hid (show w1.heap[w.heap.size]? = some (.cells Gp.zero.arr 40 (0, 0)) from hw1 ▸ heap_alloc2_old w _ _)
  have HG := Lib.hid (show w1.heap[w.heap.size + 1]? = some (.cells Gp.zero.arr 40 (0, 0)) from hw1 ▸ heap_alloc2_new w _ _)
  clear hw1
  go_wp2
  go_loopw [3] (fun i wr => ∃ k : Nat, k ≤ 3 ∧ i = .int .i64 k ∧ wr.heap[w.heap.size + 1]? = some (.cells (Gp.startTo k).arr 40 (0, 0)) ∧ wr.heap[w.heap.size]? = some (.cells Gp.zero.arr 40 (0, 0)) ∧ Below w.heap.size w wr) (fun i _ => 3 - (intOf i).toNat)
  case atStart => exact ⟨0, by omega, rfl, HG.out, HO.out, HB.out⟩
  case round =>
    obtain ⟨k, hk, rfl, hG, hO, hB⟩ := hrel
    by_cases hk3 : k < 3
    · have ok := startTo_ok k hk
      have hkr : k < (Gp.startTo k).r.length := by rw [ok.r3]; exact hk3
      have HX := Lib.hid hG
      have HY := Lib.hid hO
      have HZ := Lib.hid hB
      have OK := Lib.hid ok
      have HKR := Lib.hid hkr
      clear hG hO hB ok hkr HO HG HB
      go_wp2_with fail
      refine (new_any _).mono ?_
      rintro e w3 ⟨rfl, b3⟩
      obtain ⟨S, hS⟩ : ∃ S, Rp.start = S := ⟨_, rfl⟩
      rw [hS]
      have HS := Lib.hid (show ((Gp.startTo k).setR k S).setU k true = Gp.startTo (k + 1) from hS ▸ startTo_succ k hk3)
      have S8 : S.cells.length = 8 := by rw [← hS]; rfl
      have HX3 := Lib.hid ((b3.block _ (Array.getElem?_eq_some_iff.1 HX.out).1).trans HX.out)
      have HY3 := Lib.hid ((b3.block _ (Array.getElem?_eq_some_iff.1 HY.out).1).trans HY.out)
      have HZ3 := Lib.hid (HZ.out.trans (b3.mono HZ.out.size))
      clear HX HY HZ b3 hS
      have Z3 := Lib.hid (Rp.size S8)
      have TH := Lib.hid (show w3.there (w.heap.size + 1) (k * 25) S.arr.size from by rw [Z3.out]; exact (gp_range HX3.out OK.out HKR.out).2)
      have W3 := Lib.hid (gp_setR HX3.out OK.out HKR.out S8)
      have OK3 := Lib.hid (OK.out.setR k S8)
      clear S8
      obtain ⟨u0, u1⟩ := gp_up W3.out OK3.out (i := k) (by rw [OK3.out.u3]; exact hk3)
      have W4 := Lib.hid (gp_setU W3.out OK3.out (i := k) true)
      have K4 := Lib.hid ((Keeps.setCells (S := (· = w.heap.size + 1)) rfl S.arr.toList (k * 25) w3 w3 (Keeps.refl _ _)).setCell (p := ⟨w.heap.size + 1, 75 + k, none⟩) rfl (.bool true))
      go_wp2_with ((with_reducible refine st_mid1 rfl 26 _ _ rfl ?_); refine ⟨w.heap.size + 1, k * 25, S.arr, rfl, rfl, TH.out, by rw [rp_row.2.1, Z3.out], Rp.one _, ?_⟩)
      go_roundw
      case rel => exact ⟨k + 1, by omega, by go_num, by rw [← HS.out]; exact W4.out, (K4.out.block _ (by omega) (Array.getElem?_eq_some_iff.1 HY3.out).1).trans HY3.out, HZ3.out.trans (K4.out.below HZ3.out.size (fun m hm => by omega))⟩
      case measure => simp [intOf]; omega
    · obtain rfl : k = 3 := by omega
      obtain ⟨G, hGS⟩ : ∃ G, Gp.startTo 3 = G := ⟨_, rfl⟩
      have ok := startTo_ok 3 (by omega)
      rw [hGS] at hG ok
      have HE := Lib.hid (show Gp.start = G from hGS ▸ rfl)
      have Z := Lib.hid (Gp.size ok)
      have HX := Lib.hid hG
      have HY := Lib.hid hO
      have HZ := Lib.hid hB
      clear hGS ok hG hO hB HO HG HB
      go_wp2_with (first | ((with_reducible refine ld_row1 rfl 40 _ rfl ?_); refine ⟨w.heap.size + 1, _, G.arr, _, rfl, HX.out, gp_row.1, rfl, by rw [gp_row.2, Z.out], ?_⟩) | ((with_reducible refine st_row1 rfl 40 _ _ rfl ?_); refine ⟨w.heap.size, _, G.arr, _, rfl, rfl, HY.out, by rw [gp_row.2, Z.out], by rw [Z.out]; rfl, Gp.one _, ?_⟩))
      refine bodyPost_ret (v := .agg G.arr) (results_row1 Try.results25 _ _ w.heap.size 40 G.arr (0, 0) _ rfl (setRow_heap _ _ _ _ _ _ HY.out) gp_row.1 rfl (by rw [gp_row.2, Z.out])) rfl ?_
      exact ⟨by rw [HE.out], HZ.out.trans (((Keeps.refl (· = w.heap.size) wr).setRow rfl _).below HZ.out.size (fun m hm => by omega))⟩

set_option maxRecDepth 100000 in
set_option maxHeartbeats 2000000 in
theorem members_any (g : Gp) (epoch : Int) (w : World) (hg : g.ok) : Calls Try.prog 37 #[.agg g.arr, .int .i64 epoch] w fun e w' => ∃ a c, e = .returned (.slice a (g.mem epoch).length c) ∧ OwnI (w.heap.size + 1) w' (.slice a (g.mem epoch).length c) (g.mem epoch) ∧ Below w.heap.size w w' := by
  have OK := Lib.hid hg
  clear hg
  go_enter Try.func37, Try.ntmps37
  go_upto_region 2 with fail
  obtain ⟨w1, hw1⟩ : ∃ w1, w1 = w.alloc (.cells g.arr 40) := ⟨_, rfl⟩
  rw [← hw1]
  have HB := Lib.hid (show Below w.heap.size w w1 from hw1 ▸ bal w _)
  have HG := Lib.hid (show w1.heap[w.heap.size]? = some (.cells g.arr 40 (0, 0)) from hw1 ▸ heap_alloc_new w _)
  clear hw1
  go_wp2
  go_loopw [5, 7] (fun v i wr => ∃ k : Nat, k ≤ 3 ∧ i = .int .i64 k ∧ OwnI (w.heap.size + 1) wr v (g.memTo epoch k) ∧ wr.heap[w.heap.size]? = some (.cells g.arr 40 (0, 0)) ∧ Below w.heap.size w wr) (fun _ i _ => 3 - (intOf i).toNat)
  case atStart => exact ⟨0, by omega, rfl, ⟨rfl, .inl ⟨rfl, rfl⟩⟩, HG.out, HB.out⟩
  case round =>
    obtain ⟨k, hk, rfl, hO, hG, hB⟩ := hrel
    obtain ⟨L, hL⟩ : ∃ L, g.memTo epoch k = L := ⟨_, rfl⟩
    rw [hL] at hO
    obtain ⟨av, cv, rfl, -⟩ := hO.shape
    have hLk : L.length ≤ k := hL ▸ g.mem_len epoch k
    obtain ⟨n, hn⟩ : ∃ n, L.length = n := ⟨_, rfl⟩
    have HLN := Lib.hid hn
    have HL := Lib.hid hL
    rw [hn] at hLk hO ⊢
    have HO := Lib.hid hO
    have HX := Lib.hid hG
    have HZ := Lib.hid hB
    clear hO hG hB HG HB hn hL
    by_cases hk3 : k < 3
    · have hkr : k < g.r.length := by rw [OK.out.r3]; exact hk3
      have hku : k < g.u.length := by rw [OK.out.u3]; exact hk3
      obtain ⟨u0, -⟩ := gp_up HX.out OK.out hku
      obtain ⟨f0, -⟩ := gp_floor HX.out OK.out hkr
      obtain ⟨U, hU⟩ : ∃ U, g.u[k] = U := ⟨_, rfl⟩
      obtain ⟨F, hF⟩ : ∃ F, g.r[k].floor = F := ⟨_, rfl⟩
      rw [hU] at u0
      rw [hF] at f0
      have HM := Lib.hid (show g.isM epoch k = (U && decide (F = epoch)) from by unfold Gp.isM; rw [← hU, ← hF]; simp [hku, hkr])
      have HSU := Lib.hid (g.mem_succ epoch k)
      clear hU hF hkr hku
      cases U
      · have HE := Lib.hid (show g.memTo epoch (k + 1) = L from by rw [HSU.out, HM.out, HL.out]; simp)
        clear f0
        go_wp2
        go_roundw
        case rel => exact ⟨k + 1, by omega, by go_num, by rw [HE.out]; exact HO.out, HX.out, HZ.out⟩
        case measure => simp [intOf]; omega
      · by_cases hF : F = epoch
        · have eb : (F == epoch) = true := by simp [hF]
          have HE := Lib.hid (show g.memTo epoch (k + 1) = L ++ [(k : Int)] from by rw [HSU.out, HM.out, HL.out]; simp [hF])
          clear hF
          obtain ⟨i0, hi, hz0, hz1, hz2⟩ := info_parts Try.infoInt
          have OW := Lib.hid (fun o => show (wr.alloc o).ownsRow (w.heap.size + 1) 3 1 (.slice av n cv) n (L.map (Value.int .i64)) from by
            have := HO.out.below (bal wr o)
            unfold OwnI at this
            rwa [HLN.out] at this)
          go_wp2_with (at_builtin; refine wpList_append_own _ rfl _ _ 71 rfl (w.heap.size + 1) 3 i0 (.int .i64 0) 1 8 Try.underlying71 hi hz0 hz1 hz2 rfl (by decide) _ _ _ rfl (OW.out _) ⟨wr.heap.size, 0, none⟩ 1 1 [.int .i64 k] rfl rfl ?c1 ?c2 ?c3 ?c4 ?c5 ?_)
          case c1 =>
            intro j u hj
            match j, hj with
            | 0, hj => simp at hj; subst hj; simp [Addr.add]
          case c2 => intro u hu; simp at hu; subst hu; rfl
          case c3 => unfold maxLen; omega
          case c4 => omega
          case c5 => exact Nat.le_trans (Array.getElem?_eq_some_iff.1 HX.out).1 (bal wr _).size
          intro v' w7 hown1 hg1 _
          have HN := Lib.hid (show OwnI (w.heap.size + 1) w7 v' (g.memTo epoch (k + 1)) from by rw [HE.out]; simpa [OwnI, HLN.out] using hown1)
          have HX7 := Lib.hid (show w7.heap[w.heap.size]? = some (.cells g.arr 40 (0, 0)) from by
            have hlt := (Array.getElem?_eq_some_iff.1 HX.out).1
            rw [hg1.block w.heap.size (by simp; omega) (fun e => by have := HO.out.blk _ e.symm; omega), Below.heap_alloc _ _ _ hlt]
            exact HX.out)
          have HZ7 := Lib.hid ((HZ.out.trans ((bal wr _).mono HZ.out.size)).grown hg1 (Nat.le_trans HZ.out.size (bal wr _).size) (fun m hm => by have := HO.out.blk m hm; omega))
          clear hown1 hg1
          go_wp2
          go_roundw
          case rel => exact ⟨k + 1, by omega, by go_num, HN.out, HX7.out, HZ7.out⟩
          case measure => simp [intOf]; omega
        · have eb : (F == epoch) = false := by simp [hF]
          have HE := Lib.hid (show g.memTo epoch (k + 1) = L from by rw [HSU.out, HM.out, HL.out]; simp [hF])
          clear hF
          go_wp2
          go_roundw
          case rel => exact ⟨k + 1, by omega, by go_num, by rw [HE.out]; exact HO.out, HX.out, HZ.out⟩
          case measure => simp [intOf]; omega
    · obtain rfl : k = 3 := by omega
      have HLL := Lib.hid (show g.mem epoch = L from HL.out)
      go_wp2
      go_ret
      exact ⟨av, cv, by rw [HLL.out, HLN.out]; rfl, by rw [HLL.out, HLN.out]; exact HO.out, HZ.out⟩
end Go.Proofs.Ytclhmpknkinjcaa
