/-
  Contract: the document's (*Group).Read.
-/
import Derived.Test.YtclhmpknkinjcaaRGNew
namespace Go.Proofs.Ytclhmpknkinjcaa
open Go.RowKit Go.Sort

theorem PG.side {w wx w' : World} {G R : Nat} {h : Gp} (f : PG w G h wx) (hR : w.heap.size ≤ R) (hG : G < w.heap.size) (k : Keeps (· = R) wx w') : PG w G h w' :=
  ⟨⟨k.os.trans f.keeps.os, k.tape.trans f.keeps.tape, k.output.trans f.keeps.output, Nat.le_trans f.keeps.size k.size, fun b hb hs => (k.block b (by omega) (Nat.lt_of_lt_of_le hs f.keeps.size)).trans (f.keeps.block b hb hs)⟩, f.ok, (k.block G (by omega) f.lt).trans f.hG⟩
theorem PG.setC {w wx : World} {G i k : Nat} {h : Gp} (f : PG w G h wx) (c : Cel) (hi : i < 3) (hk : k < 8) :
    PG w G (h.put1 k c (i : Int)) (((wx.setCell ⟨G, i * 25 + 1 + k * 3, none⟩ (.int .i64 c.e)).setCell ⟨G, i * 25 + 1 + k * 3 + 1, none⟩ (.int .i64 c.n)).setCell ⟨G, i * 25 + 1 + k * 3 + 2, none⟩ (.string c.d)) ∧
    Keeps (· = G) wx (((wx.setCell ⟨G, i * 25 + 1 + k * 3, none⟩ (.int .i64 c.e)).setCell ⟨G, i * 25 + 1 + k * 3 + 1, none⟩ (.int .i64 c.n)).setCell ⟨G, i * 25 + 1 + k * 3 + 2, none⟩ (.string c.d)) := by
  have kp : Keeps (· = G) wx (((wx.setCell ⟨G, i * 25 + 1 + k * 3, none⟩ (.int .i64 c.e)).setCell ⟨G, i * 25 + 1 + k * 3 + 1, none⟩ (.int .i64 c.n)).setCell ⟨G, i * 25 + 1 + k * 3 + 2, none⟩ (.string c.d)) :=
    Keeps.setCell (S := (· = G)) (Keeps.setCell (S := (· = G)) (Keeps.setCell (S := (· = G)) (Keeps.refl _ _) rfl _) rfl _) rfl _
  have hir : i < h.r.length := by rw [f.ok.r3]; exact hi
  have hkr : k < h.r[i].cells.length := by rw [f.ok.c8 _ (List.getElem_mem hir)]; exact hk
  have e : h.put1 k c (i : Int) = h.setR i ⟨h.r[i].floor, h.r[i].cells.set k c⟩ := by simp [Gp.put1, hir]
  refine ⟨⟨f.keeps.trans kp, Gp.put1_ok f.ok k c hi, ?_⟩, kp⟩
  rw [e]
  exact gp_setCA f.hG f.ok hir hkr c

set_option maxRecDepth 100000 in
set_option maxHeartbeats 2000000 in
theorem rgread_any (g : Gp) (epoch : Int) (k G : Nat) (w : World) (hg : g.ok) (hk8 : k < 8) (h : w.heap[G]? = some (.cells g.arr 55 (0, 0))) :
    Calls Try.prog 30 #[.pointer (some ⟨G, 0, none⟩), .int .i64 epoch, .int .i64 k] w fun e w' => e = .returned (.tuple #[.agg (g.readC epoch k).cells, .bool (decide (2 ≤ (g.mem epoch).length))]) ∧ PG w G (g.read epoch k) w' := by
  have F0 := Lib.hid (show PG w G g w from ⟨Keeps.refl _ _, hg, h⟩)
  have hlt : G < w.heap.size := F0.out.lt
  clear hg h
  go_enter Try.func30, Try.ntmps30
  go_upto_region 1 with fail
  obtain ⟨w1, hw1⟩ : ∃ w1, w1 = w.alloc (.cells #[.int .i64 0, .int .i64 0, .string ⟨#[]⟩] 23) := ⟨_, rfl⟩
  rw [← hw1]
  have F1 := Lib.hid (show PG w G g w1 from hw1 ▸ F0.out.over (bal w _))
  have R1 := Lib.hid (show w1.heap[w.heap.size]? = some (.cells Cel.zero.cells 23 (0, 0)) from hw1 ▸ heap_alloc_new w _)
  clear hw1 F0
  go_wp2_with fail
  refine (rmembers_any g epoch G _ F1.out.ok F1.out.hG).mono ?_
  rintro e w2 ⟨a2, c2, rfl, hown, b2⟩
  have F2 := Lib.hid (F1.out.over b2)
  have R2 := Lib.hid ((b2.block _ (Array.getElem?_eq_some_iff.1 R1.out).1).trans R1.out)
  have HI := Lib.hid hown.hi
  have ML := Lib.hid (g.mem_len epoch 3)
  obtain ⟨m, hm⟩ : ∃ m, (g.mem epoch).length = m := ⟨_, rfl⟩
  have G1OK := Lib.hid F1.out.ok
  have NW := Lib.hid (fun w' (h : w'.heap[G]? = some (.cells g.arr 55 (0, 0))) (hi : HiI 0 w' a2 (g.mem epoch)) => newest_any g (g.mem epoch) a2 c2 k G w' G1OK.out hk8 ML.out (fun j h => mem_nats j h) hi h)
  rw [hm] at NW ⊢
  have HM := Lib.hid hm
  have hm3 : m ≤ 3 := hm ▸ ML.out
  have hw1lt : w.heap.size ≤ w1.heap.size := F1.out.keeps.size
  clear hm b2 F1 R1 hown ML
  by_cases hm2 : m < 2
  · have HN := Lib.hid (show g.read epoch k = g ∧ g.readC epoch k = Cel.zero ∧ decide (2 ≤ m) = false from by
      have : ¬ 2 ≤ (g.mem epoch).length := by rw [HM.out]; omega
      exact ⟨if_neg this, if_neg this, by simp; omega⟩)
    obtain ⟨C0, hC0⟩ : ∃ C0, Cel.zero = C0 := ⟨_, rfl⟩
    have BC := Lib.hid (show Try.prog.built 23 [] = some C0.cells from hC0 ▸ built_cell0)
    have HZC := Lib.hid (show w2.heap[w.heap.size]? = some (.cells C0.cells 23 (0, 0)) from hC0 ▸ R2.out)
    rw [hC0] at HN
    clear hC0
    go_wp2_with (first | ((with_reducible refine bld1 rfl 23 _ rfl ?_); refine ⟨[], C0.cells, rfl, BC.out, ?_⟩) | ((with_reducible refine st_row1 rfl 23 _ _ rfl ?_); refine ⟨w.heap.size, _, C0.cells, _, rfl, rfl, HZC.out, cell_row.2, rfl, cel_one _, ?_⟩))
    refine bodyPost_ret (v := .tuple #[.agg C0.cells, .bool false]) (results_row_tmp Try.results30 _ _ w.heap.size 23 C0.cells (0, 0) _ _ rfl rfl (setRow_heap _ _ _ _ _ _ HZC.out) cell_row.1 rfl cell_row.2) rfl ?_
    exact ⟨by rw [HN.out.2.1, HM.out, HN.out.2.2], by rw [HN.out.1]; exact F2.out.side (Nat.le_refl _) hlt ((Keeps.refl (· = w.heap.size) w2).setRow rfl _)⟩
  · have hm2' : 2 ≤ (g.mem epoch).length := by rw [HM.out]; omega
    have HD := Lib.hid (show decide (2 ≤ m) = true from by simp; omega)
    obtain ⟨b, hb⟩ : ∃ b, bestL k (g.frm epoch) = b := ⟨_, rfl⟩
    have HC := Lib.hid (show g.readC epoch k = b from hb ▸ if_pos hm2')
    have HN := Lib.hid (show g.read epoch k = g.putAll k b (g.mem epoch) from by rw [← HC.out]; exact if_pos hm2')
    have hd2 : decide ((m : Int) < 2) = false := by simp; omega
    have hk8' : (k : Int) < 8 := by omega
    have NW2 := Lib.hid (NW.out _ F2.out.hG (HI.out.mono (Nat.zero_le _)))
    rw [Gp.some_frm, hb] at NW2
    clear hm2' hb NW
    go_wp2_with fail
    refine NW2.out.mono ?_
    rintro e w3 ⟨rfl, b3⟩
    have F3 := Lib.hid (F2.out.over b3)
    have R3 := Lib.hid ((b3.block _ (Array.getElem?_eq_some_iff.1 R2.out).1).trans R2.out)
    have B3 := Lib.hid b3
    clear b3 NW2 F2
    go_upto_region 5 with ((with_reducible refine st_row1 rfl 23 _ _ rfl ?_); refine ⟨w3.heap.size, _, b.cells, _, rfl, rfl, heap_alloc_new w3 _, cell_row.2, rfl, cel_one _, ?_⟩)
    obtain ⟨w4, hw4⟩ : ∃ w4, w4 = (w3.alloc (.cells #[.int .i64 0, .int .i64 0, .string ⟨#[]⟩] 23)).setRow w3.heap.size b.cells := ⟨_, rfl⟩
    rw [← hw4]
    have b4 : Below w3.heap.size w3 w4 := hw4 ▸ bel_row w3 _ _ _
    have F4 := Lib.hid (F3.out.over b4)
    have R4 := Lib.hid ((b4.block _ (Array.getElem?_eq_some_iff.1 R3.out).1).trans R3.out)
    have N4 := Lib.hid (show w4.heap[w3.heap.size]? = some (.cells b.cells 23 (0, 0)) from hw4 ▸ setRow_heap _ _ _ _ _ _ (heap_alloc_new w3 _))
    have B4 := Lib.hid (show Below w2.heap.size w2 w4 from B3.out.trans (b4.mono B3.out.size))
    have hNw : w.heap.size < w3.heap.size := (Array.getElem?_eq_some_iff.1 R3.out).1
    clear hw4 b4 F3 R3 B3 R2
    obtain ⟨N, hNN⟩ : ∃ N, w3.heap.size = N := ⟨_, rfl⟩
    rw [hNN] at N4 hNw
    rw [hNN]
    clear hNN
    have hN4 : N < w4.heap.size := (Array.getElem?_eq_some_iff.1 N4.out).1
    go_wp2
    go_loopw [10, 22] (fun i _ wy => ∃ p : Nat, p ≤ m ∧ i = .int .i64 p ∧ PG w G (g.putAll k b ((g.mem epoch).take p)) wy ∧ Keeps (· = G) w4 wy) (fun i _ _ => m - (intOf i).toNat)
    case atStart => exact ⟨0, by omega, rfl, F4.out, Keeps.refl _ _⟩
    case round =>
      obtain ⟨p, hp, rfl, rb, kp⟩ := hrel
      obtain ⟨h, hh⟩ : ∃ h, g.putAll k b ((g.mem epoch).take p) = h := ⟨_, rfl⟩
      rw [hh] at rb
      have RH := Lib.hid rb
      have KP := Lib.hid kp
      have HH := Lib.hid hh
      have HNB := Lib.hid ((kp.block N (by omega) hN4).trans N4.out)
      clear rb kp hh F4
      by_cases hpj : p < m
      · obtain ⟨i', h3, hx⟩ := mem_nats p (show p < (g.mem epoch).length by rw [HM.out]; exact hpj)
        obtain ⟨bb, oo, rfl, hlo, hbk, hcell⟩ := HI.out p (by rw [HM.out]; exact hpj)
        have HP1 := Lib.hid (show g.putAll k b ((g.mem epoch).take (p + 1)) = h.put1 k b (i' : Int) from by
          rw [List.take_succ_eq_append_getElem (by rw [HM.out]; exact hpj), Gp.putAll_snoc, HH.out, hx])
        rw [hx] at hcell
        have hwl := RH.out.keeps.size
        have c0 := (KP.out.cell (b := bb) (o := oo + p) (by omega) (Nat.lt_of_lt_of_le hbk B4.out.size)).trans ((B4.out.cell (p := ⟨bb, oo + p, none⟩) hbk).trans hcell)
        have h3i : (i' : Int) < 3 := by omega
        have hir : i' < h.r.length := by rw [RH.out.ok.r3]; exact h3
        obtain ⟨b0, b1, b2⟩ := cell_box HNB.out
        obtain ⟨⟨g0, g1, g2⟩, f0, f1, f2⟩ := gp_cellA (k := k) RH.out.hG RH.out.ok hir (by rw [RH.out.ok.c8 _ (List.getElem_mem hir)]; exact hk8)
        have RS := Lib.hid (RH.out.setC b (i := i') h3 hk8)
        clear hx hcell
        go_wp2
        go_region
        go_wp2
        go_roundw
        case rel => exact ⟨p + 1, by omega, by go_num, by rw [HP1.out]; exact RS.out.1.over (Below.refl _ _).drew, (KP.out.trans RS.out.2).drew⟩
        case measure => simp [intOf]; omega
      · obtain rfl : p = m := by omega
        rw [List.take_of_length_le (by rw [HM.out]; exact Nat.le_refl _)] at HH
        have HR := Lib.hid (HN.out.trans HH.out)
        have HRR := Lib.hid ((KP.out.block w.heap.size (by omega) (by omega)).trans R4.out)
        clear HN HH
        go_wp2_with (first | ((with_reducible refine ld_row1 rfl 23 _ rfl ?_); refine ⟨N, _, b.cells, _, rfl, HNB.out, cell_row.1, rfl, cell_row.2, ?_⟩) | ((with_reducible refine st_row1 rfl 23 _ _ rfl ?_); refine ⟨w.heap.size, _, b.cells, _, rfl, rfl, HRR.out, cell_row.2, rfl, cel_one _, ?_⟩))
        refine bodyPost_ret (v := .tuple #[.agg b.cells, .bool true]) (results_row_tmp Try.results30 _ _ w.heap.size 23 b.cells (0, 0) _ _ rfl rfl (setRow_heap _ _ _ _ _ _ HRR.out) cell_row.1 rfl cell_row.2) rfl ?_
        exact ⟨by rw [HC.out, HM.out, HD.out], by rw [HR.out]; exact RH.out.side (Nat.le_refl _) hlt ((Keeps.refl (· = w.heap.size) wr).setRow rfl _)⟩
end Go.Proofs.Ytclhmpknkinjcaa
