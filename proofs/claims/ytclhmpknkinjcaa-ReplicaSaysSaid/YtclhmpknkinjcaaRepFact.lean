/-
  A closed fact on replicas.
-/
import Derived.Test.YtclhmpknkinjcaaNewR
namespace Go.Proofs.Ytclhmpknkinjcaa
open Go.RowKit Go.Sort

theorem start_admit2 : (Rp.start.admitC 2 ⟨1, 1, ⟨#[120]⟩⟩).get 2 = ⟨1, 1, ⟨#[120]⟩⟩ ∧ (Rp.start.admitC 2 ⟨1, 1, ⟨#[120]⟩⟩).floor = 1 := by decide +kernel
set_option maxRecDepth 100000 in
set_option maxHeartbeats 4000000 in
theorem replicas_fact (w : World) : Calls Try.prog 17 #[] w fun e w' => e = .returned (.bool true) ∧ Below w.heap.size w w' := by
  go_enter Try.func17, Try.ntmps17
  go_wp2_with fail
  refine (new_any _).mono ?_
  rintro e w1 ⟨rfl, b1⟩
  have HB1 := Lib.hid b1
  clear b1
  obtain ⟨A, hA⟩ : ∃ A, Rp.start.admitC 2 ⟨1, 1, ⟨#[120]⟩⟩ = A := ⟨_, rfl⟩
  have hz := Lib.hid (show A.arr.size = 25 from hA ▸ Rp.size (by rw [Rp.admit_len]; rfl))
  have HG := Lib.hid (show A.cells.length = 8 ∧ A.get 2 = ⟨1, 1, ⟨#[120]⟩⟩ ∧ A.floor = 1 from hA ▸ ⟨by rw [Rp.admit_len]; rfl, start_admit2⟩)
  go_wp2_with fail
  refine (admit_x Rp.start 2 2 rfl ⟨1, 1, ⟨#[120]⟩⟩ _ rfl (by omega) A hA true rfl).mono ?_
  rintro e w2 ⟨rfl, b2⟩
  have HB2 := Lib.hid (HB1.out.trans (b2.mono HB1.out.size))
  clear b2 hA
  go_upto_region 2 with (refine wpList_store_row rfl 26 _ _ rfl w2.heap.size A.arr rfl rfl 26 Rp.zero.arr (heap_alloc_new w2 _) (by rw [rp_row.2.1, hz.out]) (by rw [hz.out]; rfl) (Rp.one _) ?_)
  obtain ⟨w3, hw3⟩ : ∃ w3, w3 = (w2.alloc (.cells Rp.zero.arr 26)).setRow w2.heap.size A.arr := ⟨_, rfl⟩
  rw [rp_zero_arr] at hw3
  rw [← hw3]
  have HB3 := Lib.hid (show Below w.heap.size w w3 from hw3 ▸ HB2.out.trans ((bel_row w2 _ _ _).mono HB2.out.size))
  have HN3 := Lib.hid (show w3.heap[w2.heap.size]? = some (.cells A.arr 26 (0, 0)) from hw3 ▸ setRow_heap _ _ _ _ _ _ (heap_alloc_new w2 _))
  clear hw3
  go_wp2_with (refine wpList_load_row rfl 26 _ rfl w2.heap.size rfl 26 A.arr (0, 0) _ HN3.out rp_row.1 rfl (by rw [rp_row.2.1, hz.out]) ?_)
  refine (admit_x A 2 2 rfl ⟨2, 1, ⟨#[121]⟩⟩ _ HG.out.1 (by omega) A (Rp.admit_no (by rw [HG.out.2.2]; decide)) false (by rw [HG.out.2.2]; rfl)).mono ?_
  rintro e w4 ⟨rfl, b4⟩
  have HB4 := Lib.hid (HB3.out.trans (b4.mono HB3.out.size))
  have HN4 := Lib.hid ((b4.block _ (Array.getElem?_eq_some_iff.1 HN3.out).1).trans HN3.out)
  clear b4
  go_upto_region 3 with (refine wpList_store_row rfl 26 _ _ rfl w4.heap.size A.arr rfl rfl 26 Rp.zero.arr (heap_alloc_new w4 _) (by rw [rp_row.2.1, hz.out]) (by rw [hz.out]; rfl) (Rp.one _) ?_)
  obtain ⟨w5, hw5⟩ : ∃ w5, w5 = (w4.alloc (.cells Rp.zero.arr 26)).setRow w4.heap.size A.arr := ⟨_, rfl⟩
  rw [rp_zero_arr] at hw5
  rw [← hw5]
  have HB5 := Lib.hid (show Below w.heap.size w w5 from hw5 ▸ HB4.out.trans ((bel_row w4 _ _ _).mono HB4.out.size))
  have HN5 := Lib.hid (show w5.heap[w2.heap.size]? = some (.cells A.arr 26 (0, 0)) from hw5 ▸ ((bel_row w4 _ _ _).block _ (Array.getElem?_eq_some_iff.1 HN4.out).1).trans HN4.out)
  clear hw5
  obtain ⟨⟨-, -, g6⟩, -⟩ := rp_cell (k := 2) HN5.out (by rw [HG.out.1]; omega)
  rw [← Rp.get_at, HG.out.2.1] at g6
  have g6' : w5.cell? ⟨w2.heap.size, 9, none⟩ = some (.string ⟨#[120]⟩) := g6
  clear g6
  go_wp2
  go_ret
  exact ⟨rfl, HB5.out⟩
end Go.Proofs.Ytclhmpknkinjcaa
