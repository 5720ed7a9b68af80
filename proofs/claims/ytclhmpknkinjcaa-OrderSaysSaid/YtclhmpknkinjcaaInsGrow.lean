/-
  Contract: slices.Insert of one pair at api.Reg: inside, where there is no room; and the three cases in one.
-/
import Derived.Test.YtclhmpknkinjcaaInsMid
namespace Go.Proofs.Ytclhmpknkinjcaa
open Go.RowKit

theorem grow_row (l : List (Int × Int)) (C : List Value) (i : Nat) (x y : Int) (hi : i < l.length) (hc : (l.length + 1) * 2 ≤ C.length) (ht : C.take (i * 2) = pcells (l.take i)) :
    let m := C.take (i * 2) ++ pcells [(x, y)] ++ C.drop (i * 2 + 2)
    let f := m.take ((i + 1) * 2) ++ pcells (l.drop i) ++ m.drop ((i + 1) * 2 + (l.length - i) * 2)
    m.length = C.length ∧ f.length = C.length ∧ f.take ((l.length + 1) * 2) = pcells (insertAt l i (x, y)) := by
  intro m f
  have hp : (pcells [(x, y)]).length = 2 := rfl
  have hd : (pcells (l.drop i)).length = (l.length - i) * 2 := by rw [pcells_length]; simp
  have hm : m = pcells (l.take i ++ [(x, y)]) ++ C.drop (i * 2 + 2) := by
    show C.take (i * 2) ++ pcells [(x, y)] ++ C.drop (i * 2 + 2) = _
    rw [ht, pcells_append]
  have hl1 : (pcells (l.take i ++ [(x, y)])).length = (i + 1) * 2 := by rw [pcells_length]; simp; omega
  have hml : m.length = C.length := by rw [hm]; simp only [List.length_append, hl1, List.length_drop]; omega
  have hm1 : m.take ((i + 1) * 2) = pcells (l.take i ++ [(x, y)]) := by
    rw [hm, List.take_append_of_le_length (by omega), List.take_of_length_le (by omega)]
  have hf : f = pcells (insertAt l i (x, y)) ++ m.drop ((i + 1) * 2 + (l.length - i) * 2) := by
    show m.take ((i + 1) * 2) ++ pcells (l.drop i) ++ m.drop ((i + 1) * 2 + (l.length - i) * 2) = _
    rw [hm1, ← pcells_append]
    unfold insertAt
    simp
  have hpl : (pcells (insertAt l i (x, y))).length = (l.length + 1) * 2 := by
    rw [pcells_length]; unfold insertAt; simp; omega
  refine ⟨hml, ?_, ?_⟩
  · rw [hf]; simp only [List.length_append, hpl, List.length_drop]; omega
  · rw [hf, List.take_append_of_le_length (by omega), List.take_of_length_le (by omega)]

theorem zeros_len (n : Nat) : (Builtin.zeroCells #[.int .i64 0, .int .i64 0] n).toList.length = n * 2 := by rw [zeros_reg]; simp

set_option maxHeartbeats 1000000 in
set_option maxRecDepth 100000 in
theorem insert_grow (l : List (Int × Int)) (g B i : Nat) (x y : Int) (bv c1 : Nat) (T : TypeId) (cur : Array Value) (w : World) (hl : l.length ≤ 100) (hi : i < l.length) (hB : B ≤ w.heap.size)
    (hgh : w.heap[g]? = some (.cells cur 134 (0, 0))) (hcs : cur.size = l.length * 2) (ht : cur.toList.take (l.length * 2) = pcells l) (hv : w.heap[bv]? = some (.cells #[.int .i64 x, .int .i64 y] T (0, 0))) :
    Calls Try.prog 122 #[.slice (some ⟨g, 0, none⟩) l.length l.length, .int .i64 i, .slice (some ⟨bv, 0, none⟩) 1 c1] w fun e w' => ∃ v', e = .returned v' ∧ OwnP B w' v' (insertAt l i (x, y)) ∧ Below B w w' := by
  obtain ⟨i0, hin0, hz0, hz1, hz2⟩ := info_parts Try.infoReg
  have htl : cur.toList = pcells l := by rw [← ht, List.take_of_length_le (by simp; omega)]
  have hglt : g < w.heap.size := (Array.getElem?_eq_some_iff.1 hgh).1
  have hbvlt : bv < w.heap.size := (Array.getElem?_eq_some_iff.1 hv).1
  have hsplit : pcells l = pcells (l.take i) ++ pcells (l.drop i) := by rw [← pcells_append, List.take_append_drop]
  have htk : (pcells (l.take i)).length = i * 2 := by rw [pcells_length]; simp; omega
  have hdk : (pcells (l.drop i)).length = (l.length - i) * 2 := by rw [pcells_length]; simp
  have hold : (Builtin.firstCells i0.size i (.slice (some ⟨g, 0, none⟩) i l.length)).run Try.prog w.drew = .ok (pcells (l.take i)).toArray w.drew := by
    rw [hz1]
    have h1 := run_loadCells_list (P := Try.prog) w.drew ⟨g, 0, none⟩ (pcells (l.take i)) (fun j u hj => by
      refine row_cells (w := w.drew) hgh 0 (i * 2) j u ?_
      rw [htl, hsplit, List.drop_zero, List.take_append_of_le_length (by omega), List.take_of_length_le (by omega)]
      exact hj)
    rw [htk] at h1
    exact h1
  have hnx : Builtin.nextslicecap (i + (l.length + 1 - i)) l.length ≤ 1000 := by
    unfold Builtin.nextslicecap
    split
    · omega
    · rw [if_pos (by omega)]; omega
  have happ := fun ty => Lib.run_append_grow_zeros (P := Try.prog) w 45 3 ty 134 i0 (.agg #[.int .i64 0, .int .i64 0]) .i64 .i64 Try.underlying45 Try.underlying3 hin0 hz0 (some ⟨g, 0, none⟩) i l.length (pcells (l.take i)) hold (l.length + 1 - i) (by omega) (by omega) (by omega) (by omega) (by rw [hz2]; omega) (by rw [hz2]; omega)
  rw [show i + (l.length + 1 - i) = l.length + 1 from by omega, show ((l.length + 1 - i : Nat) : Int) = (l.length : Int) + 1 - (i : Int) from by omega] at happ
  have hc1 := grownCap_ge w (l.length + 1) l.length 134
  have hc2 := grownCap_le_maxLen w (l.length + 1) l.length 134 (by unfold maxLen; omega)
  generalize grownCap w (l.length + 1) l.length 134 = c at happ hc1 hc2
  obtain ⟨C, hC⟩ : ∃ C : Array Value, C = (pcells (l.take i)).toArray ++ Builtin.zeroCells (Value.agg #[.int .i64 0, .int .i64 0]).cells (l.length + 1 - i) ++ Builtin.zeroCells (Value.agg #[.int .i64 0, .int .i64 0]).cells (c - (l.length + 1)) := ⟨_, rfl⟩
  rw [← hC] at happ
  have hCl : C.toList = pcells (l.take i) ++ ((Builtin.zeroCells #[.int .i64 0, .int .i64 0] (l.length + 1 - i)).toList ++ (Builtin.zeroCells #[.int .i64 0, .int .i64 0] (c - (l.length + 1))).toList) := by
    rw [hC]; simp [Value.cells]
  have hCs : C.size = c * 2 := by
    have : C.toList.length = c * 2 := by
      rw [hCl]; simp only [List.length_append, htk, zeros_len]; omega
    simpa using this
  have hCt : C.toList.take (i * 2) = pcells (l.take i) := by rw [hCl, List.take_append_of_le_length (by omega), List.take_of_length_le (by omega)]
  obtain ⟨gm, gf, gt⟩ := grow_row l C.toList i x y hi (by simp; omega) hCt
  obtain ⟨m, hm⟩ : ∃ m, m = C.toList.take (i * 2) ++ pcells [(x, y)] ++ C.toList.drop (i * 2 + 2) := ⟨_, rfl⟩
  rw [← hm] at gm gf gt
  obtain ⟨W1, hW1⟩ : ∃ W1, W1 = w.drew.alloc (.cells C 134) := ⟨_, rfl⟩
  rw [← hW1] at happ
  have hg1 : W1.heap[w.heap.size]? = some (.cells C 134 (0, 0)) := by rw [hW1]; exact heap_alloc_new w.drew _
  have hgg : W1.heap[g]? = some (.cells cur 134 (0, 0)) := by rw [hW1, Below.heap_alloc w.drew _ _ hglt]; exact hgh
  have hvv : W1.heap[bv]? = some (.cells #[.int .i64 x, .int .i64 y] T (0, 0)) := by rw [hW1, Below.heap_alloc w.drew _ _ hbvlt]; exact hv
  have hb1 : Below B w W1 := by rw [hW1]; exact ((Below.refl B w).drew).alloc hB _
  have hcp1 : ∀ ty dc, (Builtin.copy_ #[45, 45] ty #[.slice (some ⟨w.heap.size, i * 2, none⟩) (l.length + 1 - i) dc, .slice (some ⟨bv, 0, none⟩) 1 c1]).run Try.prog W1 = .ok (goInt (1 : Nat)) (W1.setRow w.heap.size m.toArray) := by
    intro ty dc
    have hmin : Nat.min 1 (l.length + 1 - i) = 1 := by simp only [Nat.min_def]; split <;> omega
    have := run_copy_reg W1 ty w.heap.size (i * 2) (l.length + 1 - i) dc ⟨bv, 0, none⟩ 1 c1 C (pcells [(x, y)]) hg1 (by rw [hmin]; rfl) (fun j u hj => by
      have hadd : (⟨bv, 0, none⟩ : Addr).add j = ⟨bv, j, none⟩ := by unfold Addr.add; split <;> simp_all
      rw [hadd, cell_of_row _ _ _ _ _ _ hvv]
      match j, hj with
      | 0, hj => simpa [pcells] using hj
      | 1, hj => simpa [pcells] using hj
      | j + 2, hj => simp [pcells] at hj) (by simp [pcells]; omega) (pcells_one _)
    rw [this, hmin, hm]
    rfl
  obtain ⟨W2, hW2⟩ : ∃ W2, W2 = W1.setRow w.heap.size m.toArray := ⟨_, rfl⟩
  rw [← hW2] at hcp1
  have hg2 : W2.heap[w.heap.size]? = some (.cells m.toArray 134 (0, 0)) := by rw [hW2]; exact setRow_heap _ _ _ _ _ _ hg1
  have hgg2 : W2.heap[g]? = some (.cells cur 134 (0, 0)) := by rw [hW2, setRow_other _ _ _ _ (by omega)]; exact hgg
  have hb2 : Below B w W2 := by rw [hW2]; exact below_setRow' hb1 hB _
  have hms : m.toArray.size = c * 2 := by simpa [hCs] using gm
  have hcp2 : ∀ ty dc sc, (Builtin.copy_ #[45, 45] ty #[.slice (some ⟨w.heap.size, (i + 1) * 2, none⟩) (l.length - i) dc, .slice (some ⟨g, i * 2, none⟩) (l.length - i) sc]).run Try.prog W2.drew = .ok (goInt (l.length - i : Nat)) (W2.drew.setRow w.heap.size (m.take ((i + 1) * 2) ++ pcells (l.drop i) ++ m.drop ((i + 1) * 2 + (l.length - i) * 2)).toArray) := by
    intro ty dc sc
    have hmin : Nat.min (l.length - i) (l.length - i) = l.length - i := by simp
    have := run_copy_reg W2.drew ty w.heap.size ((i + 1) * 2) (l.length - i) dc ⟨g, i * 2, none⟩ (l.length - i) sc m.toArray (pcells (l.drop i)) hg2 (by rw [hdk, hmin]) (fun j u hj => by
      refine row_cells (w := W2.drew) hgg2 (i * 2) ((l.length - i) * 2) j u ?_
      rw [htl, hsplit, List.drop_append_of_le_length (by omega), List.drop_of_length_le (by omega), List.nil_append, List.take_of_length_le (by omega)]
      exact hj) (by rw [hdk]; omega) (pcells_one _)
    rw [this, hmin, hdk]
  have GF := Lib.hid gf
  have GT := Lib.hid gt
  have HG2 := Lib.hid hg2
  clear gm gf gt hm hC hCl hCt hW1 hW2 hg1 hgg hvv hg2 hgg2 hv hgh htl hsplit ht hold
  unfold maxLen at hc2
  have hib : ((i : Int) == (l.length : Int)) = false := by simp; omega
  have hw1 : IntKind.i64.wrap ((i : Int) + 1) = (i : Int) + 1 := by rw [IntKind.wrap_i64]; omega
  have hbb1 : (0 : Int) ≤ (i : Int) + 1 := by omega
  have hin : i ≤ l.length := by omega
  have htn : ((i : Int) + 1).toNat = i + 1 := by omega
  have hb2' : ¬ (c = i + 1) := by omega
  have hb3 : (i : Int) ≤ (l.length : Int) + 1 := by omega
  have hb4 : ¬ (l.length = i) := by omega
  have hb5 : ¬ (c = i) := by omega
  go_enter Try.func122, Try.ntmps122
  go_wp2_with (first | (refine Lib.wpList_append_run _ rfl _ _ 45 3 rfl _ _ rfl rfl _ _ (happ _) ?_) | (refine wpList_copy_run _ rfl _ _ 45 45 rfl _ _ rfl rfl _ _ (hcp1 _ _) ?_))
  go_region_law (refine step_copy_reg rfl _ _ 45 45 rfl _ _ (by simp [Act.eval, Act.put]) (by simp [Act.eval, Act.put]) (hcp2 _ _ _) ?_)
  go_wp2
  go_ret
  refine ⟨_, rfl, ?_, below_setRow' (hb2.drew) hB _⟩
  refine ⟨pcells_length _, .inr ⟨w.heap.size, c, _, ?_, hB, setRow_heap _ _ _ _ _ _ HG2.out, ?_, by unfold maxLen; omega, ?_, ?_⟩⟩
  · show Value.slice (some ⟨w.heap.size, 0, none⟩) (l.length + 1) c = _
    congr 1
    unfold insertAt; simp; omega
  · unfold insertAt; simp; omega
  · have := GF.out; simp at this ⊢; simp at hms; omega
  · have e : (insertAt l i (x, y)).length = l.length + 1 := by unfold insertAt; simp; omega
    rw [e]
    have := GT.out
    rw [List.append_assoc] at this
    exact this
end Go.Proofs.Ytclhmpknkinjcaa
