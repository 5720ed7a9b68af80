/-
  Contract: slices.Insert of one pair at api.Reg: inside, where there is room.
-/
import Derived.Test.YtclhmpknkinjcaaInsert
import Derived.Deep.AppendLies
import Derived.Laws.Externs
namespace Go.Proofs.Ytclhmpknkinjcaa
open Go.RowKit

theorem step_copy_reg {P : Program} {ops : Array Oper} {o : Oper} {a : Act} {w : World} {K : Act → World → Prop} {Q : Exit → Act → World → Prop} {E : Prop}
    (hg : o.guard = none) (d x : Operand) (dT sT : TypeId) (hop : o.op = Op.call { callee := Callee.builtin Builtin.copy, args := #[d, x], argTypes := #[dT, sT] })
    (v u : Value) (hd : a.eval d = v) (hx : a.eval x = u) {v' : Value} {w' : World} (hr : (Builtin.copy_ #[dT, sT] o.type #[v, u]).run P w = .ok v' w') (hK : K (a.put o.dst v') w') :
    if Region.wanted o (yielded ops a.tmps) = true then Oper.wp P o a w K Q else E := by
  have hw : Region.wanted o (yielded ops a.tmps) = true := by simp [Region.wanted, hg]
  rw [if_pos hw]
  unfold Oper.wp
  simp [execOp, hop, resolve, invoke, builtin, hd, hx, hr, Result.andThen]
  exact hK

theorem overlaps_reg (w : World) (bv g o c1 : Nat) (cv cur : Array Value) (T T' : TypeId) (hne : bv ≠ g) (hv : w.heap[bv]? = some (.cells cv T (0, 0))) (hg : w.heap[g]? = some (.cells cur T' (0, 0))) (hc : cur.size ≠ 0) (lb cb : Nat) :
    (callFunc 128 #[.slice (some ⟨bv, 0, none⟩) 1 c1, .slice (some ⟨g, o, none⟩) lb cb]).run Try.prog w = .ok (.value (.bool false)) w := by
  rw [run_callFunc_extern Try.func128 (by kernel_rfl) (by kernel_rfl) (by kernel_rfl) (e := Extern.SlicesOverlaps.overlaps #[45, 45] #[4]) (by kernel_rfl),
    Lib.run_overlaps_apart w 45 4 134 Try.underlying45 2 (fun w => by kernel_rfl) ⟨bv, 0, none⟩ ⟨g, o, none⟩ 1 c1 lb cb hne T T' cv.size cur.size (by simp [World.shape?, hv]) (by simp [World.shape?, hg]) hc (by simp [World.frozen?, hv]) (by simp [World.frozen?, hv])]
  rfl

set_option maxHeartbeats 1000000 in
set_option maxRecDepth 100000 in
theorem insert_mid (l : List (Int × Int)) (g cap B i : Nat) (x y : Int) (bv c1 : Nat) (T : TypeId) (cur : Array Value) (w : World) (hl : l.length ≤ 100) (hi : i < l.length) (hroom : l.length + 1 ≤ cap) (hcm : cap ≤ maxLen) (hgB : B ≤ g)
    (hgh : w.heap[g]? = some (.cells cur 134 (0, 0))) (hcs : cur.size = cap * 2) (ht : cur.toList.take (l.length * 2) = pcells l) (hv : w.heap[bv]? = some (.cells #[.int .i64 x, .int .i64 y] T (0, 0))) (hne : bv ≠ g) :
    Calls Try.prog 122 #[.slice (some ⟨g, 0, none⟩) l.length cap, .int .i64 i, .slice (some ⟨bv, 0, none⟩) 1 c1] w fun e w' => ∃ v', e = .returned v' ∧ OwnP B w' v' (insertAt l i (x, y)) ∧ Below B w w' := by
  obtain ⟨hf1, hf2⟩ := insert_row l cur.toList i x y hi (by simp; omega) ht
  have hov := overlaps_reg w bv g ((i + 1) * 2) c1 _ _ T _ hne hv hgh (by omega)
  have hlp : ∀ m : List (Int × Int), ∀ v ∈ pcells m, v.oneCell' = true := pcells_one
  have hallone : ∀ v ∈ (cur.toList.drop (i * 2)).take ((l.length - i) * 2), v.oneCell' = true := by
    have e2 : (cur.toList.drop (i * 2)).take ((l.length - i) * 2) = (pcells l).drop (i * 2) := by
      rw [← ht, List.drop_take, show l.length * 2 - i * 2 = (l.length - i) * 2 from by omega]
    rw [e2]
    exact fun v hv => pcells_one l v (List.mem_of_mem_drop hv)
  have hcp1 : ∀ ty dc sc, (Builtin.copy_ #[45, 45] ty #[.slice (some ⟨g, (i + 1) * 2, none⟩) (l.length - i) dc, .slice (some ⟨g, i * 2, none⟩) (l.length + 1 - i) sc]).run Try.prog w.drew = .ok (goInt (l.length - i : Nat)) (w.drew.setRow g (cur.toList.take ((i + 1) * 2) ++ (cur.toList.drop (i * 2)).take ((l.length - i) * 2) ++ cur.toList.drop ((i + 1) * 2 + (l.length - i) * 2)).toArray) := by
    intro ty dc sc
    have hlen : ((cur.toList.drop (i * 2)).take ((l.length - i) * 2)).length = (l.length - i) * 2 := by simp; omega
    have hmin : Nat.min (l.length + 1 - i) (l.length - i) = l.length - i := by simp only [Nat.min_def]; split <;> omega
    have := run_copy_reg w.drew ty g ((i + 1) * 2) (l.length - i) dc ⟨g, i * 2, none⟩ (l.length + 1 - i) sc cur ((cur.toList.drop (i * 2)).take ((l.length - i) * 2)) hgh (by rw [hlen, hmin]) (row_cells (w := w.drew) hgh (i * 2) ((l.length - i) * 2)) (by rw [hlen]; omega) hallone
    rw [this, hmin, hlen]
  obtain ⟨m, hm⟩ : ∃ m, m = cur.toList.take ((i + 1) * 2) ++ (cur.toList.drop (i * 2)).take ((l.length - i) * 2) ++ cur.toList.drop ((i + 1) * 2 + (l.length - i) * 2) := ⟨_, rfl⟩
  rw [← hm] at hcp1 hf1 hf2
  have hml : m.length = cur.size := by
    have : (m.take (i * 2) ++ pcells [(x, y)] ++ m.drop (i * 2 + 2)).length = cur.toList.length := hf1
    rw [hm]; simp; omega
  obtain ⟨W1, hW1⟩ : ∃ W1, W1 = w.drew.setRow g m.toArray := ⟨_, rfl⟩
  rw [← hW1] at hcp1
  have hg1 : W1.heap[g]? = some (.cells m.toArray 134 (0, 0)) := by rw [hW1]; exact setRow_heap _ _ _ _ _ _ hgh
  have hv1 : W1.heap[bv]? = some (.cells #[.int .i64 x, .int .i64 y] T (0, 0)) := by rw [hW1, setRow_other _ _ _ _ hne]; exact hv
  have hbel : Below B w W1 := by rw [hW1]; exact below_setRow' ((Below.refl B w).drew) hgB _
  have hcp2 : ∀ ty dc, (Builtin.copy_ #[45, 45] ty #[.slice (some ⟨g, i * 2, none⟩) (l.length + 1 - i) dc, .slice (some ⟨bv, 0, none⟩) 1 c1]).run Try.prog W1 = .ok (goInt (1 : Nat)) (W1.setRow g (m.take (i * 2) ++ pcells [(x, y)] ++ m.drop (i * 2 + 2)).toArray) := by
    intro ty dc
    have hmin : Nat.min 1 (l.length + 1 - i) = 1 := by simp only [Nat.min_def]; split <;> omega
    have := run_copy_reg W1 ty g (i * 2) (l.length + 1 - i) dc ⟨bv, 0, none⟩ 1 c1 m.toArray (pcells [(x, y)]) hg1 (by rw [hmin]; rfl) (fun j u hj => by
      have hadd : (⟨bv, 0, none⟩ : Addr).add j = ⟨bv, j, none⟩ := by unfold Addr.add; split <;> simp_all
      rw [hadd, cell_of_row _ _ _ _ _ _ hv1]
      match j, hj with
      | 0, hj => simpa [pcells] using hj
      | 1, hj => simpa [pcells] using hj
      | j + 2, hj => simp [pcells] at hj) (by simp [pcells]; omega) (pcells_one _)
    rw [this, hmin]
    rfl
  have HF1 := Lib.hid hf1
  have HF2 := Lib.hid hf2
  have HM := Lib.hid hml
  clear hf1 hf2 hm hml hallone hlp ht hv hv1 hW1
  have HG1 := Lib.hid hg1
  clear hg1
  unfold maxLen at hcm
  have hib : ((i : Int) == (l.length : Int)) = false := by simp; omega
  go_enter Try.func122, Try.ntmps122
  have hw1 : IntKind.i64.wrap ((i : Int) + 1) = (i : Int) + 1 := by rw [IntKind.wrap_i64]; omega
  have hb1 : (0 : Int) ≤ (i : Int) + 1 := by omega
  have hin : i ≤ l.length := by omega
  have htn : ((i : Int) + 1).toNat = i + 1 := by omega
  have hb2 : ¬ (cap = i + 1) := by omega
  have hb3 : (i : Int) ≤ (l.length : Int) + 1 := by omega
  have hb4 : ¬ (cap = i) := by omega
  go_wp2_with (simp only [hov])
  go_region_law (refine step_copy_reg rfl _ _ 45 45 rfl _ _ (by simp [Act.eval, Act.put]) (by simp [Act.eval, Act.put]) (hcp1 _ _ _) ?_)
  go_wp2_with (refine wpList_copy_run _ rfl _ _ 45 45 rfl _ _ rfl rfl _ _ (hcp2 _ _) ?_)
  go_ret
  refine ⟨_, rfl, ?_, below_setRow' hbel hgB _⟩
  refine ⟨pcells_length _, .inr ⟨g, cap, _, ?_, hgB, setRow_heap _ _ _ _ _ _ HG1.out, ?_, by unfold maxLen; omega, ?_, ?_⟩⟩
  · show Value.slice (some ⟨g, 0, none⟩) (l.length + 1) cap = _
    congr 1
    unfold insertAt; simp; omega
  · unfold insertAt; simp; omega
  · have := HF1.out; simp at this ⊢; omega
  · have e : (insertAt l i (x, y)).length = l.length + 1 := by unfold insertAt; simp; omega
    rw [e]
    have := HF2.out
    rw [List.append_assoc] at this
    exact this
end Go.Proofs.Ytclhmpknkinjcaa
