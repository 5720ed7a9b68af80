/-
  Contract: slices.Insert of one pair at api.Reg, into a slice of the call's own.
-/
import Derived.Test.YtclhmpknkinjcaaDelFunc
import Derived.Lib.AppendZerosOnto
import Derived.Lib.Overlaps
import Derived.StillTailTactics
namespace Go.Proofs.Ytclhmpknkinjcaa
open Go.RowKit

/-- 'copy' on pairs, into a row that is known -/
theorem run_copy_reg (w : World) (ty : TypeId) (g o dLen dCap : Nat) (a : Addr) (sLen sCap : Nat) (cur : Array Value) (cs : List Value)
    (hg : w.heap[g]? = some (.cells cur 134 (0, 0))) (hn : cs.length = Nat.min sLen dLen * 2)
    (hsrc : ∀ j v, cs[j]? = some v → w.cell? (a.add j) = some v) (hfit : o + cs.length ≤ cur.size) (h1 : ∀ v ∈ cs, v.oneCell' = true) :
    (Builtin.copy_ #[45, 45] ty #[.slice (some ⟨g, o, none⟩) dLen dCap, .slice (some a) sLen sCap]).run Try.prog w =
      .ok (goInt (Nat.min sLen dLen)) (w.setRow g (cur.toList.take o ++ cs ++ cur.toList.drop (o + cs.length)).toArray) := by
  obtain ⟨i0, hi, hz0, hz1, hz2⟩ := info_parts Try.infoReg
  have hl := run_loadCells_list (P := Try.prog) w a cs hsrc
  have hst := run_storeCells_at Try.prog g o 134 cs 0 cur w hg (by simpa using hfit) h1
  simp [Builtin.copy_, run_underlying Try.underlying45, Builtin.lenOf, Builtin.firstCells, sizeOf, typeInfo, hi, hz1, ← hn, hl, hst]

theorem zeros_row (n : Nat) : (Builtin.zeroCells #[.int .i64 0, .int .i64 0] n) = (List.replicate (n * 2) (Value.int .i64 0)).toArray := by
  rw [← zeros_reg]

/-- the cells of a part of a row -/
theorem row_cells {w : World} {g : Nat} {cur : Array Value} (hg : w.heap[g]? = some (.cells cur 134 (0, 0))) (o n : Nat) : ∀ j v, ((cur.toList.drop o).take n)[j]? = some v → w.cell? ((⟨g, o, none⟩ : Addr).add j) = some v := by
  intro j v hj
  have hadd : (⟨g, o, none⟩ : Addr).add j = ⟨g, o + j, none⟩ := by unfold Addr.add; split <;> simp_all
  rw [hadd, cell_of_row w g (o + j) cur _ _ hg]
  rw [List.getElem?_take] at hj
  split at hj
  · rw [List.getElem?_drop] at hj; simpa using hj
  · cases hj

def insertAt (l : List (Int × Int)) (i : Nat) (x : Int × Int) : List (Int × Int) := l.take i ++ x :: l.drop i

set_option maxRecDepth 100000 in
theorem insert_end (l : List (Int × Int)) (a : Option Addr) (cap B : Nat) (x y : Int) (bv c1 : Nat) (w : World) (hl : l.length ≤ 100) (hr : OwnP B w (.slice a l.length cap) l) (hB : B ≤ w.heap.size)
    (hx : w.cell? ⟨bv, 0, none⟩ = some (.int .i64 x)) (hy : w.cell? ⟨bv, 1, none⟩ = some (.int .i64 y)) :
    Calls Try.prog 122 #[.slice a l.length cap, .int .i64 l.length, .slice (some ⟨bv, 0, none⟩) 1 c1] w fun e w' => ∃ v', e = .returned v' ∧ OwnP B w' v' (insertAt l l.length (x, y)) ∧ Below B w w' := by
  obtain ⟨i0, hi, hz0, hz1, hz2⟩ := info_parts Try.infoReg
  have hnews : ∀ j u, (pcells [(x, y)])[j]? = some u → w.cell? ((⟨bv, 0, none⟩ : Addr).add j) = some u := by
    intro j u hj
    have hadd : (⟨bv, 0, none⟩ : Addr).add j = ⟨bv, j, none⟩ := by unfold Addr.add; split <;> simp_all
    rw [hadd]
    match j, hj with
    | 0, hj => simp [pcells] at hj; rw [hx, hj]
    | 1, hj => simp [pcells] at hj; rw [hy, hj]
    | j + 2, hj => simp [pcells] at hj
  have HR := Lib.hid hr
  have hcap : l.length ≤ cap := by
    obtain ⟨_, h2⟩ := hr
    rcases h2 with ⟨_, h0⟩ | ⟨g, cap', cur, e1, _, _, h3, _⟩
    · omega
    · simp at e1; omega
  have blk : ∀ k, a.map (·.block) = some k → B ≤ k := by
    obtain ⟨_, h2⟩ := hr
    rcases h2 with ⟨e1, _⟩ | ⟨g, cap', cur, e1, hg, _⟩
    · simp at e1; intro k hk; rw [e1.1] at hk; cases hk
    · simp at e1; intro k hk; rw [e1.1] at hk; simp at hk; omega
  have blk2 : ∀ k c, (Value.slice a l.length c).ownBlock = some k → B ≤ k := fun k c hk => blk k (by cases a <;> simp [Value.ownBlock] at hk ⊢; exact hk)
  have BLK := Lib.hid blk2
  clear hr blk blk2
  go_enter Try.func122, Try.ntmps122
  go_wp2_with (at_builtin; refine wpList_append_own _ rfl _ _ 45 rfl B 134 i0 (.agg #[.int .i64 0, .int .i64 0]) 2 16 Try.underlying45 hi hz0 hz1 hz2 rfl (by decide) _ _ _ rfl HR.out ⟨bv, 0, none⟩ 1 c1 (pcells [(x, y)]) rfl rfl hnews (pcells_one _) ?c3 ?c4 ?c5 ?_)
  case c3 => unfold maxLen; omega
  case c4 => omega
  case c5 => omega
  all_goals
    intro v' w1 hown1 hg1 _
    have hfin : OwnP B w1 v' (insertAt l l.length (x, y)) := by
      unfold OwnP insertAt
      simpa [pcells_append] using hown1
    have hbel : Below B w w1 := (Below.refl B w).grown hg1 hB (fun k hk => BLK.out k _ hk)
    clear hown1 hg1
    go_wp2
    go_ret
    exact ⟨_, rfl, hfin, hbel⟩

theorem wpList_copy_run {P : Program} (w : World) {ops : Array Oper} {rest : List Oper} {o : Oper} {a : Act} {Q : Exit → Act → World → Prop} (hgd : o.guard = none) (s x : Operand) (t tn : TypeId)
    (ho : o.op = .call { callee := .builtin .copy, args := #[s, x], argTypes := #[t, tn] }) (vs vx : Value) (hs : a.eval s = vs) (hx : a.eval x = vx)
    (v' : Value) (w' : World) (hr : (Builtin.copy_ #[t, tn] o.type #[vs, vx]).run P w = .ok v' w') (h : wpList P ops Q rest (a.put o.dst v') w') : wpList P ops Q (o :: rest) a w :=
  wpList_plain hgd fun K hK => by
    unfold Oper.wp execOp
    simp only [ho, resolve, invoke, builtin, Sem.run_bind, Sem.run_pure, Result.andThen_ok, List.map_toArray, List.map_cons, List.map_nil, hs, hx, hr]
    exact hK _ _ h

/-- a row with one pair laid in, in place: first what stands from i on is moved by one, then the pair is laid -/
theorem insert_row (l : List (Int × Int)) (cur : List Value) (i : Nat) (x y : Int) (hi : i < l.length) (hc : (l.length + 1) * 2 ≤ cur.length) (ht : cur.take (l.length * 2) = pcells l) :
    let m := cur.take ((i + 1) * 2) ++ (cur.drop (i * 2)).take ((l.length - i) * 2) ++ cur.drop ((i + 1) * 2 + (l.length - i) * 2)
    let f := m.take (i * 2) ++ pcells [(x, y)] ++ m.drop (i * 2 + 2)
    f.length = cur.length ∧ f.take ((l.length + 1) * 2) = pcells (insertAt l i (x, y)) := by
  intro m f
  have e1 : cur.take (i * 2) = pcells (l.take i) := by
    have : (cur.take (l.length * 2)).take (i * 2) = (pcells l).take (i * 2) := by rw [ht]
    rw [List.take_take, Nat.min_eq_left (by omega)] at this
    rw [this]
    have h2 : pcells l = pcells (l.take i) ++ pcells (l.drop i) := by rw [← pcells_append, List.take_append_drop]
    rw [h2, List.take_append_of_le_length (by rw [pcells_length]; simp; omega), List.take_of_length_le (by rw [pcells_length]; simp; omega)]
  have e2 : (cur.drop (i * 2)).take ((l.length - i) * 2) = pcells (l.drop i) := by
    have h3 : (cur.take (l.length * 2)).drop (i * 2) = (pcells l).drop (i * 2) := by rw [ht]
    rw [List.drop_take] at h3
    rw [show (l.length - i) * 2 = l.length * 2 - i * 2 from by omega, h3]
    have h2 : pcells l = pcells (l.take i) ++ pcells (l.drop i) := by rw [← pcells_append, List.take_append_drop]
    rw [h2, List.drop_append_of_le_length (by rw [pcells_length]; simp; omega), List.drop_of_length_le (by rw [pcells_length]; simp; omega)]
    rfl
  have hm : m = cur.take ((i + 1) * 2) ++ pcells (l.drop i) ++ cur.drop ((i + 1) * 2 + (l.length - i) * 2) := by rw [← e2]
  have hl1 : (cur.take ((i + 1) * 2)).length = i * 2 + 2 := by simp; omega
  have hm1 : m.take (i * 2) = pcells (l.take i) := by
    rw [hm, List.append_assoc, List.take_append_of_le_length (by omega), List.take_take, Nat.min_eq_left (by omega), e1]
  have hm2 : m.drop (i * 2 + 2) = pcells (l.drop i) ++ cur.drop ((i + 1) * 2 + (l.length - i) * 2) := by
    rw [hm, List.append_assoc, List.drop_append_of_le_length (by omega), List.drop_of_length_le (by omega)]
    rfl
  have hf : f = pcells (insertAt l i (x, y)) ++ cur.drop ((i + 1) * 2 + (l.length - i) * 2) := by
    show m.take (i * 2) ++ pcells [(x, y)] ++ m.drop (i * 2 + 2) = _
    rw [hm1, hm2]
    unfold insertAt
    simp [pcells]
  have hpl : (pcells (insertAt l i (x, y))).length = (l.length + 1) * 2 := by
    rw [pcells_length]; unfold insertAt; simp; omega
  refine ⟨?_, ?_⟩
  · rw [hf]; simp only [List.length_append, hpl, List.length_drop]; omega
  · rw [hf, List.take_append_of_le_length (by omega), List.take_of_length_le (by omega)]
end Go.Proofs.Ytclhmpknkinjcaa
