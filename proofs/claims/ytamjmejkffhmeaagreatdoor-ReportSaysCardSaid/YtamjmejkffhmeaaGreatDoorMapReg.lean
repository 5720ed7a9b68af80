/-
  A region that draws its order and holds three calls in a row beside a map's literal of two entries: whatever order is drawn. (No program in sight.)
-/
import Derived.Test.YtamjmejkffhmeaaGreatDoorRep
import Derived.Deep.RegionHeld
import Derived.MapKept
namespace Go.Proofs.YtamjmejkffhmeaaGreatDoor
open Go.RowKit Go.Sort

/-- a block laid anew -/
def setO (w : World) (b : Nat) (o : Obj) : World := { w with heap := w.heap.setIfInBounds b o }
theorem setO_at {w : World} {b : Nat} {o p : Obj} (h : w.heap[b]? = some p) : (setO w b o).heap[b]? = some o := (MapKept.heap_set h).1
theorem setO_ne {w : World} {b k : Nat} {o : Obj} (h : k ≠ b) : (setO w b o).heap[k]? = w.heap[k]? := by
  unfold setO; simp [Ne.symm h]
theorem setO_size (w : World) (b : Nat) (o : Obj) : (setO w b o).heap.size = w.heap.size := by simp [setO]
theorem Below.setO {B : Nat} {a w : World} (h : Below B a w) {b : Nat} (hb : B ≤ b) (o : Obj) : Below B a (setO w b o) :=
  h.trans ⟨rfl, rfl, rfl, by rw [setO_size]; exact Nat.le_refl _, fun k hk => setO_ne (by omega)⟩

section
variable {P : Program} {ops : Array Oper} {Q : Exit → Act → World → Prop} {md : Region.Mode} {S : World → Prop}

theorem grid (B : Nat) (c : Nat → Nat) (m a b : Nat) (F : Nat → Option Nat → Act) (L : Nat → Nat → Array Bool) (ka va kb vb : Value)
    (hc : ∀ i j, i < 3 → j < 4 → (L i j).setIfInBounds (c i) true = L (i + 1) j) (h01 : ∀ i, i ≤ 3 → (L i 0).setIfInBounds m true = L i 1)
    (h12 : ∀ i, i ≤ 3 → (L i 1).setIfInBounds a true = L i 2) (h13 : ∀ i, i ≤ 3 → (L i 1).setIfInBounds b true = L i 3) (h24 : ∀ i, i ≤ 3 → (L i 2).setIfInBounds b true = L i 4) (h34 : ∀ i, i ≤ 3 → (L i 3).setIfInBounds a true = L i 4)
    (hrB : ((List.range 4).all fun i => (List.range 4).all fun j => !(Region.ready md ops (L i j)).isEmpty && (Region.ready md ops (L i j)).all fun x => (x == c i && decide (i < 3)) || (x == m && j == 0) || (x == a && (j == 1 || j == 3)) || (x == b && (j == 1 || j == 2))) = true)
    (hcall : ∀ i blk w (K : Act → World → Prop), i < 3 → S w → (∀ w', S w' → Below w.heap.size w w' → K (F (i + 1) blk) w') → wpOp P ops Q (c i) K (F i blk) w)
    (hmake : ∀ i w (K : Act → World → Prop), i ≤ 3 → S w → K (F i (some w.heap.size)) (w.alloc (.map #[] 0)) → wpOp P ops Q m K (F i none) w)
    (ha : ∀ i blk w (K : Act → World → Prop) es cl, i ≤ 3 → S w → w.heap[blk]? = some (.map es cl) → (es = #[] ∨ es = #[⟨kb, vb, 0⟩]) → K (F i (some blk)) (setO w blk (.map (es.push ⟨ka, va, cl⟩) (cl + 1))) → wpOp P ops Q a K (F i (some blk)) w)
    (hb : ∀ i blk w (K : Act → World → Prop) es cl, i ≤ 3 → S w → w.heap[blk]? = some (.map es cl) → (es = #[] ∨ es = #[⟨ka, va, 0⟩]) → K (F i (some blk)) (setO w blk (.map (es.push ⟨kb, vb, cl⟩) (cl + 1))) → wpOp P ops Q b K (F i (some blk)) w)
    (hSm : ∀ w, S w → S (w.alloc (.map #[] 0))) (hSs : ∀ w blk o, S w → B ≤ blk → S (setO w blk o)) (hSB : ∀ w, S w → B ≤ w.heap.size) (fuel : Nat)
    (hfin : ∀ i blk w es, i ≤ 3 → S w → B ≤ blk → w.heap[blk]? = some (.map es 2) → (es = #[⟨ka, va, 0⟩, ⟨kb, vb, 1⟩] ∨ es = #[⟨kb, vb, 0⟩, ⟨ka, va, 1⟩]) → wpAnyH P md ops Q S (fuel + (3 - i)) (L i 4) (F i (some blk)) w) :
    ∀ w, S w → wpAnyH P md ops Q S (fuel + 6) (L 0 0) (F 0 none) w := by
  have hrA : ∀ i j, i ≤ 3 → j < 4 → (!(Region.ready md ops (L i j)).isEmpty && (Region.ready md ops (L i j)).all fun x => (x == c i && decide (i < 3)) || (x == m && j == 0) || (x == a && (j == 1 || j == 3)) || (x == b && (j == 1 || j == 2))) = true := fun i j hi hj =>
    List.all_eq_true.1 (List.all_eq_true.1 hrB i (List.mem_range.2 (by omega))) j (List.mem_range.2 hj)
  have hne : ∀ i j, i ≤ 3 → j < 4 → Region.ready md ops (L i j) ≠ [] := fun i j hi hj e => by
    have := hrA i j hi hj
    rw [e] at this
    cases this
  have hr : ∀ i j, i ≤ 3 → j < 4 → ∀ x ∈ Region.ready md ops (L i j), (x = c i ∧ i < 3) ∨ (x = m ∧ j = 0) ∨ (x = a ∧ (j = 1 ∨ j = 3)) ∨ (x = b ∧ (j = 1 ∨ j = 2)) := fun i j hi hj x hx => by
    have := hrA i j hi hj
    rw [Bool.and_eq_true, List.all_eq_true] at this
    have := this.2 x hx
    simp only [Bool.or_eq_true, Bool.and_eq_true, beq_iff_eq, decide_eq_true_eq] at this
    omega
  have lt_of : ∀ {w : World} {blk : Nat} {o : Obj}, w.heap[blk]? = some o → blk < w.heap.size := fun h => (Array.getElem?_eq_some_iff.1 h).1
  -- behind the first entry
  have T2 : ∀ n i, i + n = 3 → ∀ blk w, S w → B ≤ blk → w.heap[blk]? = some (.map #[⟨ka, va, 0⟩] 1) → wpAnyH P md ops Q S (fuel + (3 - i) + 1) (L i 2) (F i (some blk)) w := by
    intro n
    induction n with
    | zero =>
      intro i hi blk w hS hB hh
      refine ⟨fun h0 => absurd h0 (hne i 2 (by omega) (by omega)), fun x hx => ?_⟩
      rcases hr i 2 (by omega) (by omega) x hx with ⟨_, h⟩ | ⟨_, h⟩ | ⟨_, h⟩ | ⟨rfl, _⟩
      · omega
      · omega
      · omega
      · refine hb i blk w _ _ _ (by omega) hS hh (.inr rfl) ⟨hSs _ _ _ hS hB, ?_⟩
        rw [h24 i (by omega)]
        exact hfin i blk _ _ (by omega) (hSs _ _ _ hS hB) hB (setO_at hh) (.inl rfl)
    | succ n ih =>
      intro i hi blk w hS hB hh
      refine ⟨fun h0 => absurd h0 (hne i 2 (by omega) (by omega)), fun x hx => ?_⟩
      rcases hr i 2 (by omega) (by omega) x hx with ⟨rfl, h⟩ | ⟨_, h⟩ | ⟨_, h⟩ | ⟨rfl, _⟩
      · refine hcall i (some blk) w _ h hS (fun w' hS' hb' => ⟨hS', ?_⟩)
        rw [hc i 2 h (by omega), show fuel + (3 - i) = fuel + (3 - (i + 1)) + 1 by omega]
        exact ih (i + 1) (by omega) blk w' hS' hB ((hb'.block _ (lt_of hh)).trans hh)
      · omega
      · omega
      · refine hb i blk w _ _ _ (by omega) hS hh (.inr rfl) ⟨hSs _ _ _ hS hB, ?_⟩
        rw [h24 i (by omega)]
        exact hfin i blk _ _ (by omega) (hSs _ _ _ hS hB) hB (setO_at hh) (.inl rfl)
  have T3 : ∀ n i, i + n = 3 → ∀ blk w, S w → B ≤ blk → w.heap[blk]? = some (.map #[⟨kb, vb, 0⟩] 1) → wpAnyH P md ops Q S (fuel + (3 - i) + 1) (L i 3) (F i (some blk)) w := by
    intro n
    induction n with
    | zero =>
      intro i hi blk w hS hB hh
      refine ⟨fun h0 => absurd h0 (hne i 3 (by omega) (by omega)), fun x hx => ?_⟩
      rcases hr i 3 (by omega) (by omega) x hx with ⟨_, h⟩ | ⟨_, h⟩ | ⟨rfl, _⟩ | ⟨_, h⟩
      · omega
      · omega
      · refine ha i blk w _ _ _ (by omega) hS hh (.inr rfl) ⟨hSs _ _ _ hS hB, ?_⟩
        rw [h34 i (by omega)]
        exact hfin i blk _ _ (by omega) (hSs _ _ _ hS hB) hB (setO_at hh) (.inr rfl)
      · omega
    | succ n ih =>
      intro i hi blk w hS hB hh
      refine ⟨fun h0 => absurd h0 (hne i 3 (by omega) (by omega)), fun x hx => ?_⟩
      rcases hr i 3 (by omega) (by omega) x hx with ⟨rfl, h⟩ | ⟨_, h⟩ | ⟨rfl, _⟩ | ⟨_, h⟩
      · refine hcall i (some blk) w _ h hS (fun w' hS' hb' => ⟨hS', ?_⟩)
        rw [hc i 3 h (by omega), show fuel + (3 - i) = fuel + (3 - (i + 1)) + 1 by omega]
        exact ih (i + 1) (by omega) blk w' hS' hB ((hb'.block _ (lt_of hh)).trans hh)
      · omega
      · refine ha i blk w _ _ _ (by omega) hS hh (.inr rfl) ⟨hSs _ _ _ hS hB, ?_⟩
        rw [h34 i (by omega)]
        exact hfin i blk _ _ (by omega) (hSs _ _ _ hS hB) hB (setO_at hh) (.inr rfl)
      · omega
  have T1 : ∀ n i, i + n = 3 → ∀ blk w, S w → B ≤ blk → w.heap[blk]? = some (.map #[] 0) → wpAnyH P md ops Q S (fuel + (3 - i) + 2) (L i 1) (F i (some blk)) w := by
    intro n
    induction n with
    | zero =>
      intro i hi blk w hS hB hh
      refine ⟨fun h0 => absurd h0 (hne i 1 (by omega) (by omega)), fun x hx => ?_⟩
      rcases hr i 1 (by omega) (by omega) x hx with ⟨_, h⟩ | ⟨_, h⟩ | ⟨rfl, _⟩ | ⟨rfl, _⟩
      · omega
      · omega
      · refine ha i blk w _ _ _ (by omega) hS hh (.inl rfl) ⟨hSs _ _ _ hS hB, ?_⟩
        rw [h12 i (by omega)]
        exact T2 0 i (by omega) blk _ (hSs _ _ _ hS hB) hB (setO_at hh)
      · refine hb i blk w _ _ _ (by omega) hS hh (.inl rfl) ⟨hSs _ _ _ hS hB, ?_⟩
        rw [h13 i (by omega)]
        exact T3 0 i (by omega) blk _ (hSs _ _ _ hS hB) hB (setO_at hh)
    | succ n ih =>
      intro i hi blk w hS hB hh
      refine ⟨fun h0 => absurd h0 (hne i 1 (by omega) (by omega)), fun x hx => ?_⟩
      rcases hr i 1 (by omega) (by omega) x hx with ⟨rfl, h⟩ | ⟨_, h⟩ | ⟨rfl, _⟩ | ⟨rfl, _⟩
      · refine hcall i (some blk) w _ h hS (fun w' hS' hb' => ⟨hS', ?_⟩)
        rw [hc i 1 h (by omega), show fuel + (3 - i) + 1 = fuel + (3 - (i + 1)) + 2 by omega]
        exact ih (i + 1) (by omega) blk w' hS' hB ((hb'.block _ (lt_of hh)).trans hh)
      · omega
      · refine ha i blk w _ _ _ (by omega) hS hh (.inl rfl) ⟨hSs _ _ _ hS hB, ?_⟩
        rw [h12 i (by omega)]
        exact T2 (n + 1) i hi blk _ (hSs _ _ _ hS hB) hB (setO_at hh)
      · refine hb i blk w _ _ _ (by omega) hS hh (.inl rfl) ⟨hSs _ _ _ hS hB, ?_⟩
        rw [h13 i (by omega)]
        exact T3 (n + 1) i hi blk _ (hSs _ _ _ hS hB) hB (setO_at hh)
  have T0 : ∀ n i, i + n = 3 → ∀ w, S w → wpAnyH P md ops Q S (fuel + (3 - i) + 3) (L i 0) (F i none) w := by
    intro n
    induction n with
    | zero =>
      intro i hi w hS
      refine ⟨fun h0 => absurd h0 (hne i 0 (by omega) (by omega)), fun x hx => ?_⟩
      rcases hr i 0 (by omega) (by omega) x hx with ⟨_, h⟩ | ⟨rfl, _⟩ | ⟨_, h⟩ | ⟨_, h⟩
      · omega
      · refine hmake i w _ (by omega) hS ⟨hSm _ hS, ?_⟩
        rw [h01 i (by omega)]
        exact T1 0 i (by omega) _ _ (hSm _ hS) (hSB _ hS) (heap_alloc_new w _)
      · omega
      · omega
    | succ n ih =>
      intro i hi w hS
      refine ⟨fun h0 => absurd h0 (hne i 0 (by omega) (by omega)), fun x hx => ?_⟩
      rcases hr i 0 (by omega) (by omega) x hx with ⟨rfl, h⟩ | ⟨rfl, _⟩ | ⟨_, h⟩ | ⟨_, h⟩
      · refine hcall i none w _ h hS (fun w' hS' _ => ⟨hS', ?_⟩)
        rw [hc i 0 h (by omega), show fuel + (3 - i) + 2 = fuel + (3 - (i + 1)) + 3 by omega]
        exact ih (i + 1) (by omega) w' hS'
      · refine hmake i w _ (by omega) hS ⟨hSm _ hS, ?_⟩
        rw [h01 i (by omega)]
        exact T1 (n + 1) i hi _ _ (hSm _ hS) (hSB _ hS) (heap_alloc_new w _)
      · omega
      · omega
  intro w hS
  exact T0 3 0 rfl w hS
end

theorem wpAnyH_weaken {P : Program} {ops : Array Oper} {Q : Exit → Act → World → Prop} {md : Region.Mode} {S S' : World → Prop} (h : ∀ w, S' w → S w) : ∀ (fuel : Nat) (listed : Array Bool) (a : Act) (w : World), wpAnyH P md ops Q S' fuel listed a w → wpAnyH P md ops Q S fuel listed a w
  | 0, _, _, _, hh => hh
  | fuel + 1, _, _, _, hh => ⟨hh.1, fun i hi => wpOp_mono (fun a' w' h' => ⟨h _ h'.1, wpAnyH_weaken h fuel _ a' w' h'.2⟩) (hh.2 i hi)⟩

/-- two operations that yield may be taken first; then three calls in a row; then the rest -/
theorem tail3 {P : Program} {ops : Array Oper} {Q : Exit → Act → World → Prop} {md : Region.Mode} {S : World → Prop} {o1 o2 : Oper} {v1 v2 : Value} (p q : Nat) (c : Nat → Nat) (F F1 G : Nat → Act) (L M : Nat → Array Bool) (fuel : Nat)
    (hp : ops[p]? = some o1) (hq : ops[q]? = some o2) (hsel : Region.noSelect ops = true)
    (hB : ((List.range 4).all fun i => Region.free md ops (L i) p && (Region.ready md ops (L i)).contains p && Region.free md ops ((L i).setIfInBounds p true) q && (Region.ready md ops ((L i).setIfInBounds p true)).contains q && (decide (i = 3) || Region.ready md ops (M i) == [c i])) = true)
    (hLM : ∀ i, i ≤ 3 → ((L i).setIfInBounds p true).setIfInBounds q true = M i) (hM : ∀ i, i < 3 → (M i).setIfInBounds (c i) true = M (i + 1))
    (hF : ∀ i, i ≤ 3 → (F i).put o1.dst v1 = F1 i ∧ (F1 i).put o2.dst v2 = G i)
    (hQ1 : ∀ c a w, Q (.panic c) (Act.put a o1.dst v1) w → Q (.panic c) a w) (hQ2 : ∀ c a w, Q (.panic c) (Act.put a o2.dst v2) w → Q (.panic c) a w)
    (hy1 : ∀ i, i ≤ 3 → YieldsIf P ops S o1 v1 (F i)) (hy2 : ∀ i, i ≤ 3 → YieldsIf P ops S o2 v2 (F1 i))
    (hcall : ∀ i w (K : Act → World → Prop), i < 3 → S w → (∀ w', S w' → K (G (i + 1)) w') → wpOp P ops Q (c i) K (G i) w)
    (h3 : ∀ w, S w → wpAnyH P md ops Q S fuel (M 3) (G 3) w) :
    ∀ i, i ≤ 3 → ∀ w, S w → wpAnyH P md ops Q S (fuel + (3 - i) + 1 + 1) (L i) (F i) w := by
  have hA : ∀ i, i ≤ 3 → _ := fun i hi => List.all_eq_true.1 hB i (List.mem_range.2 (by omega))
  simp only [Bool.and_eq_true, Bool.or_eq_true, decide_eq_true_eq, beq_iff_eq] at hA
  have C : ∀ n i, i + n = 3 → ∀ w, S w → wpAnyH P md ops Q S (fuel + (3 - i)) (M i) (G i) w := by
    intro n
    induction n with
    | zero =>
      intro i hi w hS
      obtain rfl : i = 3 := by omega
      exact h3 w hS
    | succ n ih =>
      intro i hi w hS
      have hr : Region.ready md ops (M i) = [c i] := by
        rcases (hA i (by omega)).2 with h | h
        · omega
        · exact h
      rw [show fuel + (3 - i) = fuel + (3 - (i + 1)) + 1 by omega]
      refine ⟨fun h0 => (by rw [hr] at h0; cases h0), fun x hx => ?_⟩
      rw [hr] at hx
      obtain rfl := List.mem_singleton.1 hx
      refine hcall i w _ (by omega) hS (fun w' hS' => ⟨hS', ?_⟩)
      rw [hM i (by omega)]
      exact ih (i + 1) (by omega) w' hS'
  intro i hi w hS
  obtain ⟨⟨⟨⟨a1, a2⟩, a3⟩, a4⟩, -⟩ := hA i hi
  refine wpAnyH_take hp hsel a1 a2 hQ1 (hy1 i hi) hS ?_
  rw [(hF i hi).1]
  refine wpAnyH_take hq hsel a3 a4 hQ2 (hy2 i hi) hS ?_
  rw [(hF i hi).2, hLM i hi]
  exact C (3 - i) i (by omega) w hS

/-! ### entries of a map -/
theorem run_insert_new {P : Program} {w : World} {mty kt et : TypeId} {d : TypeDesc} {r : Nat} {es : Array MapEntry} {clock : Nat} {key value : Value} (hm : P.underlying mty = some (.map kt et)) (hd : P.underlying kt = some d) (hb : w.heap[r]? = some (.map es clock))
    (hk : MapKept.IsKey d key) (hks : ∀ x ∈ es.toList, MapKept.IsKey d x.key) (hn : ∀ x ∈ es.toList, x.key ≠ key) :
    (Instr.mapUpdate mty (.map (some r)) key value).run P w = .ok () (setO w r (.map (es.push ⟨key, value, clock⟩) (clock + 1))) := by
  rcases MapKept.findNow_spec hk es.toList 0 hks with ⟨h1, _⟩ | ⟨j, e, _, h2, h3⟩
  · simp [Instr.mapUpdate, run_underlying hm, MapKept.run_getObj_map hb, MapKept.run_checkKey hd hk, MapKept.run_findKey hd h1, MapKept.run_setObj_map _ hb, Result.andThen, setO]
  · exact absurd h3 (hn e (List.mem_of_getElem? h2))
theorem run_look {P : Program} {w : World} {mty kt et : TypeId} {d : TypeDesc} {r : Nat} {es : Array MapEntry} {clock : Nat} {key v : Value} (hm : P.underlying mty = some (.map kt et)) (hd : P.underlying kt = some d) (hb : w.heap[r]? = some (.map es clock))
    (hk : MapKept.IsKey d key) {j : Nat} (hf : Instr.findNow d key es.toList 0 = some (some (j, v))) (ok : Bool) :
    (Instr.lookup mty (.map (some r)) key ok).run P w = .ok (if ok then .tuple #[v, .bool true] else v) w := by
  unfold Instr.lookup
  simp [run_underlying hm, MapKept.run_getObj_map hb, MapKept.run_checkKey hd hk, MapKept.run_findKey hd hf, Result.andThen]
theorem run_look_none {P : Program} {w : World} {mty kt et : TypeId} {d : TypeDesc} {r : Nat} {es : Array MapEntry} {clock : Nat} {key z : Value} (hm : P.underlying mty = some (.map kt et)) (hd : P.underlying kt = some d) (hb : w.heap[r]? = some (.map es clock))
    (hk : MapKept.IsKey d key) (hf : Instr.findNow d key es.toList 0 = some none) (hz : (zeroValue et).run P w = .ok z w) (ok : Bool) :
    (Instr.lookup mty (.map (some r)) key ok).run P w = .ok (if ok then .tuple #[z, .bool false] else z) w := by
  unfold Instr.lookup
  simp [run_underlying hm, MapKept.run_getObj_map hb, MapKept.run_checkKey hd hk, MapKept.run_findKey hd hf, hz, Result.andThen]
end Go.Proofs.YtamjmejkffhmeaaGreatDoor
