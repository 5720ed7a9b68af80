/-
  Contract: the document's Add.
-/
import Derived.Test.YtkiogccpbdpfaaaAdd
import Derived.Deep.RegionHeld3
import Derived.Deep.AppendLies
namespace Go.Proofs.Ytkiogccpbdpfaaa
open Go.RowKit

/-- what the document's Add leaves: the k-th slice of the box in block M turned -/
def RAddPost (cs : Array Value) (l : List Int) (M k : Nat) (what : Int) (w : World) (e : Ending) (w' : World) : Prop :=
  ∃ s : Sl, e = .returned (.tuple #[]) ∧ s.ok w' ∧ s.l = addL l what ∧ (∀ x, s.a = some x → x.block ≠ M) ∧ w'.heap[M]? = some (.cells (cs.setIfInBounds k s.v) 41 (0, 0)) ∧ Keeps (· = M) w w'

theorem own_nil (B : Nat) (w : World) : w.ownsRow B 3 1 (.slice none 0 0) 0 [] := ⟨rfl, .inl ⟨rfl, rfl⟩⟩

theorem s_size {w W : World} {o : Obj} {n : Nat} {P : Prop} (h : Below n (w.alloc o) W ∧ P) : w.heap.size + 1 ≤ W.heap.size := by have := h.1.size; simpa using this
theorem s_ints {w W : World} {o : Obj} {P : Prop} {a : Option Addr} {l : List Int} (hi : Ints w.heap.size w a l) (h : Below (w.heap.size + 1) (w.alloc o) W ∧ P) : Ints w.heap.size W a l :=
  (hi.below (bal w o) (Nat.le_refl _)).below h.1 (Nat.le_succ _)

theorem s_mk {w W : World} {u v : Value} {T : TypeId} (h : Below (w.heap.size + 1) (w.alloc (.cells #[u, v] T)) W) : Below (w.heap.size + 1) (w.alloc (.cells #[u, v] T)) W ∧ W.cell? ⟨w.heap.size, 1, none⟩ = some v :=
  ⟨h, by rw [h.cell (p := ⟨w.heap.size, 1, none⟩) (Nat.lt_succ_self _)]; simp⟩
theorem own_ge {w : World} {B g c n : Nat} {xs : List Value} {e : TypeId} {z : Nat} (h : w.ownsRow B e z (.slice (some ⟨g, 0, none⟩) n c) n xs) : B ≤ g := by
  rcases h.2 with ⟨h, _⟩ | ⟨g', cap, cur, e', hg, _⟩
  · cases h
  · cases e'; exact hg
theorem cell_at (w : World) (v : Value) (T : TypeId) {n : Nat} (h : n = w.heap.size) : (w.alloc (.cells #[v] T)).cell? ((⟨n, 0, none⟩ : Addr).add 0) = some v := h ▸ cell_new w v T
theorem one_news {w : World} {a : Addr} {v : Value} (h : w.cell? (a.add 0) = some v) : ∀ (j : Nat) (u : Value), [v][j]? = some u → w.cell? (a.add j) = some u := by
  intro j u hj
  match j, hj with
  | 0, hj => simp at hj; subst hj; exact h

theorem own_two {B : Nat} {w : World} {g n c : Nat} {l : List Int} {x : Int} (h : w.ownsRow B 3 1 (.slice (some ⟨g, 0, none⟩) n c) n (l.map (Value.int .i64) ++ [.int .i64 x])) : n ≤ c ∧ HiI B w (some ⟨g, 0, none⟩) (l ++ [x]) := by
  have hn : n = (l ++ [x]).length := by have := h.1; simp at this ⊢; omega
  subst hn
  have h' : OwnI B w (.slice (some ⟨g, 0, none⟩) (l ++ [x]).length c) (l ++ [x]) := by simpa [OwnI] using h
  exact ⟨h'.cap, h'.hi⟩

theorem run_append_zero (P : Program) (w : World) (t ty e : TypeId) (i : TypeInfo) (ht : P.underlying t = some (.slice e)) (hi : P.info? e = some i) (ad : Option Addr) (c : Nat) :
    (Builtin.append_ #[t, t] ty #[.slice none 0 0, .slice ad 0 c]).run P w = .ok (.slice none 0 0) w := by
  cases ad <;> simp [Builtin.append_, run_underlying ht, sizeOf, typeInfo, hi, Builtin.lenOf, Builtin.firstCells, loadCells, loadCellsFrom]

theorem step_append_zero (P : Program) (w : World) {ops : Array Oper} {o : Oper} {a : Act} {K : Act → World → Prop} {Q : Exit → Act → World → Prop} {E : Prop} (hgd : o.guard = none) (s x : Operand) (t : TypeId)
    (ho : o.op = .call { callee := .builtin .append, args := #[s, x], argTypes := #[t, t] }) (e : TypeId) (i : TypeInfo) (ht : P.underlying t = some (.slice e)) (hi : P.info? e = some i) (ad : Option Addr) (c : Nat) (hs : a.eval s = .slice none 0 0) (hx : a.eval x = .slice ad 0 c)
    (h : K (a.put o.dst (.slice none 0 0)) w) : if Region.wanted o (yielded ops a.tmps) = true then Oper.wp P o a w K Q else E := by
  have hw : Region.wanted o (yielded ops a.tmps) = true := by simp [Region.wanted, hgd]
  rw [if_pos hw]
  unfold Oper.wp execOp
  simp only [ho, resolve, invoke, builtin, Sem.run_bind, Sem.run_pure, Result.andThen_ok, List.map_toArray, List.map_cons, List.map_nil, hs, hx, run_append_zero P w t _ e i ht hi]
  exact h

theorem cells_at {w : World} {M k : Nat} {cs : Array Value} {T : TypeId} {v : Value} (h : w.heap[M]? = some (.cells cs T (0, 0))) (hk : cs[k]? = some v) : w.cell? ⟨M, k, none⟩ = some v ∧ w.frozen? ⟨M, k, none⟩ = false := by
  simp [World.cell?, World.frozen?, h, hk]
theorem set_self {cs : Array Value} {k : Nat} {v : Value} (h : cs[k]? = some v) : cs.setIfInBounds k v = cs := by
  apply Array.ext
  · simp
  · intro i h1 h2
    rw [Array.getElem_setIfInBounds]
    split
    · subst_vars
      obtain ⟨_, e⟩ := Array.getElem?_eq_some_iff.1 h
      exact e.symm
    · rfl
    
theorem radd_same {cs : Array Value} {l : List Int} {M k : Nat} {what : Int} {w w' : World} {a : Option Addr} {c : Nat} (o : Sl.ok ⟨a, l, c⟩ w) (hM : w.heap[M]? = some (.cells cs 41 (0, 0))) (hcs : cs[k]? = some (.slice a l.length c))
    (hne : ∀ x, a = some x → x.block ≠ M) (hl : l = addL l what) (hb : Below w.heap.size w w') : RAddPost cs l M k what w (.returned (.tuple #[])) w' :=
  ⟨⟨a, l, c⟩, rfl, o.below hb, hl, hne, by rw [set_self hcs, hb.block M (Array.getElem?_eq_some_iff.1 hM).1]; exact hM, Keeps.of_below hb⟩

theorem radd_fin {cs : Array Value} {l l' : List Int} {M k : Nat} {what : Int} {w w2 w' : World} {o : Obj} {P : Prop} {a' : Option Addr} {c' B : Nat} {v : Value} (hM : w.heap[M]? = some (.cells cs 41 (0, 0)))
    (hS : Below (w.heap.size + 1) (w.alloc o) w2 ∧ P) (hown : HiI B w2 a' l') (hB : B = w.heap.size + 1) (hv : v = .slice a' l'.length c') (hl : l' = addL l what) (h5 : l'.length ≤ 5) (hc : l'.length ≤ c') (ha : ∀ x, a' = some x → x.block ≠ M)
    (hw : w' = (w2.setCell ⟨M, k, none⟩ v).drew) : RAddPost cs l M k what w (.returned (.tuple #[])) w' := by
  have hlt : M < w.heap.size := (Array.getElem?_eq_some_iff.1 hM).1
  have hb0 : Below w.heap.size w w2 := (bal w o).trans (hS.1.mono (by omega))
  have kp : Keeps (· = M) w2 w' := by rw [hw]; exact Keeps.drew (Keeps.setCell (S := (· = M)) (Keeps.refl _ _) rfl _)
  refine ⟨⟨a', l', c'⟩, rfl, ⟨(hown.keeps kp (fun k hk => by omega)).ints, h5, hc⟩, hl, ha, ?_, (Keeps.of_below hb0).trans kp⟩
  rw [hw, hv]
  exact block_setCell ((hb0.block M hlt).trans hM) _

set_option maxRecDepth 100000 in
set_option maxHeartbeats 4000000 in
theorem radd_short (x : Int) (t : List Int) (a : Option Addr) (c M k : Nat) (cs : Array Value) (what : Int) (w : World) (ok : Sl.ok ⟨a, x :: t, c⟩ w) (hM : w.heap[M]? = some (.cells cs 41 (0, 0))) (hk : k < 4)
    (hcs : cs[k]? = some (.slice a (t.length + 1) c)) (hne : ∀ x, a = some x → x.block ≠ M) (y : Int) (hy : (x :: t)[t.length]'(by simp) = y) (hyb : (y == what) = false) (h3 : t.length ≤ 3) :
    Calls Try.prog 32 #[.pointer (some ⟨M, 0, none⟩), .agg #[.int .i64 ((k : Int) + 1), .int .i64 what]] w (RAddPost cs (x :: t) M k what w) := by
  obtain ⟨i0, hi, hz0, hz1, hz2⟩ := info_parts Try.infoInt
  obtain ⟨d0, f0⟩ := cells_at hM hcs
  have hlt : M < w.heap.size := (Array.getElem?_eq_some_iff.1 hM).1
  have INTS := Lib.hid ok.ints
  have LAST := Lib.hid hy
  obtain ⟨b', o', rfl, hbs, cl⟩ := ok.ints t.length (by simp)
  have hbM := hne _ rfl
  rw [hy] at cl
  have q3 : IntKind.i64.wrap ((k : Int) + 1 - 1) = (k : Int) := by rw [IntWalk.i64_in _ (by omega)]; omega
  have q4 : (k : Int) + 1 - 1 = (k : Int) := by omega
  have q1 : IntKind.i64.wrap ((t.length : Int) + 1 - 1) = (t.length : Int) := by rw [IntWalk.i64_in _ (by omega)]; omega
  have q2 : (t.length : Int) + 1 - 1 = (t.length : Int) := by omega
  have HM := Lib.hid hM
  clear hM hne hy ok hcs
  go_enter Try.func32, Try.ntmps32
  go_wp2
  go_quiet (fail)
  go_wp2
  go_quiet (fail)
  go_wp2
  have c0 : (w.alloc (.cells #[.int .i64 ((k : Int) + 1), .int .i64 what] 43)).cell? ⟨w.heap.size, 1, none⟩ = some (.int .i64 what) := by simp
  go_region_held3 (fun w' => Below (w.heap.size + 1) (w.alloc (.cells #[.int .i64 ((k : Int) + 1), .int .i64 what] 43)) w' ∧ w'.cell? ⟨w.heap.size, 1, none⟩ = some (.int .i64 what))
    ((refine s_mk ?_; repeat (first | with_reducible exact Below.refl _ _ | with_reducible exact And.left (by with_reducible assumption) | with_reducible refine Below.drew ?_ | with_reducible refine below_drewN ?_ _ | exact Below.grown (And.left (by assumption)) hgrow1 (s_size (by assumption)) (by rintro k ⟨⟩) | exact Below.grown (And.left (by assumption)) hgrow2 (s_size (by assumption)) (by rintro k ⟨⟩; exact own_ge hown1) | exact Below.alloc (And.left (by assumption)) (s_size (by assumption)) _ | with_reducible refine Below.alloc ?_ (by simp [World.drewN]) _)))
    (first
      | (refine step_append_lies _ (by rfl) _ _ _ (by rfl) (w.heap.size + 1) 3 i0 _ 1 8 Try.underlying36 hi hz0 hz1 hz2 rfl (by omega) (.slice none 0 0) 0 [] (by rfl) (own_nil _ _)
          ⟨b', o', none⟩ (t.length + 1) c ((x :: t).map (Value.int .i64)) (by rfl) (by simp) (ints_cells (s_ints INTS.out (by assumption))) (ints_one _) (by omega) (by unfold maxLen; omega) (by omega) (s_size (by assumption)) _ rfl ?_; intro g1 cap1 w1 hown1 hgrow1 hat1 hlt1; simp only [Nat.zero_add, List.nil_append] at hown1 ⊢)
      | (refine step_append_lies _ (by rfl) _ _ _ (by rfl) (w.heap.size + 1) 3 i0 _ 1 8 Try.underlying36 hi hz0 hz1 hz2 rfl (by omega) (.slice (some ⟨g1, 0, none⟩) (t.length + 1) cap1) (t.length + 1) ((x :: t).map (Value.int .i64)) (by rfl) (hown1.alloc _)
          ⟨w1.heap.size, 0, none⟩ 1 1 [.int .i64 what] (by rfl) (by simp) (one_news (cell_new w1 _ _)) (by simp [Value.oneCell']) (by omega) (by unfold maxLen; omega) (by omega) (s_size (by assumption)) _ rfl ?_; intro g2 cap2 w2 hown2 hgrow2 hat2 hlt2)
      | (refine step_append_lies _ (by rfl) _ _ _ (by rfl) (w.heap.size + 1) 3 i0 _ 1 8 Try.underlying36 hi hz0 hz1 hz2 rfl (by omega) (.slice (some ⟨g1, 0, none⟩) (t.length + 1) cap1) (t.length + 1) ((x :: t).map (Value.int .i64)) (by rfl) hown1
          ⟨w.heap.size + 1, 0, none⟩ 1 1 [.int .i64 what] (by rfl) (by simp) (one_news (hgrow1.cell (cell_at _ _ _ (by simp [World.drewN])) (by simp [Value.ownBlock]))) (by simp [Value.oneCell']) (by omega) (by unfold maxLen; omega) (by omega) (s_size (by assumption)) _ rfl ?_; intro g2 cap2 w2 hown2 hgrow2 hat2 hlt2))
  all_goals
    have hS2 : Below (w.heap.size + 1) (w.alloc (.cells #[.int .i64 ((k : Int) + 1), .int .i64 what] 43)) w2 ∧ w2.cell? ⟨w.heap.size, 1, none⟩ = some (.int .i64 what) := by assumption
    obtain ⟨hcap, hhi⟩ := own_two hown2
    have hg2 := own_ge hown2
    have HS := Lib.hid hS2
    have HH := Lib.hid hhi
    have e0 := HS.out.1.cell (p := ⟨w.heap.size, 0, none⟩) (Nat.lt_succ_self _)
    simp at e0
    have dd : w2.cell? ⟨M, k, none⟩ = some (.slice (some ⟨b', o', none⟩) (t.length + 1) c) := by rw [hS2.1.cell (p := ⟨M, k, none⟩) (by show M < w.heap.size + 1; omega), (bal w _).cell (p := ⟨M, k, none⟩) hlt]; exact d0
    have ff : w2.frozen? ⟨M, k, none⟩ = false := by rw [hS2.1.frozen (p := ⟨M, k, none⟩) (by show M < w.heap.size + 1; omega), (bal w _).frozen (p := ⟨M, k, none⟩) hlt]; exact f0
    clear hS2 hown2 hgrow2 hown1 hgrow1 hhi
    go_wp2
    go_region
    go_wp2
    go_end0
    exact radd_fin (l' := (x :: t) ++ [what]) (c' := cap2) HM.out HS.out HH.out rfl (by simp) (addL_short (x :: t) what t.length rfl (by rw [LAST.out]; simpa using hyb) (by simp; omega)).symm (by simp; omega) (by simp; omega) (by rintro _ ⟨⟩; show g2 ≠ M; omega) rfl
set_option maxRecDepth 100000 in
set_option maxHeartbeats 4000000 in
theorem radd_full (x p q r s : Int) (a : Option Addr) (c M k : Nat) (cs : Array Value) (what : Int) (w : World) (ok : Sl.ok ⟨a, [x, p, q, r, s], c⟩ w) (hM : w.heap[M]? = some (.cells cs 41 (0, 0))) (hk : k < 4)
    (hcs : cs[k]? = some (.slice a (5) c)) (hne : ∀ x, a = some x → x.block ≠ M) (y : Int) (hy : ([x, p, q, r, s])[4]'(by simp) = y) (hyb : (y == what) = false) :
    Calls Try.prog 32 #[.pointer (some ⟨M, 0, none⟩), .agg #[.int .i64 ((k : Int) + 1), .int .i64 what]] w (RAddPost cs ([x, p, q, r, s]) M k what w) := by
  obtain ⟨i0, hi, hz0, hz1, hz2⟩ := info_parts Try.infoInt
  obtain ⟨d0, f0⟩ := cells_at hM hcs
  have hlt : M < w.heap.size := (Array.getElem?_eq_some_iff.1 hM).1
  have INTS := Lib.hid ok.ints
  have LAST := Lib.hid hy
  obtain ⟨b', o', rfl, hbs, cl⟩ := ok.ints 4 (by simp)
  have hbM := hne _ rfl
  rw [hy] at cl
  have q3 : IntKind.i64.wrap ((k : Int) + 1 - 1) = (k : Int) := by rw [IntWalk.i64_in _ (by omega)]; omega
  have q4 : (k : Int) + 1 - 1 = (k : Int) := by omega
  have HM := Lib.hid hM
  clear hM hne hy ok hcs
  go_enter Try.func32, Try.ntmps32
  go_wp2
  go_quiet (fail)
  go_wp2
  go_quiet (fail)
  go_wp2
  have c0 : (w.alloc (.cells #[.int .i64 ((k : Int) + 1), .int .i64 what] 43)).cell? ⟨w.heap.size, 1, none⟩ = some (.int .i64 what) := by simp
  go_region_held3 (fun w' => Below (w.heap.size + 1) (w.alloc (.cells #[.int .i64 ((k : Int) + 1), .int .i64 what] 43)) w' ∧ w'.cell? ⟨w.heap.size, 1, none⟩ = some (.int .i64 what))
    ((refine s_mk ?_; repeat (first | with_reducible exact Below.refl _ _ | with_reducible exact And.left (by with_reducible assumption) | with_reducible refine Below.drew ?_ | with_reducible refine below_drewN ?_ _ | exact Below.grown (And.left (by assumption)) hgrow1 (s_size (by assumption)) (by rintro k ⟨⟩) | exact Below.grown (And.left (by assumption)) hgrow2 (s_size (by assumption)) (by rintro k ⟨⟩; exact own_ge hown1) | exact Below.alloc (And.left (by assumption)) (s_size (by assumption)) _ | with_reducible refine Below.alloc ?_ (by simp [World.drewN]) _)))
    (first
      | (refine step_append_lies _ (by rfl) _ _ _ (by rfl) (w.heap.size + 1) 3 i0 _ 1 8 Try.underlying36 hi hz0 hz1 hz2 rfl (by omega) (.slice none 0 0) 0 [] (by rfl) (own_nil _ _)
          ⟨b', o', none⟩ (5) c (([x, p, q, r, s]).map (Value.int .i64)) (by rfl) (by simp) (ints_cells (s_ints INTS.out (by assumption))) (ints_one _) (by omega) (by unfold maxLen; omega) (by omega) (s_size (by assumption)) _ rfl ?_; intro g1 cap1 w1 hown1 hgrow1 hat1 hlt1; simp only [Nat.zero_add, List.nil_append] at hown1 ⊢)
      | (refine step_append_lies _ (by rfl) _ _ _ (by rfl) (w.heap.size + 1) 3 i0 _ 1 8 Try.underlying36 hi hz0 hz1 hz2 rfl (by omega) (.slice (some ⟨g1, 0, none⟩) (5) cap1) (5) (([x, p, q, r, s]).map (Value.int .i64)) (by rfl) (hown1.alloc _)
          ⟨w1.heap.size, 0, none⟩ 1 1 [.int .i64 what] (by rfl) (by simp) (one_news (cell_new w1 _ _)) (by simp [Value.oneCell']) (by omega) (by unfold maxLen; omega) (by omega) (s_size (by assumption)) _ rfl ?_; intro g2 cap2 w2 hown2 hgrow2 hat2 hlt2)
      | (refine step_append_lies _ (by rfl) _ _ _ (by rfl) (w.heap.size + 1) 3 i0 _ 1 8 Try.underlying36 hi hz0 hz1 hz2 rfl (by omega) (.slice (some ⟨g1, 0, none⟩) (5) cap1) (5) (([x, p, q, r, s]).map (Value.int .i64)) (by rfl) hown1
          ⟨w.heap.size + 1, 0, none⟩ 1 1 [.int .i64 what] (by rfl) (by simp) (one_news (hgrow1.cell (cell_at _ _ _ (by simp [World.drewN])) (by simp [Value.ownBlock]))) (by simp [Value.oneCell']) (by omega) (by unfold maxLen; omega) (by omega) (s_size (by assumption)) _ rfl ?_; intro g2 cap2 w2 hown2 hgrow2 hat2 hlt2))
  all_goals
    have hS2 : Below (w.heap.size + 1) (w.alloc (.cells #[.int .i64 ((k : Int) + 1), .int .i64 what] 43)) w2 ∧ w2.cell? ⟨w.heap.size, 1, none⟩ = some (.int .i64 what) := by assumption
    obtain ⟨hcap, hhi⟩ := own_two hown2
    have hg2 := own_ge hown2
    have HS := Lib.hid hS2
    have HH := Lib.hid hhi
    have e0 := HS.out.1.cell (p := ⟨w.heap.size, 0, none⟩) (Nat.lt_succ_self _)
    simp at e0
    have dd : w2.cell? ⟨M, k, none⟩ = some (.slice (some ⟨b', o', none⟩) (5) c) := by rw [hS2.1.cell (p := ⟨M, k, none⟩) (by show M < w.heap.size + 1; omega), (bal w _).cell (p := ⟨M, k, none⟩) hlt]; exact d0
    have ff : w2.frozen? ⟨M, k, none⟩ = false := by rw [hS2.1.frozen (p := ⟨M, k, none⟩) (by show M < w.heap.size + 1; omega), (bal w _).frozen (p := ⟨M, k, none⟩) hlt]; exact f0
    clear hS2 hown2 hgrow2 hown1 hgrow1 hhi
    go_wp2
    go_region
    go_wp2
    go_end0
    exact radd_fin (l' := [p, q, r, s, what]) (c' := cap2 - 1) HM.out HS.out (HiI.tail (x := x) (t := [p, q, r, s, what]) HH.out) rfl (by simp) (addL_new [x, p, q, r, s] what 4 rfl (by rw [LAST.out]; simpa using hyb)).symm (by simp) (by simp; omega) (by rintro _ ⟨⟩; show g2 ≠ M; omega) rfl

set_option maxRecDepth 100000 in
set_option maxHeartbeats 4000000 in
theorem radd_eq (x : Int) (t : List Int) (a : Option Addr) (c M k : Nat) (cs : Array Value) (what : Int) (w : World) (ok : Sl.ok ⟨a, x :: t, c⟩ w) (hM : w.heap[M]? = some (.cells cs 41 (0, 0))) (hk : k < 4)
    (hcs : cs[k]? = some (.slice a (t.length + 1) c)) (hne : ∀ x, a = some x → x.block ≠ M) (hy : (x :: t)[t.length]'(by simp) = what) :
    Calls Try.prog 32 #[.pointer (some ⟨M, 0, none⟩), .agg #[.int .i64 ((k : Int) + 1), .int .i64 what]] w (RAddPost cs (x :: t) M k what w) := by
  have hl : t.length + 1 ≤ 5 := ok.len
  obtain ⟨d0, f0⟩ := cells_at hM hcs
  have hlt : M < w.heap.size := (Array.getElem?_eq_some_iff.1 hM).1
  have FIN := Lib.hid (fun (w' : World) (hb : Below w.heap.size w w') => radd_same (what := what) ok hM hcs hne (addL_last (x :: t) what t.length rfl hy).symm hb)
  obtain ⟨b', o', rfl, hbs, cl⟩ := ok.ints t.length (by simp)
  rw [hy] at cl
  have q3 : IntKind.i64.wrap ((k : Int) + 1 - 1) = (k : Int) := by rw [IntWalk.i64_in _ (by omega)]; omega
  have q4 : (k : Int) + 1 - 1 = (k : Int) := by omega
  have q1 : IntKind.i64.wrap ((t.length : Int) + 1 - 1) = (t.length : Int) := by rw [IntWalk.i64_in _ (by omega)]; omega
  have q2 : (t.length : Int) + 1 - 1 = (t.length : Int) := by omega
  clear hM hne hy ok hcs
  go_enter Try.func32, Try.ntmps32
  go_wp2
  go_quiet (fail)
  go_wp2
  go_quiet (fail)
  go_wp2
  exact bodyPost_ret (v := .tuple #[]) (by simp [results, Try.results32, go_sem]) rfl (FIN.out _ (below_drewN (below_drewN (bal w _) _) _))

set_option maxRecDepth 100000 in
set_option maxHeartbeats 4000000 in
theorem radd_nil (a : Option Addr) (c M k : Nat) (cs : Array Value) (what : Int) (w : World) (hM : w.heap[M]? = some (.cells cs 41 (0, 0))) (hk : k < 4)
    (hcs : cs[k]? = some (.slice a 0 c)) :
    Calls Try.prog 32 #[.pointer (some ⟨M, 0, none⟩), .agg #[.int .i64 ((k : Int) + 1), .int .i64 what]] w (RAddPost cs [] M k what w) := by
  obtain ⟨i0, hi, hz0, hz1, hz2⟩ := info_parts Try.infoInt
  obtain ⟨d0, f0⟩ := cells_at hM hcs
  have hlt : M < w.heap.size := (Array.getElem?_eq_some_iff.1 hM).1
  have q3 : IntKind.i64.wrap ((k : Int) + 1 - 1) = (k : Int) := by rw [IntWalk.i64_in _ (by omega)]; omega
  have q4 : (k : Int) + 1 - 1 = (k : Int) := by omega
  have HM := Lib.hid hM
  clear hM hcs
  go_enter Try.func32, Try.ntmps32
  go_wp2
  go_quiet (fail)
  go_wp2
  go_quiet (fail)
  go_wp2
  have c0 : (w.alloc (.cells #[.int .i64 ((k : Int) + 1), .int .i64 what] 43)).cell? ⟨w.heap.size, 1, none⟩ = some (.int .i64 what) := by simp
  go_region_held3 (fun w' => Below (w.heap.size + 1) (w.alloc (.cells #[.int .i64 ((k : Int) + 1), .int .i64 what] 43)) w' ∧ w'.cell? ⟨w.heap.size, 1, none⟩ = some (.int .i64 what))
    ((refine s_mk ?_; repeat (first | with_reducible exact Below.refl _ _ | with_reducible exact And.left (by with_reducible assumption) | with_reducible refine Below.drew ?_ | with_reducible refine below_drewN ?_ _ | exact Below.grown (And.left (by assumption)) hgrow2 (s_size (by assumption)) (by rintro k ⟨⟩) | exact Below.alloc (And.left (by assumption)) (s_size (by assumption)) _ | with_reducible refine Below.alloc ?_ (by simp [World.drewN]) _)))
    (first
      | (refine step_append_zero _ _ (by rfl) _ _ _ (by rfl) 3 i0 Try.underlying36 hi a c (by rfl) (by rfl) ?_)
      | (refine step_append_lies _ (by rfl) _ _ _ (by rfl) (w.heap.size + 1) 3 i0 _ 1 8 Try.underlying36 hi hz0 hz1 hz2 rfl (by omega) (.slice none 0 0) 0 (([] : List Int).map (Value.int .i64)) (by rfl) (own_nil _ _)
          ⟨w.heap.size + 1, 0, none⟩ 1 1 [.int .i64 what] (by rfl) (by simp) (one_news (cell_at _ _ _ (by simp [World.drewN]))) (by simp [Value.oneCell']) (by omega) (by unfold maxLen; omega) (by omega) (s_size (by assumption)) _ rfl ?_; intro g2 cap2 w2 hown2 hgrow2 hat2 hlt2))
  all_goals
    have hS2 : Below (w.heap.size + 1) (w.alloc (.cells #[.int .i64 ((k : Int) + 1), .int .i64 what] 43)) w2 ∧ w2.cell? ⟨w.heap.size, 1, none⟩ = some (.int .i64 what) := by assumption
    have hown2' : w2.ownsRow (w.heap.size + 1) 3 1 (.slice (some ⟨g2, 0, none⟩) 1 cap2) 1 (([] : List Int).map (Value.int .i64) ++ [.int .i64 what]) := hown2
    obtain ⟨hcap, hhi⟩ := own_two hown2'
    have hg2 := own_ge hown2
    have HS := Lib.hid hS2
    have HH := Lib.hid hhi
    have e0 := HS.out.1.cell (p := ⟨w.heap.size, 0, none⟩) (Nat.lt_succ_self _)
    simp at e0
    have dd : w2.cell? ⟨M, k, none⟩ = some (.slice a 0 c) := by rw [hS2.1.cell (p := ⟨M, k, none⟩) (by show M < w.heap.size + 1; omega), (bal w _).cell (p := ⟨M, k, none⟩) hlt]; exact d0
    have ff : w2.frozen? ⟨M, k, none⟩ = false := by rw [hS2.1.frozen (p := ⟨M, k, none⟩) (by show M < w.heap.size + 1; omega), (bal w _).frozen (p := ⟨M, k, none⟩) hlt]; exact f0
    clear hS2 hown2 hown2' hgrow2 hhi
    go_wp2
    go_region
    go_wp2
    go_end0
    exact radd_fin (l' := [what]) (c' := cap2) HM.out HS.out HH.out rfl (by simp) rfl (by simp) (by simp; omega) (by rintro _ ⟨⟩; show g2 ≠ M; omega) rfl

theorem radd_core (l : List Int) (a : Option Addr) (c M k : Nat) (cs : Array Value) (what : Int) (w : World) (ok : Sl.ok ⟨a, l, c⟩ w) (hM : w.heap[M]? = some (.cells cs 41 (0, 0))) (hk : k < 4)
    (hcs : cs[k]? = some (.slice a l.length c)) (hne : ∀ x, a = some x → x.block ≠ M) :
    Calls Try.prog 32 #[.pointer (some ⟨M, 0, none⟩), .agg #[.int .i64 ((k : Int) + 1), .int .i64 what]] w (RAddPost cs l M k what w) := by
  cases l with
  | nil => exact radd_nil a c M k cs what w hM hk hcs
  | cons x t =>
    by_cases hy : (x :: t)[t.length]'(by simp) = what
    · exact radd_eq x t a c M k cs what w ok hM hk hcs hne hy
    have hlen : t.length + 1 ≤ 5 := ok.len
    rcases (by omega : t.length ≤ 3 ∨ t.length = 4) with h3 | h4
    · exact radd_short x t a c M k cs what w ok hM hk hcs hne _ rfl (by simpa using hy) h3
    · have : ∃ p q r s, t = [p, q, r, s] := by
        match t, h4 with
        | [p, q, r, s], _ => exact ⟨p, q, r, s, rfl⟩
      obtain ⟨p, q, r, s, rfl⟩ := this
      exact radd_full x p q r s a c M k cs what w ok hM hk hcs hne _ rfl (by simpa using hy)
end Go.Proofs.Ytkiogccpbdpfaaa
