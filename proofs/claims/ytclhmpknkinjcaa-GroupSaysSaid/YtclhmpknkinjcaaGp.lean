/-
  Groups of replicas as plain values: how they lie in memory.
-/
import Derived.Test.YtclhmpknkinjcaaMerge
namespace Go.Proofs.Ytclhmpknkinjcaa
open Go.RowKit Go.Sort

/-- cells of a row set one by one -/
def putL (l : List Value) (o : Nat) : List Value → List Value
  | [] => l
  | v :: r => putL (l.set o v) (o + 1) r
theorem set_app_r {a b : List Value} {i : Nat} (h : a.length ≤ i) (v : Value) : (a ++ b).set i v = a ++ b.set (i - a.length) v := by
  rw [List.set_append, if_neg (by omega)]
theorem set_app_l {a b : List Value} {i : Nat} (h : i < a.length) (v : Value) : (a ++ b).set i v = a.set i v ++ b := by
  rw [List.set_append, if_pos h]
theorem putL_length : ∀ (vs l : List Value) (o : Nat), (putL l o vs).length = l.length
  | [], _, _ => rfl
  | v :: r, l, o => by unfold putL; rw [putL_length r]; simp
theorem putL_right : ∀ (vs a b : List Value) (o : Nat), putL (a ++ b) (a.length + o) vs = a ++ putL b o vs
  | [], _, _, _ => rfl
  | v :: r, a, b, o => by
    unfold putL
    rw [set_app_r (by omega), Nat.add_sub_cancel_left]
    exact putL_right r a (b.set o v) (o + 1)
theorem putL_left : ∀ (vs a b : List Value) (o : Nat), o + vs.length ≤ a.length → putL (a ++ b) o vs = putL a o vs ++ b
  | [], _, _, _, _ => rfl
  | v :: r, a, b, o, h => by
    simp only [List.length_cons] at h
    unfold putL
    rw [set_app_l (by omega)]
    exact putL_left r (a.set o v) b (o + 1) (by simp; omega)
theorem putL_full : ∀ (vs p a : List Value), a.length = vs.length → putL (p ++ a) p.length vs = p ++ vs
  | [], p, a, h => by obtain rfl := List.length_eq_zero_iff.1 (h.trans rfl); rfl
  | v :: r, p, [], h => by simp at h
  | v :: r, p, x :: a, h => by
    unfold putL
    rw [set_app_r (by omega), Nat.sub_self, List.set_cons_zero]
    have := putL_full r (p ++ [v]) a (by simpa using h)
    simpa using this
theorem putL_all {vs a : List Value} (h : a.length = vs.length) : putL a 0 vs = vs := by simpa using putL_full vs [] a h
theorem block_setCells {N : Nat} {T : TypeId} : ∀ (vs : List Value) (o : Nat) (w : World) (cs : Array Value), w.heap[N]? = some (.cells cs T (0, 0)) → (w.setCells N o vs).heap[N]? = some (.cells (putL cs.toList o vs).toArray T (0, 0))
  | [], _, _, _, h => h
  | v :: r, o, w, cs, h => by
    have := block_setCells r (o + 1) (w.setCell ⟨N, o, none⟩ v) _ (block_setCell h v)
    unfold World.setCells putL
    simpa using this
theorem Keeps.setCells {S : Nat → Prop} {N : Nat} (hN : S N) : ∀ (vs : List Value) (o : Nat) (a w : World), Keeps S a w → Keeps S a (w.setCells N o vs)
  | [], _, _, _, h => h
  | v :: r, o, a, w, h => by
    unfold World.setCells
    exact Keeps.setCells hN r (o + 1) a _ (h.setCell hN v)

/-- a group -/
structure Gp where
  r : List Rp
  u : List Bool
structure Gp.ok (g : Gp) : Prop where
  r3 : g.r.length = 3
  u3 : g.u.length = 3
  c8 : ∀ r ∈ g.r, r.cells.length = 8
def flatR (l : List Rp) : List Value := l.flatMap (fun r => r.arr.toList)
def Gp.arr (g : Gp) : Array Value := (flatR g.r ++ g.u.map Value.bool).toArray
theorem flatR_length : ∀ (l : List Rp), (∀ r ∈ l, r.cells.length = 8) → (flatR l).length = l.length * 25
  | [], _ => rfl
  | r :: l, h => by
    have ih := flatR_length l (fun q hq => h q (by simp [hq]))
    have hz := Rp.size (h r (by simp))
    simp only [flatR, List.flatMap_cons, List.length_append, Array.length_toList, List.length_cons] at ih ⊢
    omega
theorem flatR_at : ∀ (l : List Rp), (∀ r ∈ l, r.cells.length = 8) → ∀ (i : Nat) (h : i < l.length) (j : Nat), j < 25 → (flatR l)[i * 25 + j]? = l[i].arr[j]?
  | r :: l, h8, 0, _, j, hj => by
    have hz := Rp.size (h8 r (by simp))
    simp only [flatR, List.flatMap_cons]
    rw [List.getElem?_append_left (by simp; omega)]
    simp
  | r :: l, h8, i + 1, h, j, hj => by
    have hz := Rp.size (h8 r (by simp))
    have := flatR_at l (fun q hq => h8 q (by simp [hq])) i (by simpa using h) j hj
    simp only [flatR, List.flatMap_cons] at this ⊢
    rw [List.getElem?_append_right (by simp; omega)]
    simp only [Array.length_toList, hz]
    rw [show (i + 1) * 25 + j - 25 = i * 25 + j from by omega]
    simpa using this
theorem flatR_put : ∀ (l : List Rp), (∀ r ∈ l, r.cells.length = 8) → ∀ (i : Nat) (h : i < l.length) (o : Nat) (vs : List Value) (r' : Rp), o + vs.length ≤ 25 → putL l[i].arr.toList o vs = r'.arr.toList →
    putL (flatR l) (i * 25 + o) vs = flatR (l.set i r')
  | x :: l, h8, 0, _, o, vs, r', ho, hp => by
    have hz := Rp.size (h8 x (by simp))
    simp only [flatR, List.flatMap_cons, List.set_cons_zero, Nat.zero_mul, Nat.zero_add]
    rw [putL_left _ _ _ _ (by simp; omega)]
    exact congrArg (· ++ _) hp
  | x :: l, h8, i + 1, h, o, vs, r', ho, hp => by
    have hz := Rp.size (h8 x (by simp))
    have ih := flatR_put l (fun q hq => h8 q (by simp [hq])) i (by simpa using h) o vs r' ho hp
    simp only [flatR, List.flatMap_cons, List.set_cons_succ] at ih ⊢
    rw [show (i + 1) * 25 + o = x.arr.toList.length + (i * 25 + o) from by simp; omega, putL_right, ih]
theorem flatR_one (l : List Rp) : ∀ v ∈ flatR l, v.oneCell' = true := by
  intro v hv
  simp only [flatR, List.mem_flatMap] at hv
  obtain ⟨r, _, h⟩ := hv
  exact (Array.all_eq_true_iff_forall_mem.1 r.one) v (by simpa using h)
theorem Gp.one (g : Gp) : g.arr.all (·.oneCell') = true := by
  unfold Gp.arr
  apply all_oneCell_toArray
  intro v hv
  rcases List.mem_append.1 hv with h | h
  · exact flatR_one _ v h
  · simp only [List.mem_map] at h
    obtain ⟨b, _, rfl⟩ := h; rfl
theorem Gp.size {g : Gp} (h : g.ok) : g.arr.size = 78 := by
  unfold Gp.arr
  simp [flatR_length g.r h.c8, h.r3, h.u3]
theorem Gp.atR {g : Gp} (h : g.ok) {i : Nat} (hi : i < g.r.length) {j : Nat} (hj : j < 25) : g.arr[i * 25 + j]? = g.r[i].arr[j]? := by
  unfold Gp.arr
  have hl := flatR_length g.r h.c8
  rw [List.getElem?_toArray, List.getElem?_append_left (by have := h.r3; omega)]
  exact flatR_at g.r h.c8 i hi j hj
theorem Gp.atU {g : Gp} (h : g.ok) {i : Nat} (hi : i < g.u.length) : g.arr[75 + i]? = some (.bool g.u[i]) := by
  unfold Gp.arr
  have hl := flatR_length g.r h.c8
  have h3 := h.r3
  rw [List.getElem?_toArray, List.getElem?_append_right (by omega), show 75 + i - (flatR g.r).length = i from by omega]
  simp [hi]
def Gp.setR (g : Gp) (i : Nat) (r : Rp) : Gp := ⟨g.r.set i r, g.u⟩
def Gp.setU (g : Gp) (i : Nat) (b : Bool) : Gp := ⟨g.r, g.u.set i b⟩
theorem Gp.ok.setR {g : Gp} (h : g.ok) (i : Nat) {r : Rp} (hr : r.cells.length = 8) : (g.setR i r).ok :=
  ⟨by simp [Gp.setR, h.r3], h.u3, fun q hq => by
    rcases List.mem_or_eq_of_mem_set hq with h1 | h1
    · exact h.c8 q h1
    · rw [h1]; exact hr⟩
theorem Gp.ok.setU {g : Gp} (h : g.ok) (i : Nat) (b : Bool) : (g.setU i b).ok := ⟨h.r3, by simp [Gp.setU, h.u3], h.c8⟩
theorem Gp.putR {g : Gp} (h : g.ok) {i : Nat} (hi : i < g.r.length) (o : Nat) (vs : List Value) (r' : Rp) (ho : o + vs.length ≤ 25) (hp : putL g.r[i].arr.toList o vs = r'.arr.toList) :
    (putL g.arr.toList (i * 25 + o) vs).toArray = (g.setR i r').arr := by
  unfold Gp.arr Gp.setR
  have hl := flatR_length g.r h.c8
  congr 1
  rw [putL_left _ _ _ _ (by have := h.r3; omega), flatR_put g.r h.c8 i hi o vs r' ho hp]
theorem Gp.putU {g : Gp} (h : g.ok) {i : Nat} (b : Bool) : g.arr.setIfInBounds (75 + i) (.bool b) = (g.setU i b).arr := by
  unfold Gp.arr Gp.setU
  have hl := flatR_length g.r h.c8
  have h3 := h.r3
  apply Array.toList_inj.1
  simp only [Array.toList_setIfInBounds]
  rw [set_app_r (by omega), show 75 + i - (flatR g.r).length = i from by omega]
  simp [List.map_set]

theorem gp_row : Try.prog.underlying 40 = some (.struct (Try.prog.fieldsOf 40)) ∧ (Try.prog.info? 40).map (·.size) = some 78 := by constructor <;> kernel_rfl

section
variable {w : World} {N i : Nat} {g : Gp} {T : TypeId}
theorem gp_floor (h : w.heap[N]? = some (.cells g.arr T (0, 0))) (hg : g.ok) (hi : i < g.r.length) : w.cell? ⟨N, i * 25, none⟩ = some (.int .i64 g.r[i].floor) ∧ w.frozen? ⟨N, i * 25, none⟩ = false := by
  have := Gp.atR hg hi (j := 0) (by omega)
  rw [Nat.add_zero, Rp.at0] at this
  simp [World.cell?, World.frozen?, h, this]
theorem gp_up (h : w.heap[N]? = some (.cells g.arr T (0, 0))) (hg : g.ok) (hi : i < g.u.length) : w.cell? ⟨N, 75 + i, none⟩ = some (.bool g.u[i]) ∧ w.frozen? ⟨N, 75 + i, none⟩ = false := by
  have := Gp.atU hg hi
  simp [World.cell?, World.frozen?, h, this]
theorem gp_range (h : w.heap[N]? = some (.cells g.arr T (0, 0))) (hg : g.ok) (hi : i < g.r.length) : w.rangeAt N (i * 25) g.r[i].arr.toList ∧ w.there N (i * 25) 25 := by
  have h8 := Rp.size (hg.c8 _ (List.getElem_mem hi))
  have h1 : w.rangeAt N (i * 25) g.r[i].arr.toList := fun j v hv => by
    have hj : j < 25 := by
      have := (List.getElem?_eq_some_iff.1 hv).1
      simp at this; omega
    rw [cell_of_row w N (i * 25 + j) g.arr T (0, 0) h, Gp.atR hg hi hj]
    simpa using hv
  refine ⟨h1, fun j hj => ⟨h1.isSome j (by simp; omega), ?_⟩⟩
  simp [World.frozen?, h]
theorem gp_cell {k : Nat} (h : w.heap[N]? = some (.cells g.arr T (0, 0))) (hg : g.ok) (hi : i < g.r.length) (hk : k < g.r[i].cells.length) :
    (w.cell? ⟨N, i * 25 + (1 + k * 3), none⟩ = some (.int .i64 g.r[i].cells[k].e) ∧ w.cell? ⟨N, i * 25 + (1 + k * 3 + 1), none⟩ = some (.int .i64 g.r[i].cells[k].n) ∧ w.cell? ⟨N, i * 25 + (1 + k * 3 + 2), none⟩ = some (.string g.r[i].cells[k].d)) ∧
    w.frozen? ⟨N, i * 25 + (1 + k * 3), none⟩ = false ∧ w.frozen? ⟨N, i * 25 + (1 + k * 3 + 1), none⟩ = false ∧ w.frozen? ⟨N, i * 25 + (1 + k * 3 + 2), none⟩ = false := by
  have h8 := hg.c8 _ (List.getElem_mem hi)
  obtain ⟨h1, h2, h3⟩ := g.r[i].at hk
  have e0 := Gp.atR hg hi (j := 1 + k * 3) (by omega)
  have e1 := Gp.atR hg hi (j := 1 + k * 3 + 1) (by omega)
  have e2 := Gp.atR hg hi (j := 1 + k * 3 + 2) (by omega)
  rw [h1] at e0
  rw [h2] at e1
  rw [h3] at e2
  simp [World.cell?, World.frozen?, h, e0, e1, e2]
/-- a whole replica is stored -/
theorem gp_setR (h : w.heap[N]? = some (.cells g.arr T (0, 0))) (hg : g.ok) (hi : i < g.r.length) {r : Rp} (hr : r.cells.length = 8) : (w.setCells N (i * 25) r.arr.toList).heap[N]? = some (.cells (g.setR i r).arr T (0, 0)) := by
  have hz := Rp.size hr
  have hy := Rp.size (hg.c8 _ (List.getElem_mem hi))
  rw [block_setCells _ _ _ _ h, ← Gp.putR hg hi 0 r.arr.toList r (by simp; omega) (putL_all (by simp; omega)), Nat.add_zero]
/-- the cell of a block is stored, word by word -/
theorem gp_setC {k : Nat} (h : w.heap[N]? = some (.cells g.arr T (0, 0))) (hg : g.ok) (hi : i < g.r.length) (hk : k < g.r[i].cells.length) (c : Cel) :
    (((w.setCell ⟨N, i * 25 + (1 + k * 3), none⟩ (.int .i64 c.e)).setCell ⟨N, i * 25 + (1 + k * 3 + 1), none⟩ (.int .i64 c.n)).setCell ⟨N, i * 25 + (1 + k * 3 + 2), none⟩ (.string c.d)).heap[N]? = some (.cells (g.setR i ⟨g.r[i].floor, g.r[i].cells.set k c⟩).arr T (0, 0)) := by
  have h8 := hg.c8 _ (List.getElem_mem hi)
  have e := Gp.putR hg hi (1 + k * 3) c.vs ⟨g.r[i].floor, g.r[i].cells.set k c⟩ (by simp [Cel.vs]; omega) (by
    have := congrArg Array.toList (Rp.set g.r[i] c hk)
    simpa [putL, Cel.vs, Nat.add_assoc] using this)
  rw [← e]
  have := block_setCells c.vs (i * 25 + (1 + k * 3)) w _ h
  simpa [World.setCells, Cel.vs, Nat.add_assoc] using this
theorem gp_cellA {k : Nat} (h : w.heap[N]? = some (.cells g.arr T (0, 0))) (hg : g.ok) (hi : i < g.r.length) (hk : k < g.r[i].cells.length) :
    (w.cell? ⟨N, i * 25 + 1 + k * 3, none⟩ = some (.int .i64 g.r[i].cells[k].e) ∧ w.cell? ⟨N, i * 25 + 1 + k * 3 + 1, none⟩ = some (.int .i64 g.r[i].cells[k].n) ∧ w.cell? ⟨N, i * 25 + 1 + k * 3 + 2, none⟩ = some (.string g.r[i].cells[k].d)) ∧
    w.frozen? ⟨N, i * 25 + 1 + k * 3, none⟩ = false ∧ w.frozen? ⟨N, i * 25 + 1 + k * 3 + 1, none⟩ = false ∧ w.frozen? ⟨N, i * 25 + 1 + k * 3 + 2, none⟩ = false := by
  simpa only [Nat.add_assoc] using gp_cell h hg hi hk
theorem gp_setCA {k : Nat} (h : w.heap[N]? = some (.cells g.arr T (0, 0))) (hg : g.ok) (hi : i < g.r.length) (hk : k < g.r[i].cells.length) (c : Cel) :
    (((w.setCell ⟨N, i * 25 + 1 + k * 3, none⟩ (.int .i64 c.e)).setCell ⟨N, i * 25 + 1 + k * 3 + 1, none⟩ (.int .i64 c.n)).setCell ⟨N, i * 25 + 1 + k * 3 + 2, none⟩ (.string c.d)).heap[N]? = some (.cells (g.setR i ⟨g.r[i].floor, g.r[i].cells.set k c⟩).arr T (0, 0)) := by
  simpa only [Nat.add_assoc] using gp_setC h hg hi hk c
theorem gp_setU (h : w.heap[N]? = some (.cells g.arr T (0, 0))) (hg : g.ok) (b : Bool) : (w.setCell ⟨N, 75 + i, none⟩ (.bool b)).heap[N]? = some (.cells (g.setU i b).arr T (0, 0)) := by
  rw [block_setCell h, Gp.putU hg]
theorem gp_setF (h : w.heap[N]? = some (.cells g.arr T (0, 0))) (hg : g.ok) (hi : i < g.r.length) (f : Int) : (w.setCell ⟨N, i * 25, none⟩ (.int .i64 f)).heap[N]? = some (.cells (g.setR i ⟨f, g.r[i].cells⟩).arr T (0, 0)) := by
  have e := Gp.putR hg hi 0 [.int .i64 f] ⟨f, g.r[i].cells⟩ (by simp) (by
    have := congrArg Array.toList (Rp.setFloor g.r[i] f)
    simpa [putL] using this)
  rw [← e]
  have := block_setCells [.int .i64 f] (i * 25 + 0) w _ h
  simpa [World.setCells] using this
end

/-- who of a group takes part in an epoch -/
def Gp.isM (g : Gp) (epoch : Int) (i : Nat) : Bool := g.u.getD i false && decide ((g.r.getD i Rp.zero).floor = epoch)
def Gp.memTo (g : Gp) (epoch : Int) (n : Nat) : List Int := ((List.range n).filter (g.isM epoch)).map Int.ofNat
def Gp.mem (g : Gp) (epoch : Int) : List Int := g.memTo epoch 3
theorem Gp.mem_succ (g : Gp) (epoch : Int) (n : Nat) : g.memTo epoch (n + 1) = g.memTo epoch n ++ (if g.isM epoch n then [(n : Int)] else []) := by
  unfold Gp.memTo
  rw [List.range_succ, List.filter_append, List.map_append]
  congr 1
  cases h : g.isM epoch n <;> simp [h]
theorem Gp.mem_len (g : Gp) (epoch : Int) (n : Nat) : (g.memTo epoch n).length ≤ n := by
  unfold Gp.memTo
  rw [List.length_map]
  exact Nat.le_trans (List.length_filter_le _ _) (by simp)
theorem Gp.mem_lt {g : Gp} {epoch : Int} {n : Nat} {x : Int} (h : x ∈ g.memTo epoch n) : ∃ i : Nat, x = i ∧ i < n ∧ g.isM epoch i = true := by
  unfold Gp.memTo at h
  simp only [List.mem_map, List.mem_filter, List.mem_range] at h
  obtain ⟨i, ⟨h1, h2⟩, rfl⟩ := h
  exact ⟨i, rfl, h1, h2⟩
/-! ### loads and stores of rows, the operation first -/
section
variable {P : Program} {ops : Array Oper} {rest : List Oper} {op : Oper} {a : Act} {w : World} {Q : Exit → Act → World → Prop}
theorem ld_mid1 (hgd : op.guard = none) (ty : TypeId) (x : Operand) (ho : op.op = .load ty x)
    (h : ∃ (b o : Nat) (cs : Array Value) (d : TypeDesc), a.eval x = .pointer (some ⟨b, o, none⟩) ∧ w.rangeAt b o cs.toList ∧ P.underlying ty = some d ∧ d.isRow = true ∧ (P.info? ty).map (·.size) = some cs.size ∧ wpList P ops Q rest (a.put op.dst (.agg cs)) w) : wpList P ops Q (op :: rest) a w := by
  obtain ⟨b, o, cs, d, h1, h2, h3, h4, h5, h6⟩ := h
  exact wpList_load_midA hgd ty x ho b o h1 cs d h2 h3 h4 h5 h6
theorem st_mid1 (hgd : op.guard = none) (ty : TypeId) (x y : Operand) (ho : op.op = .store ty x y)
    (h : ∃ (b o : Nat) (cs : Array Value), a.eval x = .pointer (some ⟨b, o, none⟩) ∧ a.eval y = .agg cs ∧ w.there b o cs.size ∧ (P.info? ty).map (·.size) = some cs.size ∧ cs.all (·.oneCell') = true ∧ wpList P ops Q rest (a.put op.dst undef) (w.setCells b o cs.toList)) : wpList P ops Q (op :: rest) a w := by
  obtain ⟨b, o, cs, h1, h2, h3, h4, h5, h6⟩ := h
  exact wpList_store_mid hgd ty x y ho b o cs h1 h2 h3 h4 h5 h6
theorem ld_row1 (hgd : op.guard = none) (ty : TypeId) (x : Operand) (ho : op.op = .load ty x)
    (h : ∃ (g : Nat) (t : TypeId) (cs : Array Value) (d : TypeDesc), a.eval x = .pointer (some ⟨g, 0, none⟩) ∧ w.heap[g]? = some (.cells cs t (0, 0)) ∧ P.underlying ty = some d ∧ d.isRow = true ∧ (P.info? ty).map (·.size) = some cs.size ∧ wpList P ops Q rest (a.put op.dst (.agg cs)) w) : wpList P ops Q (op :: rest) a w := by
  obtain ⟨g, t, cs, d, h1, h2, h3, h4, h5, h6⟩ := h
  exact wpList_load_row hgd ty x ho g h1 t cs (0, 0) d h2 h3 (by cases d <;> simp_all) h5 h6
theorem st_row1 (hgd : op.guard = none) (ty : TypeId) (x y : Operand) (ho : op.op = .store ty x y)
    (h : ∃ (g : Nat) (t : TypeId) (cs old : Array Value), a.eval x = .pointer (some ⟨g, 0, none⟩) ∧ a.eval y = .agg cs ∧ w.heap[g]? = some (.cells old t (0, 0)) ∧ (P.info? ty).map (·.size) = some cs.size ∧ old.size = cs.size ∧ cs.all (·.oneCell') = true ∧ wpList P ops Q rest (a.put op.dst undef) (w.setRow g cs)) : wpList P ops Q (op :: rest) a w := by
  obtain ⟨g, t, cs, old, h1, h2, h3, h4, h5, h6, h7⟩ := h
  exact wpList_store_row hgd ty x y ho g cs h1 h2 t old h3 h4 h5 h6 h7
end
end Go.Proofs.Ytclhmpknkinjcaa
