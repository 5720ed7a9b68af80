/-
  Cells of blocks and replicas: plain values, how they lie in memory, equality; the contracts of Newer.
-/
import Derived.Test.YtclhmpknkinjcaaRep
import Derived.Laws.StructEq
import Derived.Laws.Rows
import Derived.ChangeKeysEq
namespace Go.Proofs.Ytclhmpknkinjcaa
open Go.RowKit

/-- a cell of a block -/
structure Cel where
  e : Int
  n : Int
  d : ByteArray
deriving DecidableEq

abbrev Cel.v (c : Cel) : Value := .agg #[.int .i64 c.e, .int .i64 c.n, .string c.d]
def Cel.vs (c : Cel) : List Value := [.int .i64 c.e, .int .i64 c.n, .string c.d]
def Cel.zero : Cel := ⟨0, 0, ByteArray.empty⟩
def newerB (a b : Cel) : Bool := decide (b.e < a.e ∨ (a.e = b.e ∧ b.n < a.n))

def flat (l : List Cel) : List Value := l.flatMap Cel.vs
theorem flat_length (l : List Cel) : (flat l).length = l.length * 3 := by
  induction l with
  | nil => rfl
  | cons c l ih => simp [flat, Cel.vs] at ih ⊢; omega
theorem flat_at : ∀ (l : List Cel) (k : Nat) (h : k < l.length), (flat l)[k * 3]? = some (.int .i64 l[k].e) ∧ (flat l)[k * 3 + 1]? = some (.int .i64 l[k].n) ∧ (flat l)[k * 3 + 2]? = some (.string l[k].d)
  | c :: l, 0, _ => by simp [flat, Cel.vs]
  | c :: l, k + 1, h => by
    have := flat_at l k (by simpa using h)
    have e : flat (c :: l) = .int .i64 c.e :: .int .i64 c.n :: .string c.d :: flat l := rfl
    rw [e, show (k + 1) * 3 = k * 3 + 1 + 1 + 1 from by omega]
    simpa using this
theorem flat_one (l : List Cel) : ∀ v ∈ flat l, v.oneCell' = true := by
  intro v hv
  simp only [flat, List.mem_flatMap, Cel.vs, List.mem_cons, List.mem_nil_iff, or_false] at hv
  obtain ⟨r, _, h | h | h⟩ := hv <;> subst h <;> rfl
theorem flat_set : ∀ (l : List Cel) (k : Nat) (c : Cel), k < l.length → (((flat l).set (k * 3) (.int .i64 c.e)).set (k * 3 + 1) (.int .i64 c.n)).set (k * 3 + 2) (.string c.d) = flat (l.set k c)
  | x :: l, 0, c, _ => by simp [flat, Cel.vs]
  | x :: l, k + 1, c, h => by
    have := flat_set l k c (by simpa using h)
    have e : flat (x :: l) = .int .i64 x.e :: .int .i64 x.n :: .string x.d :: flat l := rfl
    have e2 : flat ((x :: l).set (k + 1) c) = .int .i64 x.e :: .int .i64 x.n :: .string x.d :: flat (l.set k c) := rfl
    rw [e, e2, show (k + 1) * 3 = k * 3 + 1 + 1 + 1 from by omega, ← this]
    rfl
theorem flat_inj : ∀ {l m : List Cel}, flat l = flat m → l = m
  | [], [], _ => rfl
  | [], c :: m, h => by simp [flat, Cel.vs] at h
  | c :: l, [], h => by simp [flat, Cel.vs] at h
  | c :: l, x :: m, h => by
    have e : ∀ (c : Cel) l, flat (c :: l) = .int .i64 c.e :: .int .i64 c.n :: .string c.d :: flat l := fun _ _ => rfl
    rw [e, e] at h
    simp only [List.cons.injEq, Value.int.injEq, Value.string.injEq, true_and] at h
    obtain ⟨h1, h2, h3, h4⟩ := h
    rw [flat_inj h4]
    cases c; cases x; simp_all

/-! ### equality -/
theorem fields_cell : Try.prog.underlying 23 = some (.struct (Try.prog.fieldsOf 23)) ∧ Try.prog.stoodInHeld 23 = false := by
  constructor <;> kernel_rfl
theorem fields_cell_list : ((Try.prog.fieldsOf 23).toList.map fun f => (f.name, f.type, f.offset)) = [("Epoch", 3, 0), ("Number", 3, 1), ("Data", 9, 2)] := by kernel_rfl
theorem plain_int : Try.prog.plainKey 3 = true ∧ Try.prog.plainKey 9 = true := by constructor <;> kernel_rfl

theorem eq_fields (d : Nat) (xs ys : Array Value) (w : World) : ∀ (fs : List Field), (∀ f ∈ fs, f.name ≠ "_") → ∀ (b : Field → Bool),
    (∀ f ∈ fs, ∃ x y, (part f.type xs f.offset).run Try.prog w = .ok x w ∧ (part f.type ys f.offset).run Try.prog w = .ok y w ∧ (Op.equalIn d f.type x y).run Try.prog w = .ok (b f) w) →
    (Op.eqFields d xs ys fs).run Try.prog w = .ok (fs.all b) w
  | [], _, b, _ => by simp [Op.eqFields]
  | f :: fs, hn, b, h => by
    obtain ⟨x, y, h1, h2, h3⟩ := h f (by simp)
    have ih := eq_fields d xs ys w fs (fun g hg => hn g (by simp [hg])) b (fun g hg => h g (by simp [hg]))
    unfold Op.eqFields
    rw [if_pos (hn f (by simp))]
    simp only [Sem.run_bind, h1, h2, h3, Result.andThen_ok, Sem.run_ite]
    cases hb : b f
    · simp [hb]
    · simp [hb, ih]

theorem eq_struct (d : Nat) (T : TypeId) (xs ys : Array Value) (w : World) (ht : Try.prog.underlying T = some (.struct (Try.prog.fieldsOf T))) (hp : Try.prog.stoodInHeld T = false)
    (spec : List (String × TypeId × Nat)) (hs : ((Try.prog.fieldsOf T).toList.map fun f => (f.name, f.type, f.offset)) = spec) (b : Nat → Bool)
    (h : ∀ s ∈ spec, s.1 ≠ "_" ∧ ∃ x y, (part s.2.1 xs s.2.2).run Try.prog w = .ok x w ∧ (part s.2.1 ys s.2.2).run Try.prog w = .ok y w ∧ (Op.equalIn d s.2.1 x y).run Try.prog w = .ok (b s.2.2) w) :
    (Op.equalIn (d + 1) T (.agg xs) (.agg ys)).run Try.prog w = .ok (spec.all fun s => b s.2.2) w := by
  rw [run_equalIn_struct w d T xs ys ht hp, eq_fields d xs ys w _ ?_ (fun f => b f.offset) ?_]
  · rw [← hs, List.all_map]; rfl
  · intro f hf
    exact (h (f.name, f.type, f.offset) (hs ▸ List.mem_map_of_mem (f := fun f : Field => (f.name, f.type, f.offset)) hf)).1
  · intro f hf
    exact (h (f.name, f.type, f.offset) (hs ▸ List.mem_map_of_mem (f := fun f : Field => (f.name, f.type, f.offset)) hf)).2

theorem run_eq_all (d : Nat) (T : TypeId) (n : Nat) (xs ys : Array Value) (w : World) (f g : Nat → Value) (b : Nat → Bool) : ∀ (l : List Nat),
    (∀ i ∈ l, (part T xs (i * n)).run Try.prog w = .ok (f i) w ∧ (part T ys (i * n)).run Try.prog w = .ok (g i) w ∧ (Op.equalIn d T (f i) (g i)).run Try.prog w = .ok (b i) w) →
    ((forIn l ((none, ()) : Option Bool × Unit) fun i _r => do
        let x ← part T xs (i * n)
        let y ← part T ys (i * n)
        let q ← Op.equalIn d T x y
        if (!q) = true then pure (ForInStep.done (some false, ())) else pure (ForInStep.yield (none, ()))).run Try.prog w) = .ok (if l.all b then (none, ()) else (some false, ())) w
  | [], _ => by simp
  | i :: l, h => by
    obtain ⟨h1, h2, h3⟩ := h i (by simp)
    have ih := run_eq_all d T n xs ys w f g b l (fun j hj => h j (by simp [hj]))
    rw [List.forIn_cons]
    simp only [Sem.run_bind, h1, h2, h3, Result.andThen_ok, Sem.run_ite]
    cases hb : b i
    · simp [hb]
    · simp only [Bool.not_true, Bool.false_eq_true, if_false, Sem.run_pure, Result.andThen_ok, List.all_cons, hb, Bool.true_and]
      exact ih

theorem eq_array (d : Nat) (T E : TypeId) (len n : Nat) (xs ys : Array Value) (w : World) (ht : Try.prog.underlying T = some (.array len E)) (hn : (Try.prog.info? E).map (·.size) = some n) (f g : Nat → Value) (b : Nat → Bool)
    (h : ∀ i < len, (part E xs (i * n)).run Try.prog w = .ok (f i) w ∧ (part E ys (i * n)).run Try.prog w = .ok (g i) w ∧ (Op.equalIn d E (f i) (g i)).run Try.prog w = .ok (b i) w) :
    (Op.equalIn (d + 1) T (.agg xs) (.agg ys)).run Try.prog w = .ok ((List.range len).all b) w := by
  have hs : (sizeOf E).run Try.prog w = .ok n w := by
    cases hq : Try.prog.info? E with
    | none => simp [hq] at hn
    | some i => simp [hq] at hn; simp [sizeOf, typeInfo, hq, hn]
  have := run_eq_all d E n xs ys w f g b (List.range len) (fun i hi => h i (by simpa using hi))
  simp only [Op.equalIn, Sem.run_bind, run_underlying ht, Result.andThen_ok, hs]
  simp only [Std.Legacy.Range.forIn_eq_forIn_range', Std.Legacy.Range.size, Nat.sub_zero, Nat.add_one_sub_one, Nat.div_one]
  simp only [← List.range_eq_range', this, Result.andThen_ok]
  cases (List.range len).all b <;> simp
end Go.Proofs.Ytclhmpknkinjcaa
