/-
  Small contracts that several laws use: May of nothing, Check by its outcome.
-/
import Derived.Test.YtclhmpknkinjcaaFault
import Derived.Test.YtclhmpknkinjcaaCheck
namespace Go.Proofs.Ytclhmpknkinjcaa
open Go.RowKit Go.Sort

theorem may_zero (who : Int) (wr : Bool) (w : World) :
    Calls Try.prog 64 #[.agg #[.int .i64 0, .slice none 0 0, .int .i64 0, .int .i64 0, .bool false], .int .i64 who, .bool wr] w fun e w' => e = .returned (.bool true) ∧ Below w.heap.size w w' :=
  (may_any ⟨0, [], 0, 0, false⟩ none 0 who wr w ⟨by simp, Pairs.nil _ _ _⟩).mono fun e w' ⟨h1, h2⟩ => ⟨by rw [h1]; rfl, h2⟩

theorem pairs_new1 (w : World) (u v : Int) (T : TypeId) : Pairs (w.alloc (.cells #[.int .i64 u, .int .i64 v] T)).heap.size (w.alloc (.cells #[.int .i64 u, .int .i64 v] T)) (some ⟨w.heap.size, 0, none⟩) [(u, v)] := by
  intro i hi
  have : i = 0 := by simp at hi; omega
  subst this
  exact ⟨w.heap.size, 0, rfl, by simp, by simp, by simp⟩

theorem check_good (s : St) (a : Option Addr) (cap : Nat) (w : World) (hr : StR w s a) (h : stateFault s = 0) :
    Calls Try.prog 73 #[stV s a cap] w fun e w' => e = .returned .nilIface ∧ Below w.heap.size w w' :=
  (check_any s a cap w hr).mono fun e w' ⟨h1, h2⟩ => ⟨by rw [h1, h]; rfl, h2⟩
theorem check_bad (s : St) (a : Option Addr) (cap : Nat) (w : World) (hr : StR w s a) (h : stateFault s ≠ 0) :
    Calls Try.prog 73 #[stV s a cap] w fun e w' => e = .returned (.iface 138 (.int .i64 (stateFault s))) ∧ Below w.heap.size w w' :=
  (check_any s a cap w hr).mono fun e w' ⟨h1, h2⟩ => ⟨by rw [h1, errV_some h], h2⟩

theorem pmay_read (s : St) (who : Int) (h : pmay s who true = true) : pmay s who false = true := by
  unfold pmay at *
  by_cases h0 : s.typ = 0
  · simp [h0]
  by_cases h1 : holds s who = true
  · simp [h1]
  by_cases h2 : 5 ≤ s.typ ∧ 0 < keyOf s.regs who
  · simp [h2]
  simp [h0, h1, h2] at h
theorem pmay_holds (s : St) (who : Int) (b : Bool) (h : holds s who = true) : pmay s who b = true := by
  unfold pmay; simp [h]
theorem pmay_zero_typ (s : St) (who : Int) (b : Bool) (h : s.typ = 0) : pmay s who b = true := by
  unfold pmay; simp [h]
/-- who is known may no less than who isn't -/
theorem pmay_known (s : St) (g : Good s) (who other : Int) (b : Bool) (h1 : 0 < keyOf s.regs who) (h2 : keyOf s.regs other = 0) (h : pmay s other b = true) : pmay s who b = true := by
  unfold pmay at *
  by_cases h0 : s.typ = 0
  · simp [h0]
  have ho : holds s other = false := by
    unfold holds
    split
    · simp; omega
    · simp
      intro hp e
      have ht : s.typ < 7 := by have := g.typ h0; simp [typeMay] at this; omega
      have := g.one h0 ht
      rw [e] at this
      exact this h2
  by_cases h5 : 5 ≤ s.typ
  · simp [h5, h1]
  simp [h0, ho, h5] at h ⊢
  exact .inr h

end Go.Proofs.Ytclhmpknkinjcaa
