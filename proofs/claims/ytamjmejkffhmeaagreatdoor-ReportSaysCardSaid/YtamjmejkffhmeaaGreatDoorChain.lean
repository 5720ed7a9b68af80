/-
  A region that draws its order: a chain of operations, and one more that may come at any time. (No program in sight.)
-/
import Derived.Deep.RegionHeld
import Derived.WalkKit
namespace Go.Proofs.YtamjmejkffhmeaaGreatDoor
open Go.RowKit

section
variable {P : Program} {ops : Array Oper} {Q : Exit → Act → World → Prop} {md : Region.Mode} {S : World → Prop}

theorem chain1 (n : Nat) (c : Nat → Nat) (m : Nat) (L : Nat → Bool → Array Bool) (R R' : Nat → Act → World → Prop)
    (hB : ((List.range (n + 1)).all fun i => !(Region.ready md ops (L i false)).isEmpty && ((Region.ready md ops (L i false)).all fun x => (x == c i && decide (i < n)) || x == m) && (decide (i = n) || Region.ready md ops (L i true) == [c i])) = true)
    (hL : ∀ i b, i < n → (L i b).setIfInBounds (c i) true = L (i + 1) b) (hLm : ∀ i, i ≤ n → (L i false).setIfInBounds m true = L i true)
    (hS : ∀ i a w, R i a w → S w) (hS' : ∀ i a w, R' i a w → S w)
    (hm : ∀ i a w (K : Act → World → Prop), i ≤ n → R i a w → (∀ a' w', R' i a' w' → K a' w') → wpOp P ops Q m K a w)
    (hc : ∀ i a w (K : Act → World → Prop), i < n → R i a w → (∀ a' w', R (i + 1) a' w' → K a' w') → wpOp P ops Q (c i) K a w)
    (hc' : ∀ i a w (K : Act → World → Prop), i < n → R' i a w → (∀ a' w', R' (i + 1) a' w' → K a' w') → wpOp P ops Q (c i) K a w)
    (fuel : Nat) (hfin : ∀ a w, R' n a w → wpAnyH P md ops Q S fuel (L n true) a w) :
    ∀ a w, R 0 a w → wpAnyH P md ops Q S (fuel + n + 1) (L 0 false) a w := by
  have hA : ∀ i, i ≤ n → _ := fun i hi => List.all_eq_true.1 hB i (List.mem_range.2 (by omega))
  simp only [Bool.and_eq_true, Bool.or_eq_true, decide_eq_true_eq, beq_iff_eq, List.all_eq_true] at hA
  have T1 : ∀ k i, i + k = n → ∀ a w, R' i a w → wpAnyH P md ops Q S (fuel + k) (L i true) a w := by
    intro k
    induction k with
    | zero =>
      intro i hi a w h; obtain rfl : i = n := by omega
      exact hfin a w h
    | succ k ih =>
      intro i hi a w h
      have hr : Region.ready md ops (L i true) = [c i] := by
        rcases (hA i (by omega)).2 with h | h
        · omega
        · exact h
      refine ⟨fun h0 => (by rw [hr] at h0; cases h0), fun x hx => ?_⟩
      rw [hr] at hx
      obtain rfl := List.mem_singleton.1 hx
      refine hc' i a w _ (by omega) h (fun a' w' h' => ⟨hS' _ _ _ h', ?_⟩)
      rw [hL i true (by omega)]
      exact ih (i + 1) (by omega) a' w' h'
  have T0 : ∀ k i, i + k = n → ∀ a w, R i a w → wpAnyH P md ops Q S (fuel + k + 1) (L i false) a w := by
    intro k
    induction k with
    | zero =>
      intro i hi a w h
      obtain ⟨⟨h1, h2⟩, -⟩ := hA i (by omega)
      refine ⟨fun h0 => (by rw [h0] at h1; cases h1), fun x hx => ?_⟩
      rcases h2 x hx with ⟨_, h3⟩ | rfl
      · omega
      · refine hm i a w _ (by omega) h (fun a' w' h' => ⟨hS' _ _ _ h', ?_⟩)
        rw [hLm i (by omega)]
        exact T1 0 i hi a' w' h'
    | succ k ih =>
      intro i hi a w h
      obtain ⟨⟨h1, h2⟩, -⟩ := hA i (by omega)
      refine ⟨fun h0 => (by rw [h0] at h1; cases h1), fun x hx => ?_⟩
      rcases h2 x hx with ⟨rfl, h3⟩ | rfl
      · refine hc i a w _ h3 h (fun a' w' h' => ⟨hS _ _ _ h', ?_⟩)
        rw [hL i false h3]
        exact ih (i + 1) (by omega) a' w' h'
      · refine hm i a w _ (by omega) h (fun a' w' h' => ⟨hS' _ _ _ h', ?_⟩)
        rw [hLm i (by omega)]
        exact T1 (k + 1) i hi a' w' h'
  intro a w h
  exact T0 n 0 (by omega) a w h
end
end Go.Proofs.YtamjmejkffhmeaaGreatDoor
