/-
  Plain laws on a state's fault. No program in sight.
-/
import Derived.Test.YtamjmejkffhmeaaGreatDoorModel
namespace Go.Proofs.YtamjmejkffhmeaaGreatDoor
open Go.RowKit

theorem regsFault_nonneg : ∀ (l : List (Int × Int)) (p : Int), 0 ≤ regsFault p l
  | [], _ => by simp [regsFault]
  | r :: l, p => by
    have := regsFault_nonneg l r.1
    unfold regsFault
    repeat' split
    all_goals omega
theorem stateFault_nonneg (s : St) : 0 ≤ stateFault s := by
  have := regsFault_nonneg s.regs 0
  unfold stateFault
  repeat' split
  all_goals omega

/-- the key ahead of place k -/
def prevOf (l : List (Int × Int)) : Nat → Int
  | 0 => 0
  | k + 1 => (l[k]?.getD (0, 0)).1

theorem prevOf_succ (l : List (Int × Int)) (k : Nat) (h : k < l.length) : prevOf l (k + 1) = l[k].1 := by simp [prevOf, h]

theorem rf_bound (l : List (Int × Int)) (k : Nat) (h : k < l.length) (p : Int) (hb : l[k].1 < 1 ∨ 4 < l[k].1 ∨ l[k].2 < 1 ∨ 999 < l[k].2) : regsFault p (l.drop k) = 1 := by
  rw [List.drop_eq_getElem_cons h]; unfold regsFault; rw [if_pos hb]
theorem rf_shape (l : List (Int × Int)) (k : Nat) (h : k < l.length) (p : Int) (hb : ¬ (l[k].1 < 1 ∨ 4 < l[k].1 ∨ l[k].2 < 1 ∨ 999 < l[k].2)) (hp : l[k].1 ≤ p) : regsFault p (l.drop k) = 2 := by
  rw [List.drop_eq_getElem_cons h]; unfold regsFault; rw [if_neg hb, if_pos hp]
theorem rf_on (l : List (Int × Int)) (k : Nat) (h : k < l.length) (p : Int) (hb : ¬ (l[k].1 < 1 ∨ 4 < l[k].1 ∨ l[k].2 < 1 ∨ 999 < l[k].2)) (hp : ¬ l[k].1 ≤ p) : regsFault p (l.drop k) = regsFault l[k].1 (l.drop (k+1)) := by
  rw [List.drop_eq_getElem_cons h, regsFault, if_neg hb, if_neg hp]

theorem sf_gen {s : St} (h : s.gen < 0 ∨ 1000000000 < s.gen) : stateFault s = 1 := by unfold stateFault; rw [if_pos h]
theorem sf_regs {s : St} (h : ¬ (s.gen < 0 ∨ 1000000000 < s.gen)) (h2 : regsFault 0 s.regs ≠ 0) : stateFault s = regsFault 0 s.regs := by unfold stateFault; rw [if_neg h, if_pos h2]
/-- what is asked behind the list -/
def sfRest (s : St) : Int := if s.typ = 0 then (if s.holder ≠ 0 then 2 else 0)
  else if typeMay s.typ = false then 2
  else if 7 ≤ s.typ then (if s.holder ≠ 0 ∨ s.regs.length = 0 then 2 else 0)
  else if keyOf s.regs s.holder = 0 then 2 else 0
theorem sf_rest {s : St} (h : ¬ (s.gen < 0 ∨ 1000000000 < s.gen)) (h2 : regsFault 0 s.regs = 0) : stateFault s = sfRest s := by unfold stateFault; rw [if_neg h, if_neg (by simp [h2])]; rfl
end Go.Proofs.YtamjmejkffhmeaaGreatDoor
