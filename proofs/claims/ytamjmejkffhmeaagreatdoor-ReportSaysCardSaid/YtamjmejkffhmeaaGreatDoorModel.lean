/-
  The plain model: who is known, who holds, who may. No program in sight.
-/
import Derived.WalkKit
namespace Go.Proofs.YtamjmejkffhmeaaGreatDoor
open Go.RowKit

structure St where
  gen : Int
  regs : List (Int × Int)
  typ : Int
  holder : Int
  stays : Bool

def keyOf : List (Int × Int) → Int → Int
  | [], _ => 0
  | r :: l, who => if r.1 = who then r.2 else keyOf l who

def typeMay (n : Int) : Bool := decide (n = 1 ∨ n = 3 ∨ (5 ≤ n ∧ n ≤ 8))
def allT (n : Int) : Bool := decide (n = 7 ∨ n = 8)
def knownT (n : Int) : Bool := decide (5 ≤ n)
def writesT (n : Int) : Bool := decide (n = 1 ∨ n = 5 ∨ n = 7)

def holds (s : St) (who : Int) : Bool := if s.typ = 7 ∨ s.typ = 8 then decide (0 < keyOf s.regs who) else decide (0 < s.typ ∧ s.holder = who)

/-- what the program answers -/
def pmay (s : St) (who : Int) (write : Bool) : Bool :=
  if s.typ = 0 then true
  else if holds s who = true then true
  else if 5 ≤ s.typ ∧ 0 < keyOf s.regs who then true
  else !write && writesT s.typ

/-- what the document answers -/
def rmay (s : St) (who : Int) (write : Bool) : Bool :=
  if s.typ = 0 then true
  else if s.typ = 1 then holds s who || !write
  else if s.typ = 3 then holds s who
  else if s.typ = 5 ∨ s.typ = 7 then decide (0 < keyOf s.regs who) || !write
  else decide (0 < keyOf s.regs who)

/-- faults of the list of who is known: 0 none -/
def regsFault : Int → List (Int × Int) → Int
  | _, [] => 0
  | prev, r :: l => if r.1 < 1 ∨ 4 < r.1 ∨ r.2 < 1 ∨ 999 < r.2 then 1 else if r.1 ≤ prev then 2 else regsFault r.1 l

def stateFault (s : St) : Int :=
  if s.gen < 0 ∨ 1000000000 < s.gen then 1
  else if regsFault 0 s.regs ≠ 0 then regsFault 0 s.regs
  else if s.typ = 0 then (if s.holder ≠ 0 then 2 else 0)
  else if typeMay s.typ = false then 2
  else if 7 ≤ s.typ then (if s.holder ≠ 0 ∨ s.regs.length = 0 then 2 else 0)
  else if keyOf s.regs s.holder = 0 then 2 else 0

/-- a state that may be -/
structure Good (s : St) : Prop where
  gen : 0 ≤ s.gen ∧ s.gen ≤ 1000000000
  bounds : ∀ r ∈ s.regs, 1 ≤ r.1 ∧ r.1 ≤ 4 ∧ 1 ≤ r.2 ∧ r.2 ≤ 999
  sorted : s.regs.Pairwise (fun a b => a.1 < b.1)
  zero : s.typ = 0 → s.holder = 0
  typ : s.typ ≠ 0 → typeMay s.typ = true
  all : 7 ≤ s.typ → s.holder = 0 ∧ s.regs ≠ []
  one : s.typ ≠ 0 → s.typ < 7 → keyOf s.regs s.holder ≠ 0

theorem regsFault_zero : ∀ (l : List (Int × Int)) (p : Int), regsFault p l = 0 ↔ (∀ r ∈ l, 1 ≤ r.1 ∧ r.1 ≤ 4 ∧ 1 ≤ r.2 ∧ r.2 ≤ 999 ∧ p < r.1) ∧ l.Pairwise (fun a b => a.1 < b.1)
  | [], p => by simp [regsFault]
  | r :: l, p => by
    have ih := regsFault_zero l r.1
    unfold regsFault
    by_cases h1 : r.1 < 1 ∨ 4 < r.1 ∨ r.2 < 1 ∨ 999 < r.2
    · rw [if_pos h1]
      constructor
      · intro h; cases h
      · intro h; have := h.1 r (by simp); omega
    · rw [if_neg h1]
      by_cases h2 : r.1 ≤ p
      · rw [if_pos h2]
        constructor
        · intro h; cases h
        · intro h; have := h.1 r (by simp); omega
      · rw [if_neg h2, ih, List.pairwise_cons]
        constructor
        · rintro ⟨ha, hb⟩
          refine ⟨?_, fun b hb' => (ha b hb').2.2.2.2, hb⟩
          intro x hx
          rcases List.mem_cons.1 hx with rfl | hx
          · omega
          · have := ha x hx; omega
        · rintro ⟨ha, hb, hc⟩
          refine ⟨fun x hx => ?_, hc⟩
          have := ha x (by simp [hx])
          have := hb x hx
          omega

theorem good_iff (s : St) : stateFault s = 0 ↔ Good s := by
  unfold stateFault
  constructor
  · intro h
    by_cases h1 : s.gen < 0 ∨ 1000000000 < s.gen
    · rw [if_pos h1] at h; cases h
    rw [if_neg h1] at h
    by_cases h2 : regsFault 0 s.regs ≠ 0
    · rw [if_pos h2] at h; exact absurd h h2
    rw [if_neg h2] at h
    have h2' := (regsFault_zero s.regs 0).1 (by omega)
    have hb : ∀ r ∈ s.regs, 1 ≤ r.1 ∧ r.1 ≤ 4 ∧ 1 ≤ r.2 ∧ r.2 ≤ 999 := fun r hr => by have := h2'.1 r hr; omega
    by_cases h3 : s.typ = 0
    · rw [if_pos h3] at h
      have h4 : s.holder = 0 := by
        by_cases h4 : s.holder ≠ 0
        · rw [if_pos h4] at h; cases h
        · omega
      exact ⟨by omega, hb, h2'.2, fun _ => h4, fun h => absurd h3 h, fun h => by omega, fun h => absurd h3 h⟩
    rw [if_neg h3] at h
    by_cases h4 : typeMay s.typ = false
    · rw [if_pos h4] at h; cases h
    rw [if_neg h4] at h
    by_cases h5 : 7 ≤ s.typ
    · rw [if_pos h5] at h
      by_cases h6 : s.holder ≠ 0 ∨ s.regs.length = 0
      · rw [if_pos h6] at h; cases h
      · exact ⟨by omega, hb, h2'.2, fun h => absurd h h3, fun _ => by simpa using h4, fun _ => ⟨by omega, fun e => h6 (.inr (by rw [e]; rfl))⟩, fun _ h => by omega⟩
    · rw [if_neg h5] at h
      by_cases h6 : keyOf s.regs s.holder = 0
      · rw [if_pos h6] at h; cases h
      · exact ⟨by omega, hb, h2'.2, fun h => absurd h h3, fun _ => by simpa using h4, fun h => absurd h h5, fun _ _ => h6⟩
  · intro g
    rw [if_neg (by have := g.gen; omega), if_neg (by
      have := (regsFault_zero s.regs 0).2 ⟨fun r hr => by have := g.bounds r hr; omega, g.sorted⟩
      omega)]
    by_cases h3 : s.typ = 0
    · rw [if_pos h3, if_neg (by have := g.zero h3; omega)]
    rw [if_neg h3, if_neg (by rw [g.typ h3]; simp)]
    by_cases h5 : 7 ≤ s.typ
    · rw [if_pos h5, if_neg]
      have := g.all h5
      intro h
      rcases h with h | h
      · exact h this.1
      · exact this.2 (List.length_eq_zero_iff.1 h)
    · rw [if_neg h5, if_neg (g.one h3 (by omega))]

theorem pmay_eq_rmay (s : St) (g : Good s) (who : Int) (w : Bool) : pmay s who w = rmay s who w := by
  unfold pmay rmay
  by_cases h0 : s.typ = 0
  · simp [h0]
  have ht : s.typ = 1 ∨ s.typ = 3 ∨ s.typ = 5 ∨ s.typ = 6 ∨ s.typ = 7 ∨ s.typ = 8 := by have := g.typ h0; simp [typeMay] at this; omega
  have hk : s.typ < 7 → s.holder = who → 0 < keyOf s.regs who := by
    intro h e
    have hn := g.one h0 h
    rw [e] at hn
    have : ∀ l : List (Int × Int), (∀ r ∈ l, 1 ≤ r.1 ∧ r.1 ≤ 4 ∧ 1 ≤ r.2 ∧ r.2 ≤ 999) → keyOf l who ≠ 0 → 0 < keyOf l who := by
      intro l
      induction l with
      | nil => intro _ h; exact absurd rfl h
      | cons r l ih =>
        intro hb hn
        unfold keyOf at hn ⊢
        by_cases hr : r.1 = who
        · rw [if_pos hr] at hn ⊢; have := hb r (by simp); omega
        · rw [if_neg hr] at hn ⊢; exact ih (fun x hx => hb x (by simp [hx])) hn
    exact this _ g.bounds hn
  rcases ht with h | h | h | h | h | h <;> simp only [h] at hk ⊢ <;> simp [holds, h, writesT]
  all_goals
    by_cases hx : 0 < keyOf s.regs who
    · simp [hx]
    · by_cases hh : s.holder = who
      · exact absurd (hk (by omega) hh) hx
      · simp [hh, hx]
end Go.Proofs.YtamjmejkffhmeaaGreatDoor
