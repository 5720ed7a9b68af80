/-
  Who may, counted: the plain law behind TopAlone. No program in sight.
-/
import Derived.Test.YtdnkkdpcpbmbmaaModel
namespace Go.Proofs.Ytdnkkdpcpbmbmaa
open Go.RowKit

theorem keyOf_zero : ∀ (l : List (Int × Int)) (who : Int), (∀ r ∈ l, r.1 ≠ who) → keyOf l who = 0
  | [], _, _ => rfl
  | r :: l, who, h => by
    unfold keyOf
    rw [if_neg (h r (by simp)), keyOf_zero l who (fun x hx => h x (by simp [hx]))]

theorem keyOf_mem : ∀ (l : List (Int × Int)) (who : Int), keyOf l who ≠ 0 → ∃ r ∈ l, r.1 = who ∧ r.2 = keyOf l who
  | [], _, h => absurd rfl h
  | r :: l, who, h => by
    unfold keyOf at h ⊢
    by_cases e : r.1 = who
    · rw [if_pos e] at h ⊢; exact ⟨r, by simp, e, rfl⟩
    · rw [if_neg e] at h ⊢
      obtain ⟨x, hx, h1, h2⟩ := keyOf_mem l who h
      exact ⟨x, by simp [hx], h1, h2⟩

theorem Good.pos {s : St} (g : Good s) (who : Int) (h : keyOf s.regs who ≠ 0) : 0 < keyOf s.regs who ∧ 1 ≤ who ∧ who ≤ 4 := by
  obtain ⟨r, hr, h1, h2⟩ := keyOf_mem _ _ h
  have := g.bounds r hr
  omega

/-- is known, as a number -/
def kn (l : List (Int × Int)) (who : Int) : Int := if 0 < keyOf l who then 1 else 0

theorem count_known : ∀ (l : List (Int × Int)), (∀ r ∈ l, 1 ≤ r.1 ∧ r.1 ≤ 4 ∧ 1 ≤ r.2 ∧ r.2 ≤ 999) → l.Pairwise (fun a b => a.1 < b.1) → kn l 1 + kn l 2 + kn l 3 + kn l 4 = l.length
  | [], _, _ => by simp [kn, keyOf]
  | r :: l, hb, hp => by
    rw [List.pairwise_cons] at hp
    have ih := count_known l (fun x hx => hb x (by simp [hx])) hp.2
    have h0 : keyOf l r.1 = 0 := keyOf_zero l r.1 (fun x hx => by have := hp.1 x hx; omega)
    have hr := hb r (by simp)
    have hk : ∀ w, kn (r :: l) w = if r.1 = w then 1 else kn l w := by
      intro w
      unfold kn
      rw [keyOf]
      by_cases e : r.1 = w
      · simp only [e, if_true]; rw [if_pos (by omega)]
      · simp only [e, if_false]
    have hz : kn l r.1 = 0 := by unfold kn; rw [h0]; rfl
    simp only [hk, List.length_cons]
    rcases (by omega : r.1 = 1 ∨ r.1 = 2 ∨ r.1 = 3 ∨ r.1 = 4) with e | e | e | e <;> rw [e] at hz ⊢ <;> simp <;> omega

/-- how many of 1 .. n may -/
def countMay (s : St) (b : Bool) : Nat → Int
  | 0 => 0
  | n + 1 => countMay s b n + if pmay s (n + 1) b = true then 1 else 0

theorem countMay_bound (s : St) (b : Bool) (n : Nat) : 0 ≤ countMay s b n ∧ countMay s b n ≤ n := by
  induction n with
  | zero => simp [countMay]
  | succ n ih => simp only [countMay]; split <;> omega

/-- what a state's last test says -/
structure AloneOk (s : St) (n m : Int) : Prop where
  typ : s.typ = 0 ∨ s.typ = 1 ∨ s.typ = 3 ∨ s.typ = 5 ∨ s.typ = 6 ∨ s.typ = 7 ∨ s.typ = 8
  three : s.typ = 3 → n = 1 ∧ m = 1
  one : s.typ = 1 → n = 1 ∧ m = 4
  five : s.typ = 5 ∨ s.typ = 7 → n = s.regs.length ∧ m = 4
  six : s.typ = 6 ∨ s.typ = 8 → n = s.regs.length ∧ m = n
  none : s.typ = 0 → n = 4 ∧ m = n

theorem count4 (s : St) (b : Bool) (f : Int → Int) (h : ∀ w, (if pmay s w b = true then (1 : Int) else 0) = f w) : countMay s b 4 = f 1 + f 2 + f 3 + f 4 := by
  have h1 := h 1; have h2 := h 2; have h3 := h 3; have h4 := h 4
  simp only [countMay]
  have e1 : ((0 : Nat) : Int) + 1 = 1 := rfl
  have e2 : ((1 : Nat) : Int) + 1 = 2 := rfl
  have e3 : ((2 : Nat) : Int) + 1 = 3 := rfl
  have e4 : ((3 : Nat) : Int) + 1 = 4 := rfl
  simp only [e1, e2, e3, e4, h1, h2, h3, h4]
  omega

theorem may_write_known (s : St) (g : Good s) (who : Int) (ht : s.typ ≠ 0) (h : pmay s who true = true) : keyOf s.regs who ≠ 0 := by
  unfold pmay at h
  rw [if_neg ht] at h
  by_cases hh : holds s who = true
  · unfold holds at hh
    split at hh
    · simp at hh; omega
    · simp at hh
      have h7 : s.typ < 7 := by have := g.typ ht; simp [typeMay] at this; omega
      have := g.one ht h7
      rw [hh.2] at this
      exact this
  · rw [if_neg hh] at h
    by_cases h5 : 5 ≤ s.typ ∧ 0 < keyOf s.regs who
    · omega
    · rw [if_neg h5] at h; simp at h

theorem alone_law (s : St) (g : Good s) : AloneOk s (countMay s true 4) (countMay s false 4) := by
  have hck := count_known s.regs g.bounds g.sorted
  have hholder : s.typ ≠ 0 → s.typ < 7 → (1 ≤ s.holder ∧ s.holder ≤ 4) ∧ 0 < keyOf s.regs s.holder := fun h1 h2 => by
    have := g.pos s.holder (g.one h1 h2); omega
  have pk : ∀ b, 5 ≤ s.typ → (b = true ∨ writesT s.typ = false) → ∀ w, (if pmay s w b = true then (1 : Int) else 0) = kn s.regs w := by
    intro b h5 hb w
    have : pmay s w b = decide (0 < keyOf s.regs w) := by
      unfold pmay
      rw [if_neg (by omega)]
      by_cases hk : 0 < keyOf s.regs w
      · simp [hk, h5]
      · have hh : holds s w = false := by
          unfold holds
          split
          · simp; omega
          · simp
            intro h1 h2
            have := (hholder (by omega) (by have := g.typ (by omega); simp [typeMay] at this; omega)).2
            rw [h2] at this; omega
        have hor : (!b && writesT s.typ) = false := by rcases hb with h | h <;> simp [h]
        simp [hk, hh, hor]
    rw [this]
    unfold kn
    by_cases hk : 0 < keyOf s.regs w <;> simp [hk]
  have pa : ∀ b, (s.typ = 0 ∨ (b = false ∧ writesT s.typ = true)) → ∀ w, (if pmay s w b = true then (1 : Int) else 0) = 1 := by
    intro b h w
    have : pmay s w b = true := by
      unfold pmay
      rcases h with h | ⟨h1, h2⟩
      · simp [h]
      · subst h1
        repeat' split
        all_goals first | rfl | simp [h2]
    simp [this]
  have ph : ∀ b, (s.typ = 3 ∨ (s.typ = 1 ∧ b = true)) → ∀ w, (if pmay s w b = true then (1 : Int) else 0) = if s.holder = w then 1 else 0 := by
    intro b h w
    have : pmay s w b = decide (s.holder = w) := by
      unfold pmay
      rcases h with h | ⟨h1, h2⟩
      · by_cases e : s.holder = w <;> simp [h, holds, e, writesT]
      · subst h2
        by_cases e : s.holder = w <;> simp [h1, holds, e]
    rw [this]
    by_cases e : s.holder = w <;> simp [e]
  have ht : s.typ = 0 ∨ s.typ = 1 ∨ s.typ = 3 ∨ s.typ = 5 ∨ s.typ = 6 ∨ s.typ = 7 ∨ s.typ = 8 := by
    by_cases h0 : s.typ = 0
    · exact .inl h0
    · have := g.typ h0; simp [typeMay] at this; omega
  refine ⟨ht, fun h => ?_, fun h => ?_, fun h => ?_, fun h => ?_, fun h => ?_⟩
  · have hb := (hholder (by omega) (by omega)).1
    rw [count4 s true _ (ph true (.inl h)), count4 s false _ (ph false (.inl h))]
    rcases (by omega : s.holder = 1 ∨ s.holder = 2 ∨ s.holder = 3 ∨ s.holder = 4) with e | e | e | e <;> simp [e]
  · have hb := (hholder (by omega) (by omega)).1
    rw [count4 s true _ (ph true (.inr ⟨h, rfl⟩)), count4 s false _ (pa false (.inr ⟨rfl, by simp [writesT, h]⟩))]
    rcases (by omega : s.holder = 1 ∨ s.holder = 2 ∨ s.holder = 3 ∨ s.holder = 4) with e | e | e | e <;> simp [e]
  · rw [count4 s true _ (pk true (by omega) (.inl rfl)), count4 s false _ (pa false (.inr ⟨rfl, by rcases h with h | h <;> simp [writesT, h]⟩)), hck]
    exact ⟨rfl, rfl⟩
  · have hw : writesT s.typ = false := by rcases h with h | h <;> simp [writesT, h]
    rw [count4 s true _ (pk true (by omega) (.inl rfl)), count4 s false _ (pk false (by omega) (.inr hw)), hck]
    exact ⟨rfl, rfl⟩
  · rw [count4 s true _ (pa true (.inl h)), count4 s false _ (pa false (.inl h))]
    exact ⟨rfl, rfl⟩
end Go.Proofs.Ytdnkkdpcpbmbmaa
