/-
  Who is known, behind With: plain laws on lists.
-/
import Derived.Test.YtclhmpknkinjcaaWith
import Derived.Test.YtclhmpknkinjcaaOthers
namespace Go.Proofs.Ytclhmpknkinjcaa
open Go.RowKit

theorem keyOf_absent (who : Int) : ∀ l : List (Int × Int), (∀ r ∈ l, r.1 ≠ who) → keyOf l who = 0
  | [], _ => rfl
  | r :: l, h => by
    unfold keyOf
    rw [if_neg (h r (by simp))]
    exact keyOf_absent who l (fun x hx => h x (by simp [hx]))
theorem without_mem (who : Int) (l : List (Int × Int)) : ∀ r ∈ without who l, r ∈ l ∧ r.1 ≠ who := by
  intro r hr
  simpa [without] using hr
theorem keyOf_without_self (who : Int) (l : List (Int × Int)) : keyOf (without who l) who = 0 := keyOf_absent who _ (fun r hr => (without_mem who l r hr).2)
theorem keyOf_without (who o : Int) (h : o ≠ who) : ∀ l : List (Int × Int), keyOf (without who l) o = keyOf l o
  | [] => rfl
  | r :: l => by
    have ih := keyOf_without who o h l
    unfold without at ih ⊢
    by_cases e : r.1 = who
    · rw [List.filter_cons_of_neg (by simp [e]), ih]
      conv => rhs; unfold keyOf
      rw [if_neg (by omega)]
    · rw [List.filter_cons_of_pos (by simp [e])]
      unfold keyOf
      rw [ih]
theorem ins_eq (who key : Int) (r : Int × Int) (l : List (Int × Int)) : ins who key (r :: l) = if who ≤ r.1 then (who, key) :: r :: l else r :: ins who key l := by
  by_cases h : who ≤ r.1
  · rw [if_pos h]; unfold ins; rw [if_neg (by omega)]
  · rw [if_neg h]; conv => lhs; unfold ins
    rw [if_pos (by omega)]
theorem keyOf_ins_self (who key : Int) : ∀ l : List (Int × Int), (∀ r ∈ l, r.1 ≠ who) → keyOf (ins who key l) who = key
  | [], _ => by simp [ins, keyOf]
  | r :: l, h => by
    rw [ins_eq]
    split
    · simp [keyOf]
    · unfold keyOf
      rw [if_neg (h r (by simp))]
      exact keyOf_ins_self who key l (fun x hx => h x (by simp [hx]))
theorem keyOf_ins (who key o : Int) (h : o ≠ who) : ∀ l : List (Int × Int), keyOf (ins who key l) o = keyOf l o
  | [] => by simp [ins, keyOf]; omega
  | r :: l => by
    rw [ins_eq]
    split
    · conv => lhs; unfold keyOf
      rw [if_neg (by simp; omega)]
    · unfold keyOf
      rw [keyOf_ins who key o h l]
theorem keyOf_with_self (l : List (Int × Int)) (who key : Int) (hk : 0 ≤ key) : keyOf (withL l who key) who = key := by
  unfold withL
  split
  · exact keyOf_ins_self who key _ (fun r hr => (without_mem who l r hr).2)
  · rw [keyOf_without_self]; omega
theorem keyOf_with (l : List (Int × Int)) (who key o : Int) (h : o ≠ who) : keyOf (withL l who key) o = keyOf l o := by
  unfold withL
  split
  · rw [keyOf_ins who key o h, keyOf_without who o h]
  · exact keyOf_without who o h l

theorem without_ins (who key : Int) : ∀ l : List (Int × Int), without who (ins who key l) = without who l
  | [] => by simp [ins, without]
  | r :: l => by
    rw [ins_eq]
    split
    · simp [without]
    · have ih := without_ins who key l
      unfold without at ih ⊢
      rw [List.filter_cons, List.filter_cons, ih]
theorem without_twice (who : Int) (l : List (Int × Int)) : without who (without who l) = without who l := without_all who _ (fun r hr => (without_mem who l r hr).2)
theorem without_with (l : List (Int × Int)) (who key : Int) : without who (withL l who key) = without who l := by
  unfold withL
  split
  · rw [without_ins, without_twice]
  · exact without_twice who l
theorem others_with (l : List (Int × Int)) (who key : Int) : othersL who (withL l who key) = othersL who l := by
  unfold othersL; rw [without_with]

theorem ins_back (who : Int) : ∀ l : List (Int × Int), l.Pairwise (fun a b => a.1 < b.1) → (∀ r ∈ l, 1 ≤ r.2) → keyOf l who ≠ 0 → ins who (keyOf l who) (without who l) = l
  | [], _, _, h => absurd rfl h
  | r :: l, hp, hb, hk => by
    rw [List.pairwise_cons] at hp
    by_cases e : r.1 = who
    · have hw : without who (r :: l) = l := by
        unfold without
        rw [List.filter_cons_of_neg (by simp [e])]
        exact without_all who l (fun x hx => by have := hp.1 x hx; omega)
      have hkk : keyOf (r :: l) who = r.2 := by unfold keyOf; rw [if_pos e]
      rw [hw, hkk]
      cases l with
      | nil => show [(who, r.2)] = [r]; rw [← e]
      | cons x l =>
        rw [ins_eq, if_pos (by have := hp.1 x (by simp); omega), ← e]
    · have hkk : keyOf (r :: l) who = keyOf l who := by conv => lhs; unfold keyOf; rw [if_neg e]
      rw [hkk] at hk ⊢
      have ih := ins_back who l hp.2 (fun x hx => hb x (by simp [hx])) hk
      have hw : without who (r :: l) = r :: without who l := by unfold without; rw [List.filter_cons_of_pos (by simp [e])]
      have hlt : r.1 < who := by
        have : ∃ x ∈ l, x.1 = who := Classical.byContradiction fun hn => hk (keyOf_absent who l (fun x hx hxe => hn ⟨x, hx, hxe⟩))
        obtain ⟨x, hx, hxe⟩ := this
        have := hp.1 x hx
        omega
      rw [hw]
      rw [ins_eq, if_neg (by omega), ih]
theorem keyOf_nonneg (who : Int) : ∀ l : List (Int × Int), (∀ r ∈ l, 1 ≤ r.2) → 0 ≤ keyOf l who
  | [], _ => by simp [keyOf]
  | r :: l, h => by
    unfold keyOf
    split
    · have := h r (by simp); omega
    · exact keyOf_nonneg who l (fun x hx => h x (by simp [hx]))
theorem keyOf_mem (who : Int) : ∀ l : List (Int × Int), keyOf l who ≠ 0 → ∃ r ∈ l, r.1 = who ∧ r.2 = keyOf l who
  | [], h => absurd rfl h
  | r :: l, h => by
    unfold keyOf at h ⊢
    by_cases e : r.1 = who
    · rw [if_pos e]; exact ⟨r, by simp, e, rfl⟩
    · rw [if_neg e] at h ⊢
      obtain ⟨x, hx, h1, h2⟩ := keyOf_mem who l h
      exact ⟨x, by simp [hx], h1, h2⟩
theorem keyOf_of_mem : ∀ (l : List (Int × Int)), (∀ r ∈ l, 1 ≤ r.2) → ∀ r ∈ l, keyOf l r.1 ≠ 0
  | x :: l, hb, r, hr => by
    unfold keyOf
    split
    · have := hb x (by simp); omega
    · rename_i hne
      rcases List.mem_cons.1 hr with rfl | hr
      · exact absurd rfl hne
      · exact keyOf_of_mem l (fun y hy => hb y (by simp [hy])) r hr
theorem with_back (l : List (Int × Int)) (who key : Int) (hp : l.Pairwise (fun a b => a.1 < b.1)) (hb : ∀ r ∈ l, 1 ≤ r.2) : withL (withL l who key) who (keyOf l who) = l := by
  have h0 := keyOf_nonneg who l hb
  show (if 0 < keyOf l who then ins who (keyOf l who) (without who (withL l who key)) else without who (withL l who key)) = l
  rw [without_with]
  by_cases hk : keyOf l who = 0
  · rw [if_neg (by omega)]
    exact without_all who l (fun r hr e => by have := keyOf_of_mem l hb r hr; rw [e] at this; exact this hk)
  · rw [if_pos (by omega)]
    exact ins_back who l hp hb hk

/-- what holds of each of a list still holds of each behind With -/
theorem mem_ins (who key : Int) : ∀ (l : List (Int × Int)) (r : Int × Int), r ∈ ins who key l → r = (who, key) ∨ r ∈ l
  | [], r, h => by simpa [ins] using h
  | x :: l, r, h => by
    rw [ins_eq] at h
    split at h
    · rcases List.mem_cons.1 h with h | h
      · exact .inl h
      · exact .inr h
    · rcases List.mem_cons.1 h with rfl | h
      · exact .inr (by simp)
      · rcases mem_ins who key l r h with h | h
        · exact .inl h
        · exact .inr (by simp [h])
theorem mem_with {l : List (Int × Int)} {who key : Int} {r : Int × Int} (h : r ∈ withL l who key) : (r = (who, key) ∧ 0 < key) ∨ (r ∈ l ∧ r.1 ≠ who) := by
  unfold withL at h
  split at h
  · rcases mem_ins who key _ r h with h | h
    · exact .inl ⟨h, by assumption⟩
    · exact .inr (without_mem who l r h)
  · exact .inr (without_mem who l r h)
theorem sorted_without {l : List (Int × Int)} (who : Int) (hp : l.Pairwise (fun a b => a.1 < b.1)) : (without who l).Pairwise (fun a b => a.1 < b.1) := hp.filter _
theorem sorted_ins (who key : Int) : ∀ l : List (Int × Int), l.Pairwise (fun a b => a.1 < b.1) → (∀ r ∈ l, r.1 ≠ who) → (ins who key l).Pairwise (fun a b => a.1 < b.1)
  | [], _, _ => by simp [ins]
  | x :: l, hp, hn => by
    have hp0 := hp
    rw [List.pairwise_cons] at hp
    have hx := hn x (by simp)
    rw [ins_eq]
    split
    · rw [List.pairwise_cons]
      refine ⟨fun b hb => ?_, hp0⟩
      rcases List.mem_cons.1 hb with rfl | hb
      · show who < _; omega
      · have := hp.1 b hb; show who < _; omega
    · rw [List.pairwise_cons]
      refine ⟨fun b hb => ?_, sorted_ins who key l hp.2 (fun r hr => hn r (by simp [hr]))⟩
      rcases mem_ins who key l b hb with rfl | hb
      · show x.1 < who; omega
      · exact hp.1 b hb
theorem sorted_with {l : List (Int × Int)} (who key : Int) (hp : l.Pairwise (fun a b => a.1 < b.1)) : (withL l who key).Pairwise (fun a b => a.1 < b.1) := by
  unfold withL
  split
  · exact sorted_ins who key _ (sorted_without who hp) (fun r hr => (without_mem who l r hr).2)
  · exact sorted_without who hp
theorem with_len (l : List (Int × Int)) (who key : Int) : (withL l who key).length ≤ l.length + 1 := by
  unfold withL
  split
  · rw [ins_len]; have := without_len who l; omega
  · have := without_len who l; omega

/-- others: none is the one, each is known, rising -/
theorem others_mem {who : Int} {l : List (Int × Int)} {x : Int} (h : x ∈ othersL who l) : x ≠ who ∧ ∃ r ∈ l, r.1 = x := by
  unfold othersL at h
  obtain ⟨r, hr, rfl⟩ := List.mem_map.1 h
  obtain ⟨h1, h2⟩ := without_mem who l r hr
  exact ⟨h2, r, h1, rfl⟩
theorem others_sorted {who : Int} {l : List (Int × Int)} (hp : l.Pairwise (fun a b => a.1 < b.1)) : (othersL who l).Pairwise (· < ·) := by
  unfold othersL
  exact List.pairwise_map.2 (sorted_without who hp)
end Go.Proofs.Ytclhmpknkinjcaa
