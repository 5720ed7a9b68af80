/-
  Contract: the document's With; it lays what hold.With lays.
-/
import Derived.Test.YtclhmpknkinjcaaWith
namespace Go.Proofs.Ytclhmpknkinjcaa
open Go.RowKit

def rwLay (who key : Int) (s : List (Int × Int) × Bool) (r : Int × Int) : List (Int × Int) × Bool := if s.2 = false ∧ who ≤ r.1 then (s.1 ++ [(who, key)], true) else s
def rwStep (who key : Int) (s : List (Int × Int) × Bool) (r : Int × Int) : List (Int × Int) × Bool := if r.1 ≠ who then ((rwLay who key s r).1 ++ [r], (rwLay who key s r).2) else rwLay who key s r
def rwFold (who key : Int) (l : List (Int × Int)) : List (Int × Int) × Bool := l.foldl (rwStep who key) ([], decide (key = 0))
def rwEnd (who key : Int) (s : List (Int × Int) × Bool) : List (Int × Int) := if s.2 = false then s.1 ++ [(who, key)] else s.1

theorem rw_snoc (who key : Int) (l : List (Int × Int)) (k : Nat) (h : k < l.length) : rwFold who key (l.take (k + 1)) = rwStep who key (rwFold who key (l.take k)) l[k] := by
  rw [List.take_succ_eq_append_getElem h]
  unfold rwFold
  rw [List.foldl_append]
  rfl

theorem rw_laid (who key : Int) : ∀ (l acc : List (Int × Int)), (l.foldl (rwStep who key) (acc, true)) = (acc ++ without who l, true)
  | [], acc => by simp [without]
  | r :: l, acc => by
    rw [List.foldl_cons]
    have hl : rwLay who key (acc, true) r = (acc, true) := by simp [rwLay]
    by_cases e : r.1 = who
    · have : rwStep who key (acc, true) r = (acc, true) := by unfold rwStep; rw [if_neg (by simp [e]), hl]
      rw [this, rw_laid who key l acc]
      simp [without, e]
    · have : rwStep who key (acc, true) r = (acc ++ [r], true) := by unfold rwStep; rw [if_pos e, hl]
      rw [this, rw_laid who key l]
      simp [without, e]

theorem ins_head (who key : Int) (l : List (Int × Int)) (h : ∀ r ∈ l, who ≤ r.1) : ins who key l = (who, key) :: l := by
  cases l with
  | nil => rfl
  | cons r l => unfold ins; rw [if_neg (by have := h r (by simp); omega)]

theorem rw_open (who key : Int) : ∀ (l acc : List (Int × Int)), l.Pairwise (fun a b => a.1 < b.1) → rwEnd who key (l.foldl (rwStep who key) (acc, false)) = acc ++ ins who key (without who l)
  | [], acc, _ => by simp [rwEnd, without, ins]
  | r :: l, acc, hp => by
    rw [List.pairwise_cons] at hp
    rw [List.foldl_cons]
    by_cases e : who ≤ r.1
    · have hl : rwLay who key (acc, false) r = (acc ++ [(who, key)], true) := by simp [rwLay, e]
      have hge : ∀ x ∈ without who (r :: l), who ≤ x.1 := fun x hx => by
        have := (List.mem_filter.1 hx).1
        rcases List.mem_cons.1 this with rfl | hx
        · exact e
        · have := hp.1 x hx; omega
      rw [ins_head who key _ hge]
      by_cases e2 : r.1 = who
      · have : rwStep who key (acc, false) r = (acc ++ [(who, key)], true) := by unfold rwStep; rw [if_neg (by simp [e2]), hl]
        rw [this, rw_laid]
        simp [rwEnd, without, e2]
      · have : rwStep who key (acc, false) r = (acc ++ [(who, key)] ++ [r], true) := by unfold rwStep; rw [if_pos e2, hl]
        rw [this, rw_laid]
        simp [rwEnd, without, e2]
    · have hl : rwLay who key (acc, false) r = (acc, false) := by simp [rwLay, e]
      have e2 : r.1 ≠ who := by omega
      have : rwStep who key (acc, false) r = (acc ++ [r], false) := by unfold rwStep; rw [if_pos e2, hl]
      rw [this, rw_open who key l _ hp.2]
      have hw : without who (r :: l) = r :: without who l := by simp [without, e2]
      rw [hw]
      have hi : ins who key (r :: without who l) = r :: ins who key (without who l) := by rw [ins, if_pos (by omega)]
      rw [hi]
      simp

theorem rw_with (who key : Int) (l : List (Int × Int)) (hk : 0 ≤ key) (hp : l.Pairwise (fun a b => a.1 < b.1)) : rwEnd who key (rwFold who key l) = withL l who key := by
  unfold rwFold withL
  rcases (by omega : key = 0 ∨ 0 < key) with e | e
  · subst e
    rw [if_neg (by omega)]
    have : decide ((0 : Int) = 0) = true := rfl
    rw [this, rw_laid]
    simp [rwEnd]
  · rw [if_pos e]
    have : decide (key = 0) = false := by simp; omega
    rw [this, rw_open who key l _ hp]
    simp

theorem rw_len (who key : Int) (l : List (Int × Int)) : (rwFold who key l).1.length ≤ 2 * l.length := by
  have : ∀ (l : List (Int × Int)) (s : List (Int × Int) × Bool), (l.foldl (rwStep who key) s).1.length ≤ s.1.length + 2 * l.length := by
    intro l
    induction l with
    | nil => intro s; simp
    | cons r l ih =>
      intro s
      rw [List.foldl_cons]
      have := ih (rwStep who key s r)
      have h2 : (rwStep who key s r).1.length ≤ s.1.length + 2 := by
        unfold rwStep rwLay
        split <;> split <;> simp
      simp only [List.length_cons]
      omega
  simpa [rwFold] using this l ([], decide (key = 0))
end Go.Proofs.Ytclhmpknkinjcaa
