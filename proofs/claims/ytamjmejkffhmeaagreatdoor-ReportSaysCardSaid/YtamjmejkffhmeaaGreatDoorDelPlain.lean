/-
  Deleting in place, as lists and arrays: the invariant of the loop of slices.DeleteFunc.
-/
import Derived.Test.YtamjmejkffhmeaaGreatDoorOwn
namespace Go.Proofs.YtamjmejkffhmeaaGreatDoor
open Go.RowKit

/-- all but one -/
def without (who : Int) (l : List (Int × Int)) : List (Int × Int) := l.filter fun r => !(r.1 == who)

theorem without_all (who : Int) (l : List (Int × Int)) (h : ∀ r ∈ l, r.1 ≠ who) : without who l = l := by
  unfold without
  rw [List.filter_eq_self]
  intro r hr
  simp [h r hr]

theorem without_snoc_hit (who : Int) (l : List (Int × Int)) (k : Nat) (h : k < l.length) (e : l[k].1 = who) : without who (l.take (k + 1)) = without who (l.take k) := by
  rw [List.take_succ_eq_append_getElem h]
  unfold without
  rw [List.filter_append]
  simp only [List.filter_cons, List.filter_nil]
  simp [e]
theorem without_snoc_miss (who : Int) (l : List (Int × Int)) (k : Nat) (h : k < l.length) (e : l[k].1 ≠ who) : without who (l.take (k + 1)) = without who (l.take k) ++ [l[k]] := by
  rw [List.take_succ_eq_append_getElem h]
  unfold without
  rw [List.filter_append]
  simp only [List.filter_cons, List.filter_nil]
  simp [e]

structure DInv (who : Int) (l : List (Int × Int)) (cur : Array Value) (k i : Nat) : Prop where
  len : i = (without who (l.take k)).length
  pre : cur.toList.take (i * 2) = pcells (without who (l.take k))
  rest : ∀ m (h : m < l.length), k ≤ m → cur[m * 2]? = some (.int .i64 l[m].1) ∧ cur[m * 2 + 1]? = some (.int .i64 l[m].2)
  lt : i < k
  size : l.length * 2 ≤ cur.size

theorem row_rest {l : List (Int × Int)} {cur : Array Value} (h : cur.toList.take (l.length * 2) = pcells l) (m : Nat) (hm : m < l.length) : cur[m * 2]? = some (.int .i64 l[m].1) ∧ cur[m * 2 + 1]? = some (.int .i64 l[m].2) := by
  obtain ⟨p1, p2⟩ := pcells_at l m hm
  have hcell : ∀ j, j < l.length * 2 → cur[j]? = (pcells l)[j]? := by
    intro j hj
    rw [← h, List.getElem?_take_of_lt hj]; simp
  exact ⟨(hcell _ (by omega)).trans p1, (hcell _ (by omega)).trans p2⟩

theorem DInv.start {who : Int} {l : List (Int × Int)} {cur : Array Value} {k : Nat} (hk : k < l.length) (e : l[k].1 = who) (hn : ∀ j (_ : j < k) (hj : j < l.length), l[j].1 ≠ who) (hc : cur.toList.take (l.length * 2) = pcells l) (hs : l.length * 2 ≤ cur.size) :
    DInv who l cur (k + 1) k := by
  have hw : without who (l.take k) = l.take k := without_all who _ (fun r hr => by
    obtain ⟨j, hj, rfl⟩ := List.getElem_of_mem hr
    rw [List.length_take] at hj
    rw [List.getElem_take]
    exact hn j (by omega) (by omega))
  refine ⟨?_, ?_, fun m hm _ => row_rest hc m hm, by omega, hs⟩
  · rw [without_snoc_hit who l k hk e, hw]; simp; omega
  · rw [without_snoc_hit who l k hk e, hw]
    have : (cur.toList.take (l.length * 2)).take (k * 2) = (pcells l).take (k * 2) := by rw [hc]
    rw [List.take_take, Nat.min_eq_left (by omega)] at this
    rw [this]
    have h2 : pcells l = pcells (l.take k) ++ pcells (l.drop k) := by rw [← pcells_append, List.take_append_drop]
    rw [h2, List.take_append_of_le_length (by rw [pcells_length]; simp; omega), List.take_of_length_le (by rw [pcells_length]; simp; omega)]

theorem DInv.drop {who : Int} {l : List (Int × Int)} {cur : Array Value} {k i : Nat} (h : DInv who l cur k i) (hk : k < l.length) (e : l[k].1 = who) : DInv who l cur (k + 1) i :=
  ⟨by rw [without_snoc_hit who l k hk e]; exact h.len, by rw [without_snoc_hit who l k hk e]; exact h.pre, fun m hm hkm => h.rest m hm (by omega), by have := h.lt; omega, h.size⟩

theorem DInv.keep {who : Int} {l : List (Int × Int)} {cur : Array Value} {k i : Nat} (h : DInv who l cur k i) (hk : k < l.length) (e : l[k].1 ≠ who) :
    DInv who l ((cur.setIfInBounds (i * 2) (.int .i64 l[k].1)).setIfInBounds (i * 2 + 1) (.int .i64 l[k].2)) (k + 1) (i + 1) := by
  have hlt := h.lt
  have hsz := h.size
  refine ⟨?_, ?_, fun m hm hkm => ?_, by omega, by simpa using h.size⟩
  · rw [without_snoc_miss who l k hk e]; simp [← h.len]
  · rw [without_snoc_miss who l k hk e, pcells_append, ← h.pre]
    apply List.ext_getElem?
    intro j
    rw [List.getElem?_append]
    have hl : (cur.toList.take (i * 2)).length = i * 2 := by simp; omega
    rw [hl]
    by_cases hj : j < i * 2
    · rw [if_pos hj, List.getElem?_take_of_lt (by omega), List.getElem?_take_of_lt hj]
      simp only [Array.getElem?_toList, Array.getElem?_setIfInBounds]
      rw [if_neg (by omega), if_neg (by omega)]
    · rw [if_neg hj]
      by_cases hj2 : j < (i + 1) * 2
      · rw [List.getElem?_take_of_lt hj2]
        simp only [Array.getElem?_toList, Array.getElem?_setIfInBounds, Array.size_setIfInBounds]
        rcases (by omega : j = i * 2 ∨ j = i * 2 + 1) with rfl | rfl
        · rw [if_neg (by omega), if_pos rfl, if_pos (by omega)]; simp [pcells]
        · rw [if_pos rfl, if_pos (by omega)]; simp [pcells]
      · rw [List.getElem?_eq_none (by simp; omega), List.getElem?_eq_none (by simp [pcells]; omega)]
  · have := h.rest m hm (by omega)
    simp only [Array.getElem?_setIfInBounds]
    rw [if_neg (by omega), if_neg (by omega), if_neg (by omega), if_neg (by omega)]
    exact this

theorem DInv.fin {who : Int} {l : List (Int × Int)} {cur : Array Value} {i : Nat} (h : DInv who l cur l.length i) : i = (without who l).length ∧ cur.toList.take (i * 2) = pcells (without who l) := by
  have h1 := h.len
  have h2 := h.pre
  rw [List.take_length] at h1 h2
  exact ⟨h1, h2⟩
end Go.Proofs.YtamjmejkffhmeaaGreatDoor
