/-
  Every sector has 64 bytes. Plain laws.
-/
import Derived.Test.YtkedmlkbepjnfaaGreatDoorKpPlain
import Derived.Test.YtkedmlkbepjnfaaGreatDoorDiskN
namespace Go.Proofs.YtkedmlkbepjnfaaGreatDoor
open Go.RowKit

structure Sz (d : Dk) : Prop where
  kept : ∀ x ∈ d.kept, x.size = 64
  now : ∀ x ∈ d.now, x.size = 64
  wait : ∀ r ∈ d.wait, r.2.size = 64
theorem fullB_size {s : ByteArray} (h : s.size ≤ 64) : (fullB s).size = 64 := by
  unfold fullB
  rw [ByteArray.size_append, zerosB_size]
  omega
theorem mem_set {l : List ByteArray} {i : Nat} {y : ByteArray} (h : ∀ x ∈ l, x.size = 64) (hy : y.size = 64) : ∀ x ∈ l.set i y, x.size = 64 := by
  intro x hx
  rcases List.mem_or_eq_of_mem_set hx with h' | rfl
  · exact h x h'
  · exact hy
theorem Sz.step {d : Dk} (h : Sz d) : Sz d.step := by
  have e := Dk.step_lists d
  exact ⟨by rw [e.1]; exact h.kept, by rw [e.2.1]; exact h.now, by rw [e.2.2]; exact h.wait⟩
theorem Sz.write {n : Nat} {d : Dk} (h : Sz d) (p : Int) (s : ByteArray) : Sz (d.write n p s) := by
  unfold Dk.write
  split
  · exact h
  · rename_i hp
    have hs := fullB_size (s := s) (by omega)
    split
    · have e := Dk.step_lists d
      refine ⟨by show ∀ x ∈ d.step.kept, _; rw [e.1]; exact h.kept, mem_set h.now hs, fun r hr => ?_⟩
      rcases List.mem_append.1 hr with hr | hr
      · exact h.wait r hr
      · obtain rfl := List.mem_singleton.1 hr
        exact hs
    · exact h.step
theorem Sz.flush {d : Dk} (h : Sz d) : Sz d.flush := by
  unfold Dk.flush
  split
  · exact ⟨h.now, by show ∀ x ∈ d.step.now, _; rw [(Dk.step_lists d).2.1]; exact h.now, fun r hr => by cases hr⟩
  · exact h.step
theorem Sz.rest {d : Dk} (h : Sz d) (keep : Int) : ∀ k, k ≤ d.wait.length → ∀ x ∈ d.restTo keep k, x.size = 64
  | 0, _ => h.kept
  | k + 1, hk => by
    have ih := Sz.rest h keep k (by omega)
    unfold Dk.restTo
    split
    · refine mem_set ih ?_
      rw [List.getD_eq_getElem?_getD, List.getElem?_eq_getElem (by omega), Option.getD_some]
      exact h.wait _ (List.getElem_mem _)
    · exact ih
theorem Sz.restart {d : Dk} (h : Sz d) (keep : Int) : Sz (d.restart keep) :=
  ⟨h.rest keep _ (Nat.le_refl _), h.rest keep _ (Nat.le_refl _), fun r hr => by cases hr⟩
theorem Sz.new (n : Nat) : Sz (Dk.new n) := by
  have hf : ∀ x ∈ List.replicate n (fullB ⟨#[]⟩), x.size = 64 := fun x hx => by
    rw [List.eq_of_mem_replicate hx]; exact fullB_size (by decide)
  exact ⟨hf, hf, fun r hr => by cases hr⟩
theorem Sz.lay {n a : Nat} {d : Dk} {A B : ByteArray} (h : Sz d) : Sz (layD n d a A B).1 := by
  unfold layD
  dsimp only
  split
  · exact h.write _ _
  · split
    · exact (h.write _ _).flush
    · split
      · exact ((h.write _ _).flush).write _ _
      · split
        · exact (((h.write _ _).flush).write _ _).flush
        · split
          · exact ((((h.write _ _).flush).write _ _).flush).write _ _
          · split
            · exact (((((h.write _ _).flush).write _ _).flush).write _ _).flush
            · exact (((((h.write _ _).flush).write _ _).flush).write _ _).flush
theorem Sz.sector {n : Nat} {d : Dk} (h : Sz d) (ok : d.ok n) {p : Nat} (hp : p < n) : (d.now.getD p ⟨#[]⟩).size = 64 := by
  rw [List.getD_eq_getElem?_getD, List.getElem?_eq_getElem (by rw [ok.nl]; exact hp), Option.getD_some]
  exact h.now _ (List.getElem_mem _)
end Go.Proofs.YtkedmlkbepjnfaaGreatDoor
