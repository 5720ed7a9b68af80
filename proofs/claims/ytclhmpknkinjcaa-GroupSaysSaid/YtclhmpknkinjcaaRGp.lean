/-
  The document's groups as plain values: what it does one by one is what the program does.
-/
import Derived.Test.YtclhmpknkinjcaaGRead
namespace Go.Proofs.Ytclhmpknkinjcaa
open Go.RowKit Go.Sort

def Gp.lift1 (epoch : Int) (h : Gp) (x : Int) : Gp := h.setR x.toNat ⟨epoch, (h.r.getD x.toNat Rp.zero).cells⟩
def Gp.liftAll (g : Gp) (epoch : Int) (l : List Int) : Gp := l.foldl (Gp.lift1 epoch) g
theorem Gp.liftAll_snoc (g : Gp) (epoch : Int) (l : List Int) (x : Int) : g.liftAll epoch (l ++ [x]) = Gp.lift1 epoch (g.liftAll epoch l) x := by simp [Gp.liftAll]
theorem Gp.lift1_ok {h : Gp} (ok : h.ok) (epoch : Int) {i : Nat} (hi : i < 3) : (Gp.lift1 epoch h i).ok := ok.setR _ (by simpa using Gp.getR ok hi)
theorem getR_set {h : Gp} {n j : Nat} {r : Rp} (hj : n ≠ j) : (h.setR n r).r.getD j Rp.zero = h.r.getD j Rp.zero := by
  simp [Gp.setR, List.getD_eq_getElem?_getD, List.getElem?_set_ne hj]
theorem fenceTo_get (g : Gp) (epoch : Int) (j : Nat) : ∀ n, n ≤ j → (g.fenceTo epoch n).r.getD j Rp.zero = g.r.getD j Rp.zero
  | 0, _ => rfl
  | n + 1, h => by
    have ih := fenceTo_get g epoch j n (by omega)
    unfold Gp.fenceTo
    split
    · rw [getR_set (by omega), ih]
    · exact ih
theorem setR_same {h : Gp} {n : Nat} (hn : n < h.r.length) : h.setR n (h.r.getD n Rp.zero) = h := by
  obtain ⟨r, u⟩ := h
  unfold Gp.setR
  simp only [Gp.mk.injEq, and_true]
  simp only at hn
  rw [List.getD_eq_getElem?_getD, List.getElem?_eq_getElem hn, Option.getD_some, List.set_getElem_self]
theorem liftAll_mem {g : Gp} (hg : g.ok) (epoch : Int) : ∀ n, n ≤ 3 → g.liftAll epoch (g.memTo (epoch - 1) n) = g.fenceTo epoch n
  | 0, _ => rfl
  | n + 1, hn => by
    have ih := liftAll_mem hg epoch n (by omega)
    have hr := fenceTo_get g epoch n n (Nat.le_refl _)
    have ok := Gp.fenceTo_ok hg epoch n (by omega)
    rw [Gp.mem_succ]
    unfold Gp.fenceTo
    by_cases hu : g.u.getD n false = true
    · by_cases hf : (g.r.getD n Rp.zero).floor = epoch - 1
      · rw [if_pos (by unfold Gp.isM; rw [hu, hf]; simp), Gp.liftAll_snoc, ih, if_pos hu]
        unfold Gp.lift1 Rp.fence
        rw [Int.toNat_natCast, hr, if_pos hf]
      · rw [if_neg (by unfold Gp.isM; rw [decide_eq_false hf]; simp), List.append_nil, ih, if_pos hu]
        unfold Rp.fence
        rw [hr, if_neg hf, ← hr, setR_same (by rw [ok.r3]; omega)]
    · rw [if_neg (by unfold Gp.isM; rw [Bool.eq_false_iff.2 hu]; simp), List.append_nil, ih, if_neg hu]
/-- the replicas of some -/
def Gp.some (g : Gp) (l : List Int) : List Rp := l.map (fun x => g.r.getD x.toNat Rp.zero)
theorem Gp.some_frm (g : Gp) (epoch : Int) : g.some (g.mem epoch) = g.frm epoch := rfl
/-- a row that is filled from the left -/
def upTo (m : List Cel) (j : Nat) : List Cel := m.take j ++ zeros8.drop j
theorem upTo_len {m : List Cel} (h : m.length = 8) {j : Nat} (hj : j ≤ 8) : (upTo m j).length = 8 := by
  unfold upTo zeros8; simp; omega
theorem upTo_set {m : List Cel} (h : m.length = 8) {j : Nat} (hj : j < 8) : (upTo m j).set j (m.getD j Cel.zero) = upTo m (j + 1) := by
  unfold upTo
  have e : zeros8.drop j = Cel.zero :: zeros8.drop (j + 1) := by
    unfold zeros8; simp only [List.drop_replicate]
    rw [show 8 - j = (8 - (j + 1)) + 1 from by omega]; rfl
  have hl : j < m.length := by omega
  rw [e, List.set_append, if_neg (by simp; omega), show j - (m.take j).length = 0 from by simp; omega, List.set_cons_zero, List.take_succ_eq_append_getElem hl, List.getD_eq_getElem?_getD, List.getElem?_eq_getElem hl, List.append_assoc]
  rfl
theorem upTo_all {m : List Cel} (h : m.length = 8) : upTo m 8 = m := by
  unfold upTo zeros8
  rw [List.take_of_length_le (by omega)]; simp
theorem upTo_none (m : List Cel) : upTo m 0 = zeros8 := by simp [upTo]
end Go.Proofs.Ytclhmpknkinjcaa
