/-
  Groups: what was read is read again. Plain laws, no program in sight.
-/
import Derived.Test.YtclhmpknkinjcaaGPlain
namespace Go.Proofs.Ytclhmpknkinjcaa
open Go.RowKit

/-- a cell is another one, or newer -/
def leC (a b : Cel) : Prop := b = a ∨ newerB b a = true
theorem newer_trans {a b c : Cel} (h : newerB a b = true) (g : newerB b c = true) : newerB a c = true := by
  unfold newerB at h g ⊢
  simp only [decide_eq_true_eq] at h g ⊢
  omega
theorem leC.trans {a b c : Cel} (h : leC a b) (g : leC b c) : leC a c := by
  rcases g with rfl | g
  · exact h
  · rcases h with rfl | h
    · exact .inr g
    · exact .inr (newer_trans g h)
/-- cells of which no two have one number -/
structure Fam (S : Cel → Prop) : Prop where
  z : S Cel.zero
  uni : ∀ x y, S x → S y → x.n = y.n → x = y
theorem Fam.total {S : Cel → Prop} (f : Fam S) {x y : Cel} (hx : S x) (hy : S y) (h : newerB x y = false) : leC x y := by
  by_cases e : x.n = y.n
  · exact .inl (f.uni x y hx hy e).symm
  · right
    unfold newerB at h ⊢
    simp only [decide_eq_false_iff_not, decide_eq_true_eq] at h ⊢
    omega
theorem bestL_ge {S : Cel → Prop} (f : Fam S) (k : Nat) (l : List Rp) (h : ∀ r ∈ l, S (r.get k)) : ∀ r ∈ l, leC (r.get k) (bestL k l) := by
  have : ∀ (l : List Rp) (b : Cel), S b → (∀ r ∈ l, S (r.get k)) → leC b (l.foldl (fun b r => if newerB (r.get k) b then r.get k else b) b) ∧ ∀ r ∈ l, leC (r.get k) (l.foldl (fun b r => if newerB (r.get k) b then r.get k else b) b) := by
    intro l
    induction l with
    | nil => intro b _ _; exact ⟨.inl rfl, fun r hr => by cases hr⟩
    | cons r l ih =>
      intro b hb hl
      have hr := hl r (by simp)
      obtain ⟨i1, i2⟩ := ih (if newerB (r.get k) b then r.get k else b) (by split <;> assumption) (fun q hq => hl q (by simp [hq]))
      have hbr : leC b (if newerB (r.get k) b then r.get k else b) ∧ leC (r.get k) (if newerB (r.get k) b then r.get k else b) := by
        split
        · rename_i hn
          exact ⟨.inr hn, .inl rfl⟩
        · rename_i hn
          exact ⟨.inl rfl, f.total hr hb (by simpa using hn)⟩
      refine ⟨hbr.1.trans i1, fun q hq => ?_⟩
      rcases List.mem_cons.1 hq with rfl | hq
      · exact hbr.2.trans i1
      · exact i2 q hq
  exact (this l _ f.z h).2
theorem ledAll_fam (l : List Ac) : ∃ S, Fam S ∧ AllC S (ledAll l).g := by
  have : ∀ (l : List Ac) (s : Led), (∃ S, Fam S ∧ AllC S s.g ∧ ∀ x, S x → x.n ≤ s.n) → ∃ S, Fam S ∧ AllC S (l.foldl ledStep s).g ∧ ∀ x, S x → x.n ≤ (l.foldl ledStep s).n := by
    intro l
    induction l with
    | nil => intro s h; exact h
    | cons x l ih =>
      rintro s ⟨S, f, h, hn⟩
      refine ih (ledStep s x) ?_
      unfold ledStep
      split
      · exact ⟨S, f, h, hn⟩
      split
      · split
        · exact ⟨S, f, h.fence f.z _, hn⟩
        · exact ⟨S, f, h, hn⟩
      split
      · exact ⟨S, f, h.sync f.z _ _, hn⟩
      · obtain ⟨c, hc⟩ : ∃ c : Cel, c = ⟨s.ep, s.n + 1, x.s⟩ := ⟨_, rfl⟩
        have hcn : c.n = s.n + 1 := by rw [hc]
        rw [← hc]
        refine ⟨fun x => S x ∨ x = c, ⟨.inl f.z, ?_⟩, AllC.deliver (h.mono (fun y hy => .inl hy)) (.inl f.z) _ _ (.inr rfl), ?_⟩
        · rintro x y (hx | rfl) (hy | rfl) e
          · exact f.uni x y hx hy e
          · have := hn x hx; omega
          · have := hn y hy; omega
          · rfl
        · rintro x (hx | rfl)
          · have := hn x hx; show x.n ≤ ((s.n + 1 : Nat) : Int); omega
          · show x.n ≤ ((s.n + 1 : Nat) : Int); omega
  obtain ⟨S, f, h, -⟩ := this l ⟨Gp.start, 1, 0⟩ ⟨fun x => x = Cel.zero, ⟨rfl, fun x y hx hy _ => hx.trans hy.symm⟩, AllC.start rfl, fun x hx => by rw [hx]; simp [Cel.zero]⟩
  exact ⟨S, f, h⟩

theorem valG_put1 {g : Gp} (hg : g.ok) {k : Nat} (hk : k < 8) (c : Cel) {i : Nat} (hi : i < 3) (j : Nat) : valG (g.put1 k c i) k j = if j = i then c else valG g k j := by
  unfold Gp.put1
  rw [show (i : Int).toNat = i from rfl, valG_setR (by rw [hg.r3]; exact hi)]
  split
  · exact Rp.get_set c (by rw [Gp.getR hg hi]; exact hk)
  · rfl
theorem valG_putAll {k : Nat} (hk : k < 8) (c : Cel) (j : Nat) : ∀ (l : List Int) (g : Gp), g.ok → (∀ x ∈ l, ∃ i : Nat, x = i ∧ i < 3) → valG (g.putAll k c l) k j = if (j : Int) ∈ l then c else valG g k j
  | [], g, _, _ => rfl
  | x :: l, g, hg, hl => by
    obtain ⟨i, rfl, hi⟩ := hl x (by simp)
    have ih := valG_putAll hk c j l (g.put1 k c i) (Gp.put1_ok hg k c hi) (fun y hy => hl y (by simp [hy]))
    have e : g.putAll k c ((i : Int) :: l) = (g.put1 k c i).putAll k c l := rfl
    rw [e, ih, valG_put1 hg hk c hi]
    by_cases hm : (j : Int) ∈ l
    · rw [if_pos hm, if_pos (by simp [hm])]
    · rw [if_neg hm]
      by_cases hji : j = i
      · subst hji; rw [if_pos rfl, if_pos (by simp)]
      · rw [if_neg hji, if_neg (by simp [hm]; omega)]
theorem mem_nat {g : Gp} {ep : Int} : ∀ x ∈ g.mem ep, ∃ i : Nat, x = i ∧ i < 3 := fun x hx => by
  obtain ⟨i, e, hi, -⟩ := Gp.mem_lt hx
  exact ⟨i, e, hi⟩

/-! ### TopRead -/
structure RInv (S : Cel → Prop) (was : Cel) (k : Nat) (g : Gp) : Prop where
  all : AllC S g
  two : ∃ i j, i < j ∧ j < 3 ∧ leC was (valG g k i) ∧ leC was (valG g k j)
theorem RInv.best {S : Cel → Prop} {was : Cel} {k : Nat} {g : Gp} (f : Fam S) (h : RInv S was k g) {ep : Int} (hm : 2 ≤ (g.mem ep).length) : leC was (bestL k (g.frm ep)) := by
  have hb := bestL_ge f k (g.frm ep) (fun r hr => by
    obtain ⟨i, -, -, rfl⟩ := frm_mem hr
    exact valG_S h.all f.z k i)
  obtain ⟨i, j, hij, hj, hi1, hj1⟩ := h.two
  rcases mem_two hm hij hj with e | e
  · exact hi1.trans (hb _ (mem_frm (by omega) e))
  · exact hj1.trans (hb _ (mem_frm hj e))
theorem RInv.step {S : Cel → Prop} {was : Cel} {k : Nat} {g : Gp} (f : Fam S) (h : RInv S was k g) (hg : g.ok) (hk : k < 8) (ep : Nat) (x : Ac) (hx : x.a.toNat < 3) : RInv S was k (moreStep g ep x).1 := by
  have key : ∀ j, leC was (valG g k j) → leC was (valG (moreStep g ep x).1 k j) := by
    intro j hj
    rcases moreStep_val hg ep x hx hk j with e | ⟨hm, e⟩
    · rw [e]; exact hj
    · rw [e]; exact h.best f hm
  obtain ⟨i, j, hij, hj, hi1, hj1⟩ := h.two
  exact ⟨moreStep_allC h.all f.z ep x, i, j, hij, hj, key i hi1, key j hj1⟩
theorem RInv.read {S : Cel → Prop} {k : Nat} {g : Gp} (f : Fam S) (h : AllC S g) (hg : g.ok) (hk : k < 8) {ep : Int} (hm : 2 ≤ (g.mem ep).length) : RInv S (g.readC ep k) k (g.read ep k) := by
  have hc : g.readC ep k = bestL k (g.frm ep) := if_pos hm
  have hr : g.read ep k = g.putAll k (g.readC ep k) (g.mem ep) := if_pos hm
  have hS : S (g.readC ep k) := by
    rw [hc]
    refine bestL_S f.z k _ (fun r hr => ?_)
    obtain ⟨i, -, -, rfl⟩ := frm_mem hr
    exact valG_S h f.z k i
  rw [hr]
  refine ⟨AllC.putAll f.z k hS _ _ h, ?_⟩
  obtain ⟨i, j, hij, hj, hi1, hj1⟩ := mem_two' hm
  refine ⟨i, j, hij, hj, ?_, ?_⟩
  · rw [valG_putAll hk _ _ _ _ hg mem_nat, if_pos (isM_in (by omega) hi1)]; exact .inl rfl
  · rw [valG_putAll hk _ _ _ _ hg mem_nat, if_pos (isM_in hj hj1)]; exact .inl rfl
theorem RInv.now {S : Cel → Prop} {was : Cel} {k : Nat} {g : Gp} (f : Fam S) (h : RInv S was k g) {ep : Int} (hm : 2 ≤ (g.mem ep).length) : leC was (g.readC ep k) := by
  have hc : g.readC ep k = bestL k (g.frm ep) := if_pos hm
  rw [hc]; exact h.best f hm
end Go.Proofs.Ytclhmpknkinjcaa
