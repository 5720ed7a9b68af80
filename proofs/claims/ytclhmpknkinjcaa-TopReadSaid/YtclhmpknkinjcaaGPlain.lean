/-
  Groups: what most have. Plain laws, no program in sight.
-/
import Derived.Test.YtclhmpknkinjcaaGLed
namespace Go.Proofs.Ytclhmpknkinjcaa
open Go.RowKit

/-- all cells of a group are such -/
def AllC (S : Cel → Prop) (g : Gp) : Prop := ∀ r ∈ g.r, ∀ x ∈ r.cells, S x
theorem AllC.mono {S T : Cel → Prop} {g : Gp} (h : AllC S g) (hST : ∀ x, S x → T x) : AllC T g := fun r hr x hx => hST x (h r hr x hx)
theorem AllC.setR {S : Cel → Prop} {g : Gp} (h : AllC S g) (i : Nat) {r : Rp} (hr : ∀ x ∈ r.cells, S x) : AllC S (g.setR i r) := by
  intro q hq x hx
  rcases List.mem_or_eq_of_mem_set hq with h1 | h1
  · exact h q h1 x hx
  · subst h1; exact hr x hx
theorem AllC.getR {S : Cel → Prop} {g : Gp} (h : AllC S g) (hz : S Cel.zero) (i : Nat) : ∀ x ∈ (g.r.getD i Rp.zero).cells, S x := by
  intro x hx
  by_cases hi : i < g.r.length
  · simp only [List.getD_eq_getElem?_getD, List.getElem?_eq_getElem hi, Option.getD_some] at hx
    exact h _ (List.getElem_mem hi) x hx
  · rw [List.getD_eq_getElem?_getD, List.getElem?_eq_none (by omega)] at hx
    have := (List.mem_replicate.1 (show x ∈ List.replicate 8 Cel.zero from hx)).2
    rw [this]; exact hz
theorem get_S {S : Cel → Prop} {r : Rp} (h : ∀ x ∈ r.cells, S x) (hz : S Cel.zero) (k : Nat) : S (r.get k) := by
  unfold Rp.get
  by_cases hk : k < r.cells.length
  · simp only [List.getD_eq_getElem?_getD, List.getElem?_eq_getElem hk, Option.getD_some]
    exact h _ (List.getElem_mem hk)
  · rw [List.getD_eq_getElem?_getD, List.getElem?_eq_none (by omega)]; exact hz
theorem AllC.setU {S : Cel → Prop} {g : Gp} (h : AllC S g) (i : Nat) (b : Bool) : AllC S (g.setU i b) := h
theorem AllC.fenceTo {S : Cel → Prop} {g : Gp} (h : AllC S g) (hz : S Cel.zero) (ep : Int) : ∀ k, AllC S (g.fenceTo ep k)
  | 0 => h
  | k + 1 => by
    have ih := AllC.fenceTo h hz ep k
    unfold Gp.fenceTo
    split
    · refine ih.setR k ?_
      have := ih.getR hz k
      unfold Rp.fence
      split
      · exact this
      · exact this
    · exact ih
theorem AllC.fence {S : Cel → Prop} {g : Gp} (h : AllC S g) (hz : S Cel.zero) (ep : Int) : AllC S (g.fence ep) := by
  unfold Gp.fence; split
  · exact h.fenceTo hz ep 3
  · exact h
theorem bestL_S {S : Cel → Prop} (hz : S Cel.zero) (k : Nat) (l : List Rp) (h : ∀ r ∈ l, S (r.get k)) : S (bestL k l) := by
  have : ∀ (l : List Rp) (b : Cel), S b → (∀ r ∈ l, S (r.get k)) → S (l.foldl (fun b r => if newerB (r.get k) b then r.get k else b) b) := by
    intro l
    induction l with
    | nil => intro b hb _; exact hb
    | cons r l ih =>
      intro b hb hl
      refine ih _ ?_ (fun q hq => hl q (by simp [hq]))
      dsimp only
      split
      · exact hl r (by simp)
      · exact hb
  exact this l _ hz h
theorem frm_mem {g : Gp} {ep : Int} {r : Rp} (h : r ∈ g.frm ep) : ∃ i, i < 3 ∧ g.isM ep i = true ∧ r = g.r.getD i Rp.zero := by
  obtain ⟨x, hx, rfl⟩ := List.mem_map.1 h
  obtain ⟨i, rfl, hi, hm⟩ := Gp.mem_lt hx
  exact ⟨i, hi, hm, rfl⟩
theorem mem_frm {g : Gp} {ep : Int} {i : Nat} (hi : i < 3) (hm : g.isM ep i = true) : g.r.getD i Rp.zero ∈ g.frm ep := by
  refine List.mem_map.2 ⟨(i : Int), ?_, rfl⟩
  unfold Gp.mem Gp.memTo
  exact List.mem_map.2 ⟨i, List.mem_filter.2 ⟨List.mem_range.2 hi, hm⟩, rfl⟩
theorem AllC.sync {S : Cel → Prop} {g : Gp} (h : AllC S g) (hz : S Cel.zero) (ep : Int) (i : Nat) : AllC S (g.sync ep i) := by
  unfold Gp.sync; split
  · refine h.setR i ?_
    intro x hx
    obtain ⟨j, hj, rfl⟩ := List.mem_iff_getElem.1 hx
    have hj8 : j < 8 := by have := mergeL_len (g.frm ep); simp at hj; omega
    have e := mergeL_get (g.frm ep) j hj8
    simp only [List.getD_eq_getElem?_getD, List.getElem?_eq_getElem hj, Option.getD_some] at e
    rw [e]
    refine bestL_S hz j _ (fun r hr => ?_)
    obtain ⟨i, -, -, rfl⟩ := frm_mem hr
    exact get_S (h.getR hz i) hz j
  · exact h
theorem AllC.deliver {S : Cel → Prop} {g : Gp} (h : AllC S g) (hz : S Cel.zero) (i k : Nat) {c : Cel} (hc : S c) : AllC S (g.deliver i k c) := by
  unfold Gp.deliver; split
  · refine h.setR i ?_
    unfold Rp.admitC
    split
    · intro x hx
      rcases List.mem_or_eq_of_mem_set hx with h1 | h1
      · exact h.getR hz i x h1
      · rw [h1]; exact hc
    · exact h.getR hz i
  · exact h
theorem AllC.putAll {S : Cel → Prop} (hz : S Cel.zero) (k : Nat) {c : Cel} (hc : S c) : ∀ (l : List Int) (g : Gp), AllC S g → AllC S (g.putAll k c l)
  | [], _, h => h
  | x :: l, g, h => by
    refine AllC.putAll hz k hc l _ (h.setR _ ?_)
    intro y hy
    rcases List.mem_or_eq_of_mem_set hy with h1 | h1
    · exact h.getR hz _ y h1
    · rw [h1]; exact hc
theorem AllC.start {S : Cel → Prop} (hz : S Cel.zero) : AllC S Gp.start := by
  intro r hr x hx
  have e := (List.mem_replicate.1 hr).2
  subst e
  have := (List.mem_replicate.1 (show x ∈ List.replicate 8 Cel.zero from hx)).2
  rw [this]; exact hz

/-- what one of the group has in a block -/
def valG (g : Gp) (k i : Nat) : Cel := (g.r.getD i Rp.zero).get k
theorem valG_S {S : Cel → Prop} {g : Gp} (h : AllC S g) (hz : S Cel.zero) (k i : Nat) : S (valG g k i) := get_S (h.getR hz i) hz k
theorem getR_setR {g : Gp} {i j : Nat} {r : Rp} (hi : i < g.r.length) : (g.setR i r).r.getD j Rp.zero = if j = i then r else g.r.getD j Rp.zero := by
  unfold Gp.setR
  by_cases h : j = i
  · subst h; simp [hi]
  · rw [if_neg h]; simp [List.getD_eq_getElem?_getD, List.getElem?_set_ne (Ne.symm h)]
theorem valG_setR {g : Gp} {k i j : Nat} {r : Rp} (hi : i < g.r.length) : valG (g.setR i r) k j = if j = i then r.get k else valG g k j := by
  unfold valG
  rw [getR_setR hi]
  split <;> rfl
theorem valG_fenceTo {g : Gp} (hg : g.ok) (ep : Int) (k j : Nat) : ∀ n, n ≤ 3 → valG (g.fenceTo ep n) k j = valG g k j
  | 0, _ => rfl
  | n + 1, hn => by
    have ih := valG_fenceTo hg ep k j n (by omega)
    have ok := Gp.fenceTo_ok hg ep n (by omega)
    unfold Gp.fenceTo
    split
    · rw [valG_setR (by rw [ok.r3]; omega)]
      split
      · rename_i h
        rw [← ih, h]
        unfold valG Rp.fence
        split <;> rfl
      · exact ih
    · exact ih
theorem valG_fence {g : Gp} (hg : g.ok) (ep : Int) (k j : Nat) : valG (g.fence ep) k j = valG g k j := by
  unfold Gp.fence; split
  · exact valG_fenceTo hg ep k j 3 (by omega)
  · rfl
theorem mem_two {g : Gp} {ep : Int} (h : 2 ≤ (g.mem ep).length) {i j : Nat} (hij : i < j) (hj : j < 3) : g.isM ep i = true ∨ g.isM ep j = true := by
  have hl : (g.mem ep).length = (g.isM ep 0).toNat + (g.isM ep 1).toNat + (g.isM ep 2).toNat := by
    unfold Gp.mem Gp.memTo
    rw [List.length_map, show List.range 3 = [0, 1, 2] from rfl]
    cases h0 : g.isM ep 0 <;> cases h1 : g.isM ep 1 <;> cases h2 : g.isM ep 2 <;> simp [h0, h1, h2]
  rw [hl] at h
  rcases (by omega : (i = 0 ∧ j = 1) ∨ (i = 0 ∧ j = 2) ∨ (i = 1 ∧ j = 2)) with ⟨rfl, rfl⟩ | ⟨rfl, rfl⟩ | ⟨rfl, rfl⟩ <;>
    cases h0 : g.isM ep 0 <;> cases h1 : g.isM ep 1 <;> cases h2 : g.isM ep 2 <;> simp [h0, h1, h2] at h ⊢
theorem mem_two' {g : Gp} {ep : Int} (h : 2 ≤ (g.mem ep).length) : ∃ i j, i < j ∧ j < 3 ∧ g.isM ep i = true ∧ g.isM ep j = true := by
  have h01 := mem_two h (i := 0) (j := 1) (by omega) (by omega)
  have h02 := mem_two h (i := 0) (j := 2) (by omega) (by omega)
  have h12 := mem_two h (i := 1) (j := 2) (by omega) (by omega)
  cases h0 : g.isM ep 0 <;> cases h1 : g.isM ep 1 <;> cases h2 : g.isM ep 2 <;> simp [h0, h1, h2] at h01 h02 h12
  · exact ⟨1, 2, by omega, by omega, h1, h2⟩
  · exact ⟨0, 2, by omega, by omega, h0, h2⟩
  · exact ⟨0, 1, by omega, by omega, h0, h1⟩
  · exact ⟨0, 1, by omega, by omega, h0, h1⟩
theorem isM_in {g : Gp} {ep : Int} {i : Nat} (hi : i < 3) (h : g.isM ep i = true) : (i : Int) ∈ g.mem ep := by
  unfold Gp.mem Gp.memTo
  exact List.mem_map.2 ⟨i, List.mem_filter.2 ⟨List.mem_range.2 hi, h⟩, rfl⟩

/-- one more act -/
def moreStep (g : Gp) (ep : Nat) (x : Ac) : Gp × Nat :=
  if x.kind = sUp ∨ x.kind = sDown then (g.setU x.a.toNat (decide (x.kind = sUp)), ep)
  else if x.kind = sFence then (if 2 ≤ ((g.fence (ep + 1)).mem (ep + 1)).length then (g.fence (ep + 1), ep + 1) else (g, ep))
  else (g.sync ep x.a.toNat, ep)
theorem moreStep_ok {g : Gp} (hg : g.ok) (ep : Nat) (x : Ac) : (moreStep g ep x).1.ok := by
  unfold moreStep
  split
  · exact hg.setU _ _
  split
  · split
    · exact Gp.fence_ok hg _
    · exact hg
  · exact Gp.sync_ok hg _ _
theorem moreStep_ep (g : Gp) (ep : Nat) (x : Ac) : ep ≤ (moreStep g ep x).2 ∧ (moreStep g ep x).2 ≤ ep + 1 := by
  unfold moreStep
  repeat' split
  all_goals (dsimp only; omega)
theorem moreStep_allC {S : Cel → Prop} {g : Gp} (h : AllC S g) (hz : S Cel.zero) (ep : Nat) (x : Ac) : AllC S (moreStep g ep x).1 := by
  unfold moreStep
  split
  · exact h.setU _ _
  split
  · split
    · exact h.fence hz _
    · exact h
  · exact h.sync hz _ _
theorem moreStep_val {g : Gp} (hg : g.ok) (ep : Nat) (x : Ac) (hx : x.a.toNat < 3) {k : Nat} (hk : k < 8) (j : Nat) :
    valG (moreStep g ep x).1 k j = valG g k j ∨ (2 ≤ (g.mem ep).length ∧ valG (moreStep g ep x).1 k j = bestL k (g.frm ep)) := by
  unfold moreStep
  split
  · exact .inl rfl
  split
  · split
    · exact .inl (valG_fence hg _ k j)
    · exact .inl rfl
  · unfold Gp.sync
    split
    · rename_i hs
      rw [valG_setR (by rw [hg.r3]; exact hx)]
      split
      · refine .inr ⟨?_, ?_⟩
        · unfold Gp.syncs at hs
          simp only [Bool.and_eq_true, decide_eq_true_eq] at hs
          exact hs.1.2
        · show (mergeL (g.frm ep)).getD k Cel.zero = _
          exact mergeL_get _ k hk
      · exact .inl rfl
    · exact .inl rfl

/-! ### TopMost -/
structure MInv (c : Cel) (k : Nat) (g : Gp) : Prop where
  all : ∀ i, i < 3 → valG g k i = c ∨ newerB c (valG g k i) = true
  two : ∃ i j, i < j ∧ j < 3 ∧ valG g k i = c ∧ valG g k j = c
theorem bestL_most {c : Cel} {k : Nat} (l : List Rp) (h : ∀ r ∈ l, r.get k = c ∨ newerB c (r.get k) = true) (hz : newerB c Cel.zero = true) (hc : ∃ r ∈ l, r.get k = c) : bestL k l = c := by
  have : ∀ (l : List Rp) (b : Cel), (b = c ∨ newerB c b = true) → (∀ r ∈ l, r.get k = c ∨ newerB c (r.get k) = true) → (b = c ∨ ∃ r ∈ l, r.get k = c) → l.foldl (fun b r => if newerB (r.get k) b then r.get k else b) b = c := by
    intro l
    induction l with
    | nil =>
      intro b _ _ hc
      rcases hc with h | ⟨r, hr, -⟩
      · exact h
      · cases hr
    | cons r l ih =>
      intro b hb hl hc
      have hr := hl r (by simp)
      refine ih _ ?_ (fun q hq => hl q (by simp [hq])) ?_ <;> dsimp only
      · split
        · exact hr
        · exact hb
      · by_cases hbc : b = c
        · left
          subst hbc
          rcases hr with e | e
          · rw [e]; split <;> rfl
          · rw [newer_not e]; rfl
        · rcases hc with e | ⟨q, hq, e⟩
          · exact absurd e hbc
          · rcases List.mem_cons.1 hq with rfl | hq
            · left
              rw [e]
              rcases hb with e2 | e2
              · exact absurd e2 hbc
              · rw [e2]; rfl
            · exact .inr ⟨q, hq, e⟩
  exact this l _ (.inr hz) h (.inr hc)
theorem MInv.best {c : Cel} {k : Nat} {g : Gp} (h : MInv c k g) (hz : newerB c Cel.zero = true) {ep : Int} (hm : 2 ≤ (g.mem ep).length) : bestL k (g.frm ep) = c := by
  refine bestL_most _ (fun r hr => ?_) hz ?_
  · obtain ⟨i, hi, -, rfl⟩ := frm_mem hr
    exact h.all i hi
  · obtain ⟨i, j, hij, hj, hi1, hj1⟩ := h.two
    rcases mem_two hm hij hj with e | e
    · exact ⟨_, mem_frm (by omega) e, hi1⟩
    · exact ⟨_, mem_frm hj e, hj1⟩
theorem MInv.step {c : Cel} {k : Nat} {g : Gp} (h : MInv c k g) (hg : g.ok) (hz : newerB c Cel.zero = true) (hk : k < 8) (ep : Nat) (x : Ac) (hx : x.a.toNat < 3) : MInv c k (moreStep g ep x).1 := by
  have key : ∀ j, valG (moreStep g ep x).1 k j = valG g k j ∨ valG (moreStep g ep x).1 k j = c := by
    intro j
    rcases moreStep_val hg ep x hx hk j with e | ⟨hm, e⟩
    · exact .inl e
    · exact .inr (e.trans (h.best hz hm))
  refine ⟨fun i hi => ?_, ?_⟩
  · rcases key i with e | e
    · rw [e]; exact h.all i hi
    · exact .inl e
  · obtain ⟨i, j, hij, hj, hi1, hj1⟩ := h.two
    refine ⟨i, j, hij, hj, ?_, ?_⟩
    · rcases key i with e | e
      · rw [e, hi1]
      · exact e
    · rcases key j with e | e
      · rw [e, hj1]
      · exact e
/-- to two of the group it is delivered -/
def delTo (g : Gp) (c : Cel) (k : Nat) : Nat → Gp × Nat
  | 0 => (g, 0)
  | i + 1 => if (delTo g c k i).1.delivers i c && decide ((delTo g c k i).2 < 2) then ((delTo g c k i).1.deliver i k c, (delTo g c k i).2 + 1) else delTo g c k i
theorem valG_deliver {g : Gp} {k i j : Nat} {c : Cel} (hi : i < g.r.length) (hk : k < (g.r.getD i Rp.zero).cells.length) (hd : g.delivers i c = true) (hn : newerB c (valG g k i) = true) : valG (g.deliver i k c) k j = if j = i then c else valG g k j := by
  unfold Gp.delivers at hd
  simp only [Bool.and_eq_true, decide_eq_true_eq] at hd
  unfold Gp.deliver
  rw [if_pos hd.1, valG_setR hi]
  split
  · rw [show (g.r.getD i Rp.zero).admitC k c = ⟨(g.r.getD i Rp.zero).floor, (g.r.getD i Rp.zero).cells.set k c⟩ from if_pos ⟨hd.2, hn⟩, Rp.get_set c hk]
  · rfl
theorem delTo_law {g : Gp} (hg : g.ok) {c : Cel} {k : Nat} (hk : k < 8) (hall : ∀ i, i < 3 → newerB c (valG g k i) = true) : ∀ n, n ≤ 3 →
    (delTo g c k n).1.ok ∧ (∀ i, i < 3 → valG (delTo g c k n).1 k i = c ∨ newerB c (valG (delTo g c k n).1 k i) = true) ∧ (∀ i, n ≤ i → valG (delTo g c k n).1 k i = valG g k i) ∧
    (delTo g c k n).2 ≤ 2 ∧ ((delTo g c k n).2 = 1 → ∃ i, i < n ∧ valG (delTo g c k n).1 k i = c) ∧ ((delTo g c k n).2 = 2 → ∃ i j, i < j ∧ j < n ∧ valG (delTo g c k n).1 k i = c ∧ valG (delTo g c k n).1 k j = c)
  | 0, _ => ⟨hg, fun i hi => .inr (hall i hi), fun _ _ => rfl, by simp [delTo], fun h => by simp [delTo] at h, fun h => by simp [delTo] at h⟩
  | n + 1, hn => by
    obtain ⟨ok, h1, h2, h3, h4, h5⟩ := delTo_law hg hk hall n (by omega)
    have e : delTo g c k (n + 1) = if (delTo g c k n).1.delivers n c && decide ((delTo g c k n).2 < 2) then ((delTo g c k n).1.deliver n k c, (delTo g c k n).2 + 1) else delTo g c k n := rfl
    rw [e]
    clear e
    generalize delTo g c k n = p at ok h1 h2 h3 h4 h5 ⊢
    obtain ⟨h, m⟩ := p
    dsimp only at ok h1 h2 h3 h4 h5 ⊢
    split
    · rename_i hc
      simp only [Bool.and_eq_true, decide_eq_true_eq] at hc
      have hv : ∀ j, valG (h.deliver n k c) k j = if j = n then c else valG h k j := fun j =>
        valG_deliver (by rw [ok.r3]; omega) (by rw [Gp.getR ok (by omega)]; exact hk) hc.1 (by rw [h2 n (Nat.le_refl _)]; exact hall n (by omega))
      refine ⟨Gp.deliver_ok ok (by omega) c, fun i hi => ?_, fun i hi => ?_, by dsimp only; omega, fun hm => ?_, fun hm => ?_⟩
      · dsimp only
        rw [hv]; split
        · exact .inl rfl
        · exact h1 i hi
      · dsimp only
        rw [hv, if_neg (by omega)]
        exact h2 i (by omega)
      · dsimp only at hm ⊢
        exact ⟨n, by omega, by rw [hv, if_pos rfl]⟩
      · dsimp only at hm ⊢
        obtain ⟨i, hi, hci⟩ := h4 (by omega)
        exact ⟨i, n, hi, by omega, by rw [hv, if_neg (by omega), hci], by rw [hv, if_pos rfl]⟩
    · exact ⟨ok, h1, fun i hi => h2 i (by omega), h3, fun hm => by obtain ⟨i, hi, e⟩ := h4 hm; exact ⟨i, by omega, e⟩, fun hm => by obtain ⟨i, j, hij, hj, e1, e2⟩ := h5 hm; exact ⟨i, j, hij, by omega, e1, e2⟩⟩
theorem ledAll_bound (l : List Ac) : AllC (fun x => x.e ≤ (ledAll l).ep ∧ x.n ≤ (ledAll l).n) (ledAll l).g ∧ (ledAll l).n ≤ l.length := by
  have : ∀ (l : List Ac) (s : Led), AllC (fun x => x.e ≤ s.ep ∧ x.n ≤ s.n) s.g → AllC (fun x => x.e ≤ (l.foldl ledStep s).ep ∧ x.n ≤ (l.foldl ledStep s).n) (l.foldl ledStep s).g ∧ (l.foldl ledStep s).n ≤ s.n + l.length := by
    intro l
    induction l with
    | nil => intro s h; exact ⟨h, by simp⟩
    | cons x l ih =>
      intro s h
      have hz : ∀ a b : Nat, (fun x : Cel => x.e ≤ (a : Int) ∧ x.n ≤ (b : Int)) Cel.zero := fun a b => by simp [Cel.zero]
      have hs : AllC (fun y => y.e ≤ (ledStep s x).ep ∧ y.n ≤ (ledStep s x).n) (ledStep s x).g ∧ (ledStep s x).n ≤ s.n + 1 := by
        unfold ledStep
        split
        · exact ⟨h, by dsimp only; omega⟩
        split
        · split
          · exact ⟨(h.fence (hz _ _) _).mono (fun y hy => ⟨by have := hy.1; simp; omega, hy.2⟩), by dsimp only; omega⟩
          · exact ⟨h, by omega⟩
        split
        · exact ⟨h.sync (hz _ _) _ _, by dsimp only; omega⟩
        · refine ⟨AllC.deliver (h.mono (fun y hy => ⟨hy.1, by have := hy.2; simp; omega⟩)) (hz s.ep (s.n + 1)) _ _ ⟨by simp, by simp⟩, by dsimp only; omega⟩
      have := ih (ledStep s x) hs.1
      refine ⟨this.1, Nat.le_trans this.2 ?_⟩
      simp only [List.length_cons]
      have := hs.2
      omega
  have := this l ⟨Gp.start, 1, 0⟩ (AllC.start (by simp [Cel.zero]))
  exact ⟨this.1, by have h2 := this.2; rw [Nat.zero_add] at h2; exact h2⟩
end Go.Proofs.Ytclhmpknkinjcaa
