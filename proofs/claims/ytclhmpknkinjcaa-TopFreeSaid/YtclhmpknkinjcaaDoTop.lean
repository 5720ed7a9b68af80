/-
  What is told, who is put out, what is released: plain laws of the program's answer.
-/
import Derived.Test.YtclhmpknkinjcaaDoPlain
import Derived.Test.YtclhmpknkinjcaaLess
import Derived.Test.YtclhmpknkinjcaaSmall
namespace Go.Proofs.Ytclhmpknkinjcaa
open Go.RowKit

theorem pmay_same {s r : St} (h1 : r.regs = s.regs) (h2 : r.typ = s.typ) (h3 : r.holder = s.holder) (who : Int) (b : Bool) : pmay r who b = pmay s who b := by
  unfold pmay holds; rw [h1, h2, h3]
theorem less_zero {s r : St} (h : r.typ = 0) : lessB pmay s r = false :=
  less_false (fun j _ b => by unfold lessAt; rw [pmay_zero_typ r _ b h]; simp)
theorem less_self {s r : St} (h1 : r.regs = s.regs) (h2 : r.typ = s.typ) (h3 : r.holder = s.holder) : lessB pmay s r = false :=
  less_false (fun j _ b => by unfold lessAt; rw [pmay_same h1 h2 h3]; simp)

/-- TopFree -/
theorem do_free {s : St} {c : Cmd} {r : St} {lt : List (Int × Int)} (h : pdo s c = (r, lt, 0)) (hop : c.op = 4 ∨ c.op = 5) :
    lessB pmay s r = false ∧ (c.op = 5 → r.regs.length = 0 ∧ r.typ = 0) ∧ (c.op = 4 → r.regs.length = s.regs.length ∧ (r.typ = 0 ∨ (r.typ = s.typ ∧ holds s c.who = false))) := by
  obtain ⟨r0, hr⟩ := pdo_ok h
  have ha := hr.acts
  obtain ⟨e1, e2, e3, -, -⟩ := hr.res
  rcases hop with h4 | h5
  · have hp : prelease s c = (r0, lt, 0) := by
      unfold pacts at ha
      rw [if_neg (by omega), if_neg (by omega), if_pos h4] at ha; exact ha
    unfold prelease at hp
    split at hp
    · rename_i hh
      cases hp
      exact ⟨less_self e1 e2 e3, fun h => by omega, fun _ => ⟨by rw [e1], .inr ⟨e2, hh⟩⟩⟩
    · split at hp
      · cases hp
      · split at hp
        all_goals
          cases hp
          exact ⟨less_zero e2, fun h => by omega, fun _ => ⟨by rw [e1]; rfl, .inl e2⟩⟩
  · unfold pacts at ha
    rw [if_neg (by omega), if_neg (by omega), if_neg (by omega), if_pos h5] at ha
    cases ha
    exact ⟨less_zero e2, fun _ => ⟨by rw [e1]; rfl, e2⟩, fun h => by omega⟩

/-- TopOut -/
structure OutF (s : St) (c : Cmd) (r : St) : Prop where
  rows : ∀ x ∈ r.regs, ¬ (x.1 ≠ c.who ∧ (x.2 = c.new ∨ c.new = 0)) ∧ keyOf s.regs x.1 = x.2
  self : keyOf r.regs c.who = c.key
  took : ((0 < s.typ ∧ allT s.typ = false ∧ keyOf s.regs s.holder = c.new) ∨ c.new = 0) → holds r c.who = true ∧ r.typ = c.typ
  else' : ¬ ((0 < s.typ ∧ allT s.typ = false ∧ keyOf s.regs s.holder = c.new) ∨ c.new = 0) → r.typ = s.typ ∧ r.holder = s.holder
theorem do_out {s : St} (g : Good s) {c : Cmd} (hc : CmdOk c) {r : St} {lt : List (Int × Int)} (h : pdo s c = (r, lt, 0)) (hop : c.op = 6) : OutF s c r := by
  obtain ⟨r0, hr⟩ := pdo_ok h
  have ha := hr.acts
  obtain ⟨e1, e2, e3, -, -⟩ := hr.res
  obtain ⟨hk1, hk2⟩ := hr.known (by omega)
  have hp : ppreempt s c = (r0, lt, 0) := by
    unfold pacts at ha
    rw [if_neg (by omega), if_neg (by omega), if_neg (by omega), if_neg (by omega), if_pos hop] at ha; exact ha
  have ht := hc.typ (.inr (.inr hop))
  have hregs : r0.regs = putOut s.regs (goneL c.who c.new s.regs) := by
    rcases preempt_ok hp with ⟨-, rfl, -⟩ | ⟨-, -, rfl, -⟩ <;> rfl
  have hself : keyOf r.regs c.who = c.key := by rw [e1, hregs, out_self g]; exact hk2
  refine ⟨fun x hx => ?_, hself, ?_, ?_⟩
  · rw [e1, hregs] at hx
    obtain ⟨h1, h2⟩ := out_mem g hx
    refine ⟨?_, keyOf_in g.sorted x h1⟩
    rintro ⟨h3, h4⟩
    unfold outB at h2
    rw [decide_eq_false_iff_not] at h2
    exact h2 ⟨h3, h4.symm⟩
  · intro htk
    rcases preempt_ok hp with ⟨-, rfl, -⟩ | ⟨hf, hn, rfl, -⟩
    · have et : r.typ = c.typ := e2
      refine ⟨?_, et⟩
      unfold holds
      rw [et, e3]
      have ht' : c.typ = 1 ∨ c.typ = 3 ∨ 5 ≤ c.typ ∧ c.typ ≤ 8 := by simpa [typeMay] using ht
      by_cases h7 : c.typ = 7 ∨ c.typ = 8
      · rw [if_pos h7, hself, decide_eq_true_eq]; exact hk1
      · rw [if_neg h7, decide_eq_true_eq]
        refine ⟨by omega, ?_⟩
        show (if allT c.typ = true then (0 : Int) else c.who) = c.who
        rw [if_neg (by simp [allT]; omega)]
    · exfalso
      rcases htk with ⟨h1, h2, h3⟩ | h1
      · simp [ptakes, h1, h2, h3] at hf
      · exact hn h1
  · intro htk
    rcases preempt_ok hp with ⟨ht2, rfl, -⟩ | ⟨hf, hn, rfl, -⟩
    · exfalso
      apply htk
      unfold ptakes at ht2
      simp only [Bool.or_eq_true, Bool.and_eq_true, decide_eq_true_eq, Bool.not_eq_true'] at ht2
      rcases ht2 with ⟨h1, h2⟩ | ⟨⟨h1, h2⟩, h3⟩
      · exact .inr h2
      · exact .inl ⟨h1, h2, h3⟩
    · exact ⟨e2, e3⟩

/-- what is told to somebody last -/
def toldTo (lt : List (Int × Int)) (who : Int) : Int := lt.foldl (fun t x => if x.1 = who then x.2 else t) 0
theorem toldTo_snoc (lt : List (Int × Int)) (who : Int) (k : Nat) (h : k < lt.length) : toldTo (lt.take (k + 1)) who = if lt[k].1 = who then lt[k].2 else toldTo (lt.take k) who := by
  rw [List.take_succ_eq_append_getElem h]; unfold toldTo; rw [List.foldl_append]; rfl
theorem told_none (who : Int) : ∀ (l : List (Int × Int)) (t : Int), (∀ x ∈ l, x.1 ≠ who) → l.foldl (fun t x => if x.1 = who then x.2 else t) t = t
  | [], _, _ => rfl
  | x :: l, t, h => by
    rw [List.foldl_cons, if_neg (h x (by simp))]
    exact told_none who l t (fun y hy => h y (by simp [hy]))
theorem told_mem (who v : Int) : ∀ (l : List (Int × Int)) (t : Int), l.Pairwise (fun a b => a.1 ≠ b.1) → (who, v) ∈ l → l.foldl (fun t x => if x.1 = who then x.2 else t) t = v
  | x :: l, t, hp, hm => by
    rw [List.pairwise_cons] at hp
    rw [List.foldl_cons]
    rcases List.mem_cons.1 hm with rfl | hm
    · rw [if_pos rfl]
      exact told_none who l v (fun y hy e => hp.1 y hy e.symm)
    · exact told_mem who v l _ hp.2 hm
theorem toldTo_mem {lt : List (Int × Int)} {who v : Int} (hp : lt.Pairwise (fun a b => a.1 ≠ b.1)) (h : (who, v) ∈ lt) : toldTo lt who = v := told_mem who v lt 0 hp h

theorem toldL_mem {l : List Int} {v : Int} {x : Int × Int} (h : x ∈ toldL l v) : x.1 ∈ l ∧ x.2 = v := by
  unfold toldL at h
  obtain ⟨y, hy, rfl⟩ := List.mem_map.1 h
  exact ⟨hy, rfl⟩
theorem toldL_in {l : List Int} {v x : Int} (h : x ∈ l) : (x, v) ∈ toldL l v := List.mem_map.2 ⟨x, h, rfl⟩
theorem toldL_dist {l : List Int} (v : Int) (h : l.Pairwise (· < ·)) : (toldL l v).Pairwise (fun a b => a.1 ≠ b.1) := by
  unfold toldL
  rw [List.pairwise_map]
  exact h.imp (fun h => by dsimp only; omega)
theorem gone_sorted {l : List (Int × Int)} (hp : l.Pairwise (fun a b => a.1 < b.1)) (who key : Int) : (goneL who key l).Pairwise (· < ·) := by
  unfold goneL
  rw [List.pairwise_map]
  exact hp.filter _
theorem gone_in {l : List (Int × Int)} {who key x : Int} (h : x ∈ goneL who key l) : ∃ r ∈ l, r.1 = x ∧ outB who key r = true := by
  unfold goneL at h
  obtain ⟨r, hr, rfl⟩ := List.mem_map.1 h
  obtain ⟨h1, h2⟩ := List.mem_filter.1 hr
  exact ⟨r, h1, rfl, h2⟩
theorem others_in {l : List (Int × Int)} {who : Int} {r : Int × Int} (h : r ∈ l) (hw : r.1 ≠ who) : r.1 ∈ othersL who l := by
  unfold othersL without
  exact List.mem_map.2 ⟨r, List.mem_filter.2 ⟨h, by simpa using hw⟩, rfl⟩

theorem preserve_regs (s : St) (c : Cmd) : (preserve s c).1.regs = s.regs := by unfold preserve; (repeat' split) <;> rfl

/-- TopTold -/
structure ToldF (s t : St) (who : Int) (lt : List (Int × Int)) : Prop where
  mem : ∀ x ∈ lt, x.1 ≠ who ∧ keyOf s.regs x.1 ≠ 0
  dist : lt.Pairwise (fun a b => a.1 ≠ b.1)
  lost : ∀ r ∈ s.regs, r.1 ≠ who → ¬ 0 < keyOf t.regs r.1 → toldTo lt r.1 = 1 ∨ toldTo lt r.1 = 3
theorem ToldF.kept {s t : St} {who : Int} {lt : List (Int × Int)} (g : Good s) (mem : ∀ x ∈ lt, x.1 ≠ who ∧ keyOf s.regs x.1 ≠ 0) (dist : lt.Pairwise (fun a b => a.1 ≠ b.1)) (h : ∀ x, x ≠ who → keyOf t.regs x = keyOf s.regs x) : ToldF s t who lt :=
  ⟨mem, dist, fun r hr hw hk => by
    exfalso
    apply hk
    rw [h _ hw]
    exact g.kpos (keyOf_of_mem s.regs (fun r hr => (g.bounds r hr).2.2.1) r hr)⟩
theorem Good.key_mem {s : St} (g : Good s) {r : Int × Int} (h : r ∈ s.regs) : keyOf s.regs r.1 ≠ 0 := keyOf_of_mem s.regs (fun r hr => (g.bounds r hr).2.2.1) r h
theorem do_told {s : St} (g : Good s) {c : Cmd} {r : St} {lt : List (Int × Int)} (h : pdo s c = (r, lt, 0)) (hop : 1 ≤ c.op) : ToldF s r c.who lt := by
  obtain ⟨r0, hr⟩ := pdo_ok h
  have ha := hr.acts
  have h6 := hr.op
  obtain ⟨e1, e2, e3, -, -⟩ := hr.res
  have nil : ∀ x ∈ ([] : List (Int × Int)), x.1 ≠ c.who ∧ keyOf s.regs x.1 ≠ 0 := fun x hx => by simp at hx
  have oth : ∀ v, ∀ x ∈ toldL (othersL c.who s.regs) v, x.1 ≠ c.who ∧ keyOf s.regs x.1 ≠ 0 := by
    intro v x hx
    obtain ⟨h1, r, hr, e⟩ := others_mem (toldL_mem hx).1
    exact ⟨h1, by rw [← e]; exact g.key_mem hr⟩
  rcases (by omega : (c.op = 1 ∨ c.op = 2) ∨ c.op = 3 ∨ c.op = 4 ∨ c.op = 5 ∨ c.op = 6) with h1 | h1 | h1 | h1 | h1
  · unfold pacts at ha
    rw [if_pos h1] at ha
    have hreg : (pregister s c).1.regs = withL s.regs c.who c.new := by unfold pregister; dsimp only; (repeat' split) <;> rfl
    have hlt : (pregister s c).2 = [] ∨ (pregister s c).2 = toldL (othersL c.who (withL s.regs c.who c.new)) 2 := by
      unfold pregister; dsimp only
      repeat' split
      all_goals (first | exact .inl rfl | exact .inr rfl)
    simp only [Prod.mk.injEq, and_true] at ha
    obtain ⟨a1, a2⟩ := ha
    rw [a1] at hreg
    rw [a2] at hlt
    have hk : ∀ x, x ≠ c.who → keyOf r.regs x = keyOf s.regs x := fun x hx => by rw [e1, hreg]; exact keyOf_with _ _ _ _ hx
    rcases hlt with rfl | rfl
    · exact ToldF.kept g nil List.Pairwise.nil hk
    · rw [others_with]
      exact ToldF.kept g (oth 2) (toldL_dist 2 (others_sorted g.sorted)) hk
  · unfold pacts at ha
    rw [if_neg (by omega), if_pos h1] at ha
    simp only [Prod.mk.injEq] at ha
    obtain ⟨a1, rfl, a3⟩ := ha
    have := (preserve_regs s c)
    rw [a1] at this
    exact ToldF.kept g nil List.Pairwise.nil (fun x _ => by rw [e1, this])
  · unfold pacts at ha
    rw [if_neg (by omega), if_neg (by omega), if_pos h1] at ha
    have hreg : r0.regs = s.regs ∧ (lt = [] ∨ lt = toldL (othersL c.who s.regs) 2) := by
      unfold prelease at ha
      repeat' split at ha
      all_goals (first | (cases ha; done) | (cases ha; exact ⟨rfl, .inl rfl⟩) | (cases ha; exact ⟨rfl, .inr rfl⟩))
    obtain ⟨h2, rfl | rfl⟩ := hreg
    · exact ToldF.kept g nil List.Pairwise.nil (fun x _ => by rw [e1, h2])
    · exact ToldF.kept g (oth 2) (toldL_dist 2 (others_sorted g.sorted)) (fun x _ => by rw [e1, h2])
  · unfold pacts at ha
    rw [if_neg (by omega), if_neg (by omega), if_neg (by omega), if_pos h1] at ha
    cases ha
    exact ⟨oth 3, toldL_dist 3 (others_sorted g.sorted), fun r hr hw _ => .inr (toldTo_mem (toldL_dist 3 (others_sorted g.sorted)) (toldL_in (others_in hr hw)))⟩
  · unfold pacts at ha
    rw [if_neg (by omega), if_neg (by omega), if_neg (by omega), if_neg (by omega), if_pos h1] at ha
    have hgone : ∀ x ∈ toldL (goneL c.who c.new s.regs) 1, x.1 ≠ c.who ∧ keyOf s.regs x.1 ≠ 0 := by
      intro x hx
      obtain ⟨r, hr, e, ho⟩ := gone_in (toldL_mem hx).1
      unfold outB at ho
      rw [decide_eq_true_eq] at ho
      exact ⟨by rw [← e]; exact ho.1, by rw [← e]; exact g.key_mem hr⟩
    have hoth : ∀ x ∈ toldL (othersL c.who (putOut s.regs (goneL c.who c.new s.regs))) 2, x.1 ≠ c.who ∧ keyOf s.regs x.1 ≠ 0 := by
      intro x hx
      obtain ⟨h1, r, hr, e⟩ := others_mem (toldL_mem hx).1
      exact ⟨h1, by rw [← e]; exact g.key_mem (out_mem g hr).1⟩
    have hgs := gone_sorted g.sorted c.who c.new
    have hcross : ∀ x ∈ toldL (goneL c.who c.new s.regs) 1, ∀ y ∈ toldL (othersL c.who (putOut s.regs (goneL c.who c.new s.regs))) 2, x.1 ≠ y.1 := by
      intro x hx y hy exy
      obtain ⟨r, hr, e, ho⟩ := gone_in (toldL_mem hx).1
      obtain ⟨_, q, hq, e'⟩ := others_mem (toldL_mem hy).1
      obtain ⟨hq1, hq2⟩ := out_mem g hq
      have := sorted_inj g.sorted hr hq1 (by rw [e, e']; exact exy)
      rw [this, hq2] at ho
      cases ho
    have hregs : r0.regs = putOut s.regs (goneL c.who c.new s.regs) ∧ (lt = toldL (goneL c.who c.new s.regs) 1 ∨ lt = toldL (goneL c.who c.new s.regs) 1 ++ toldL (othersL c.who (putOut s.regs (goneL c.who c.new s.regs))) 2) := by
      rcases preempt_ok ha with ⟨-, rfl, rfl⟩ | ⟨-, -, rfl, rfl⟩
      · refine ⟨rfl, ?_⟩
        split
        · exact .inr rfl
        · exact .inl (List.append_nil _)
      · exact ⟨rfl, .inl rfl⟩
    obtain ⟨hreg, hlt⟩ := hregs
    have hlost : ∀ x ∈ s.regs, x.1 ≠ c.who → ¬ 0 < keyOf r.regs x.1 → (x.1, 1) ∈ toldL (goneL c.who c.new s.regs) 1 := by
      intro x hx hw hk
      refine toldL_in ?_
      cases ho : outB c.who c.new x
      · exfalso
        apply hk
        rw [e1, hreg, out_list g, keyOf_filter_keep]
        · exact g.kpos (g.key_mem hx)
        · intro y hy e
          rw [sorted_inj g.sorted hy hx e, ho]; rfl
      · unfold goneL
        exact List.mem_map.2 ⟨x, List.mem_filter.2 ⟨hx, ho⟩, rfl⟩
    rcases hlt with rfl | rfl
    · exact ⟨hgone, toldL_dist 1 hgs, fun x hx hw hk => .inl (toldTo_mem (toldL_dist 1 hgs) (hlost x hx hw hk))⟩
    · have hd : (toldL (goneL c.who c.new s.regs) 1 ++ toldL (othersL c.who (putOut s.regs (goneL c.who c.new s.regs))) 2).Pairwise (fun a b => a.1 ≠ b.1) :=
        List.pairwise_append.2 ⟨toldL_dist 1 hgs, toldL_dist 2 (others_sorted (out_good g c.who c.new).2), hcross⟩
      refine ⟨fun x hx => ?_, hd, fun x hx hw hk => .inl (toldTo_mem hd (List.mem_append_left _ (hlost x hx hw hk)))⟩
      rcases List.mem_append.1 hx with h | h
      · exact hgone x h
      · exact hoth x h
end Go.Proofs.Ytclhmpknkinjcaa
