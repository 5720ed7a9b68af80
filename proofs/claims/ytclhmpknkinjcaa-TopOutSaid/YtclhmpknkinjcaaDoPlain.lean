/-
  What is asked about who is known and who holds: what holds of the program's answer. No program in sight.
-/
import Derived.Test.YtclhmpknkinjcaaOrdPlain
namespace Go.Proofs.Ytclhmpknkinjcaa
open Go.RowKit

theorem keyOf_filter_keep (x : Int) (p : Int × Int → Bool) : ∀ (l : List (Int × Int)), (∀ r ∈ l, r.1 = x → p r = true) → keyOf (l.filter p) x = keyOf l x
  | [], _ => rfl
  | r :: l, h => by
    have ih := keyOf_filter_keep x p l (fun y hy => h y (by simp [hy]))
    by_cases hr : r.1 = x
    · rw [List.filter_cons_of_pos (h r (by simp) hr)]
      unfold keyOf; rw [if_pos hr, if_pos hr]
    · have e : keyOf (r :: l) x = keyOf l x := by rw [keyOf, if_neg hr]
      rw [e]
      cases hp : p r
      · rw [List.filter_cons_of_neg (by simp [hp])]; exact ih
      · rw [List.filter_cons_of_pos hp, keyOf, if_neg hr]; exact ih
theorem keyOf_in : ∀ {l : List (Int × Int)}, l.Pairwise (fun a b => a.1 < b.1) → ∀ r ∈ l, keyOf l r.1 = r.2
  | x :: l, hp, r, hr => by
    rw [List.pairwise_cons] at hp
    unfold keyOf
    rcases List.mem_cons.1 hr with rfl | h
    · rw [if_pos rfl]
    · have := hp.1 r h
      rw [if_neg (by omega)]
      exact keyOf_in hp.2 r h
theorem keyOf_nil (x : Int) : keyOf [] x = 0 := rfl
theorem ne_nil_of_key {l : List (Int × Int)} {x : Int} (h : keyOf l x ≠ 0) : l ≠ [] := by rintro rfl; exact h rfl

theorem pknown_iff (s : St) (c : Cmd) : pknown s c = true ↔ 0 < c.key ∧ keyOf s.regs c.who = c.key := by
  unfold pknown; rw [Bool.and_eq_true, decide_eq_true_eq, decide_eq_true_eq]

/-- an answer without a fault -/
structure DoOk (s : St) (c : Cmd) (r : St) (lt : List (Int × Int)) (r0 : St) : Prop where
  op : c.op ≤ 6
  one : c.op = 1 → keyOf s.regs c.who = c.key
  known : 2 < c.op → 0 < c.key ∧ keyOf s.regs c.who = c.key
  acts : pacts s c = (r0, lt, 0)
  res : r.regs = r0.regs ∧ r.typ = r0.typ ∧ r.holder = r0.holder ∧ r.stays = r0.stays ∧ (r.gen = r0.gen ∨ r.gen = r0.next.gen)
theorem pdo_ok {s : St} {c : Cmd} {r : St} {lt : List (Int × Int)} (h : pdo s c = (r, lt, 0)) : ∃ r0, DoOk s c r lt r0 := by
  unfold pdo at h
  by_cases h6 : 6 < c.op
  · rw [if_pos h6] at h; cases h
  rw [if_neg h6] at h
  by_cases hd : (c.op = 1 ∧ keyOf s.regs c.who ≠ c.key) ∨ (2 < c.op ∧ pknown s c = false)
  · rw [if_pos hd] at h; cases h
  rw [if_neg hd] at h
  have h1 : c.op = 1 → keyOf s.regs c.who = c.key := fun h => by
    by_cases e : keyOf s.regs c.who = c.key
    · exact e
    · exact absurd (.inl ⟨h, e⟩) hd
  have h2 : 2 < c.op → 0 < c.key ∧ keyOf s.regs c.who = c.key := fun h => by
    cases e : pknown s c
    · exact absurd (.inr ⟨h, e⟩) hd
    · exact (pknown_iff s c).1 e
  by_cases hf : (pacts s c).2.2 ≠ 0
  · rw [if_pos hf] at h
    simp only [Prod.mk.injEq] at h
    exact absurd h.2.2 hf
  rw [if_neg hf] at h
  have hf' : (pacts s c).2.2 = 0 := by omega
  refine ⟨(pacts s c).1, ⟨by omega, h1, h2, ?_, ?_⟩⟩
  · split at h
    · simp only [Prod.mk.injEq] at h; rw [← h.2.1, ← hf']
    · simp only [Prod.mk.injEq] at h; rw [← h.2.1, ← hf']
  · split at h
    · simp only [Prod.mk.injEq] at h; rw [← h.1]; exact ⟨rfl, rfl, rfl, rfl, .inr rfl⟩
    · simp only [Prod.mk.injEq] at h; rw [← h.1]; exact ⟨rfl, rfl, rfl, rfl, .inl rfl⟩
/-- an answer with a fault -/
theorem pdo_bad {s : St} {c : Cmd} {r : St} {lt : List (Int × Int)} {f : Int} (h : pdo s c = (r, lt, f)) (hf : f ≠ 0) : r = St.zero ∧ lt = [] := by
  unfold pdo at h
  split at h
  · cases h; exact ⟨rfl, rfl⟩
  · split at h
    · cases h; exact ⟨rfl, rfl⟩
    · split at h
      · simp only [Prod.mk.injEq] at h; exact ⟨h.1.symm, h.2.1.symm⟩
      · split at h <;> (simp only [Prod.mk.injEq] at h; exact absurd h.2.2.symm hf)
theorem pdo_fault {s : St} {c : Cmd} : 0 ≤ (pdo s c).2.2 := by
  have h1 : 0 ≤ (preserve s c).2 := by unfold preserve; (repeat' split) <;> simp
  have h2 : 0 ≤ (prelease s c).2.2 := by unfold prelease; (repeat' split) <;> simp
  have h3 : 0 ≤ (ppreempt s c).2.2 := by unfold ppreempt; dsimp only; (repeat' split) <;> simp
  have h4 : 0 ≤ (pacts s c).2.2 := by
    unfold pacts
    repeat' split
    all_goals (first | exact Int.le_refl _ | exact h1 | exact h2 | exact h3)
  unfold pdo
  repeat' split
  all_goals (first | exact Int.le_refl _ | exact h4 | decide)

theorem good_free {s : St} (hg : 0 ≤ s.gen ∧ s.gen ≤ 1000000000) (hb : ∀ r ∈ s.regs, 1 ≤ r.1 ∧ r.1 ≤ 4 ∧ 1 ≤ r.2 ∧ r.2 ≤ 999) (hs : s.regs.Pairwise (fun a b => a.1 < b.1)) : Good s.free :=
  ⟨hg, hb, hs, fun _ => rfl, fun h => absurd rfl h, fun h => absurd h (by simp [St.free]), fun h => absurd rfl h⟩
theorem typ_pos {s : St} (g : Good s) (h : s.typ ≠ 0) : 0 < s.typ ∧ s.typ ≤ 8 := by have := g.typ h; simp [typeMay] at this; omega
theorem allT_typ {s : St} (g : Good s) : allT s.typ = true ↔ 7 ≤ s.typ := by rw [allT_ge (typ_or g)]; simp
theorem Good.kpos {s : St} (g : Good s) {x : Int} (h : keyOf s.regs x ≠ 0) : 0 < keyOf s.regs x := by
  have := keyOf_nonneg x s.regs (fun r hr => (g.bounds r hr).2.2.1); omega

theorem good_register {s : St} (g : Good s) {c : Cmd} (hc : CmdOk c) : Good (pregister s c).1 := by
  have hb : ∀ r ∈ withL s.regs c.who c.new, 1 ≤ r.1 ∧ r.1 ≤ 4 ∧ 1 ≤ r.2 ∧ r.2 ≤ 999 := by
    intro r hr
    rcases mem_with hr with ⟨rfl, h⟩ | ⟨h, _⟩
    · have := hc.who; have := hc.new; dsimp only; omega
    · exact g.bounds r h
  have hs := sorted_with c.who c.new g.sorted
  unfold pregister
  dsimp only
  by_cases h1 : 0 < c.new ∨ holds s c.who = false
  · rw [if_pos h1]
    have hk : ∀ x, x ≠ c.who → keyOf (withL s.regs c.who c.new) x = keyOf s.regs x := fun x hx => keyOf_with _ _ _ _ hx
    refine ⟨g.gen, hb, hs, g.zero, g.typ, fun h7 => ⟨(g.all h7).1, ?_⟩, fun h0 h7 => ?_⟩
    · by_cases hn : 0 < c.new
      · exact ne_nil_of_key (x := c.who) (by show keyOf (withL s.regs c.who c.new) c.who ≠ 0; rw [keyOf_with_self _ _ _ (by omega)]; omega)
      · have hh : holds s c.who = false := h1.resolve_left hn
        have h78 : s.typ = 7 ∨ s.typ = 8 := by have := g.typ (by have : 7 ≤ s.typ := h7; omega); have h7' : 7 ≤ s.typ := h7; simp [typeMay] at this; omega
        have hk0 : ¬ 0 < keyOf s.regs c.who := by simpa [holds, h78] using hh
        have hno : ∀ r ∈ s.regs, r.1 ≠ c.who := by
          rintro r hr e
          have h := keyOf_of_mem s.regs (fun r hr => (g.bounds r hr).2.2.1) r hr
          rw [e] at h
          exact hk0 (g.kpos h)
        have e : withL s.regs c.who c.new = s.regs := by unfold withL; rw [if_neg hn]; exact without_all _ _ hno
        show withL s.regs c.who c.new ≠ []
        rw [e]; exact (g.all h7).2
    · show keyOf (withL s.regs c.who c.new) s.holder ≠ 0
      have h0' : s.typ ≠ 0 := h0
      have h7' : s.typ < 7 := h7
      by_cases he : s.holder = c.who
      · by_cases hn : 0 < c.new
        · rw [he, keyOf_with_self _ _ _ (by omega)]; omega
        · have hh : holds s c.who = false := h1.resolve_left hn
          have := typ_pos g h0'
          have h78 : ¬ (s.typ = 7 ∨ s.typ = 8) := by omega
          simp [holds, h78, he] at hh
          omega
      · rw [hk _ he]; exact g.one h0' h7'
  · rw [if_neg h1]
    by_cases h2 : allT s.typ = true ∧ 0 < ((s.withRegs (withL s.regs c.who c.new)).withStays c.stays).regs.length
    · rw [if_pos h2]
      have h7 := (allT_typ g).1 h2.1
      refine ⟨g.gen, hb, hs, g.zero, g.typ, fun _ => ⟨(g.all h7).1, fun e => ?_⟩, fun _ h => ?_⟩
      · have := h2.2; rw [e] at this; simp at this
      · have h' : s.typ < 7 := h; omega
    · rw [if_neg h2]
      split <;> exact good_free (s := (s.withRegs (withL s.regs c.who c.new)).withStays c.stays) g.gen hb hs
theorem good_reserve {s : St} (g : Good s) {c : Cmd} (ht : typeMay c.typ = true) (hk : 0 < c.key ∧ keyOf s.regs c.who = c.key) : Good (preserve s c).1 := by
  unfold preserve
  split
  · split <;> exact g
  · have ht' : c.typ = 1 ∨ c.typ = 3 ∨ 5 ≤ c.typ ∧ c.typ ≤ 8 := by simpa [typeMay] using ht
    refine ⟨g.gen, g.bounds, g.sorted, fun h => ?_, fun _ => ht, fun h => ⟨?_, ?_⟩, fun _ h => ?_⟩
    · have h' : c.typ = 0 := h; omega
    · have h' : 7 ≤ c.typ := h
      show (if allT c.typ = true then (0 : Int) else c.who) = 0
      rw [if_pos (by rw [allT_ge (.inr ht)]; simpa using h')]
    · exact ne_nil_of_key (x := c.who) (by show keyOf s.regs c.who ≠ 0; omega)
    · have h' : c.typ < 7 := h
      show keyOf s.regs (if allT c.typ = true then (0 : Int) else c.who) ≠ 0
      rw [if_neg (by rw [allT_ge (.inr ht)]; simp; omega)]; omega
theorem good_release {s : St} (g : Good s) (c : Cmd) : Good (prelease s c).1 := by
  unfold prelease
  repeat' split
  all_goals (first | exact g | exact good_free g.gen g.bounds g.sorted)

/-- the list behind a preemption -/
theorem out_list {s : St} (g : Good s) (who key : Int) : putOut s.regs (goneL who key s.regs) = s.regs.filter (fun r => !outB who key r) := putOut_gone g.sorted who key
theorem out_mem {s : St} (g : Good s) {who key : Int} {x : Int × Int} (h : x ∈ putOut s.regs (goneL who key s.regs)) : x ∈ s.regs ∧ outB who key x = false := by
  rw [out_list g] at h
  have := List.mem_filter.1 h
  exact ⟨this.1, by simpa using this.2⟩
theorem out_self {s : St} (g : Good s) (who key : Int) : keyOf (putOut s.regs (goneL who key s.regs)) who = keyOf s.regs who := by
  rw [out_list g]
  exact keyOf_filter_keep _ _ _ (fun r _ e => by simp [outB, e])
theorem out_good {s : St} (g : Good s) (who key : Int) : (∀ r ∈ putOut s.regs (goneL who key s.regs), 1 ≤ r.1 ∧ r.1 ≤ 4 ∧ 1 ≤ r.2 ∧ r.2 ≤ 999) ∧ (putOut s.regs (goneL who key s.regs)).Pairwise (fun a b => a.1 < b.1) :=
  ⟨fun r hr => g.bounds r (out_mem g hr).1, by rw [out_list g]; exact g.sorted.filter _⟩

/-- a preemption that goes well: the state, and what is told -/
theorem preempt_ok {s : St} {c : Cmd} {r0 : St} {lt : List (Int × Int)} (h : ppreempt s c = (r0, lt, 0)) :
    (ptakes s c = true ∧ r0 = (s.withRegs (putOut s.regs (goneL c.who c.new s.regs))).free.take c.typ c.who ∧ lt = toldL (goneL c.who c.new s.regs) 1 ++ (if s.typ ≠ c.typ then toldL (othersL c.who (putOut s.regs (goneL c.who c.new s.regs))) 2 else [])) ∨
    (ptakes s c = false ∧ c.new ≠ 0 ∧ r0 = s.withRegs (putOut s.regs (goneL c.who c.new s.regs)) ∧ lt = toldL (goneL c.who c.new s.regs) 1) := by
  unfold ppreempt at h
  split at h
  · cases h
  · rename_i h1
    dsimp only at h
    cases ht : ptakes s c
    · rw [if_pos ht] at h
      split at h
      · cases h
      · cases h; exact .inr ⟨rfl, fun e => h1 ⟨e, ht⟩, rfl, rfl⟩
    · rw [if_neg (by rw [ht]; simp)] at h
      cases h; exact .inl ⟨rfl, rfl, rfl⟩
theorem good_preempt {s : St} (g : Good s) {c : Cmd} (ht : typeMay c.typ = true) (hk : 0 < c.key ∧ keyOf s.regs c.who = c.key) {r0 : St} {lt : List (Int × Int)} (h : ppreempt s c = (r0, lt, 0)) : Good r0 := by
  obtain ⟨hb, hs⟩ := out_good g c.who c.new
  have hself := out_self g c.who c.new
  have ht' : c.typ = 1 ∨ c.typ = 3 ∨ 5 ≤ c.typ ∧ c.typ ≤ 8 := by simpa [typeMay] using ht
  rcases preempt_ok h with ⟨-, rfl, -⟩ | ⟨htk, hn, rfl, -⟩
  · refine ⟨g.gen, hb, hs, fun h => ?_, fun _ => ht, fun h => ⟨?_, ?_⟩, fun _ h => ?_⟩
    · have h' : c.typ = 0 := h; omega
    · have h' : 7 ≤ c.typ := h
      show (if allT c.typ = true then (0 : Int) else c.who) = 0
      rw [if_pos (by rw [allT_ge (.inr ht)]; simpa using h')]
    · exact ne_nil_of_key (x := c.who) (by show keyOf (putOut s.regs (goneL c.who c.new s.regs)) c.who ≠ 0; omega)
    · have h' : c.typ < 7 := h
      show keyOf (putOut s.regs (goneL c.who c.new s.regs)) (if allT c.typ = true then (0 : Int) else c.who) ≠ 0
      rw [if_neg (by rw [allT_ge (.inr ht)]; simp; omega)]; omega
  · refine ⟨g.gen, hb, hs, g.zero, g.typ, fun h => ⟨(g.all h).1, ?_⟩, fun h0 h7 => ?_⟩
    · exact ne_nil_of_key (x := c.who) (by show keyOf (putOut s.regs (goneL c.who c.new s.regs)) c.who ≠ 0; omega)
    · have h0' : s.typ ≠ 0 := h0
      have h7' : s.typ < 7 := h7
      have hp := typ_pos g h0'
      have ha : allT s.typ = false := by
        cases e : allT s.typ
        · rfl
        · have := (allT_typ g).1 e; omega
      have hkn : keyOf s.regs s.holder ≠ c.new := by
        intro e
        simp [ptakes, ha, hp.1, e] at htk
      show keyOf (putOut s.regs (goneL c.who c.new s.regs)) s.holder ≠ 0
      rw [out_list g, keyOf_filter_keep]
      · exact g.one h0' h7'
      · intro r hr e
        have := keyOf_in g.sorted r hr
        rw [e] at this
        have h2 : r.2 ≠ c.new := by rw [← this]; exact hkn
        simp [outB, hn, h2]
theorem good_acts {s : St} (g : Good s) {c : Cmd} (hc : CmdOk c) {r r0 : St} {lt : List (Int × Int)} (h : DoOk s c r lt r0) : Good r0 := by
  have ha := h.acts
  unfold pacts at ha
  split at ha
  · cases ha; exact good_register g hc
  · split at ha
    · rename_i h3
      simp only [Prod.mk.injEq] at ha; rw [← ha.1]
      exact good_reserve g (hc.typ (.inl h3)) (h.known (by omega))
    · split at ha
      · have e : r0 = (prelease s c).1 := by rw [ha]
        rw [e]; exact good_release g c
      · split at ha
        · cases ha
          exact ⟨g.gen, fun r hr => by simp [St.withRegs] at hr, by simp [St.withRegs], fun _ => rfl, fun h => absurd rfl h, fun h => absurd h (by simp [St.withRegs, St.free]), fun h => absurd rfl h⟩
        · split at ha
          · rename_i h6
            exact good_preempt g (hc.typ (.inr (.inr h6))) (h.known (by omega)) ha
          · cases ha; exact g
theorem good_res {s r r0 : St} {c : Cmd} {lt : List (Int × Int)} (h : DoOk s c r lt r0) (g : Good r0) : Good r := by
  obtain ⟨e1, e2, e3, e4, e5⟩ := h.res
  refine ⟨?_, by rw [e1]; exact g.bounds, by rw [e1]; exact g.sorted, by rw [e2, e3]; exact g.zero, by rw [e2]; exact g.typ, by rw [e1, e2, e3]; exact g.all, by rw [e1, e2, e3]; exact g.one⟩
  have := g.gen
  rcases e5 with e | e
  · rw [e]; exact this
  · rw [e]; unfold St.next; dsimp only; split <;> omega

/-- TopOrder -/
theorem do_order {s : St} (g : Good s) {c : Cmd} (hc : CmdOk c) {r : St} {lt : List (Int × Int)} (h : pdo s c = (r, lt, 0)) : Good r ∧ (c.op = 2 ∨ keyOf s.regs c.who = c.key) := by
  obtain ⟨r0, hr⟩ := pdo_ok h
  refine ⟨good_res hr (good_acts g hc hr), ?_⟩
  have := hc.op
  rcases (by omega : c.op = 1 ∨ c.op = 2 ∨ 2 < c.op) with h1 | h1 | h1
  · exact .inr (hr.one h1)
  · exact .inl h1
  · exact .inr (hr.known h1).2
end Go.Proofs.Ytclhmpknkinjcaa
