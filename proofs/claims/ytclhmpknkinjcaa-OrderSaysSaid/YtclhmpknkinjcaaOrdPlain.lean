/-
  What is asked about who is known and who holds: the program's answer and the document's, as plain functions; that they are the same. No program in sight.
-/
import Derived.Test.YtclhmpknkinjcaaKnownPlain
import Derived.Test.YtclhmpknkinjcaaCmdV
namespace Go.Proofs.Ytclhmpknkinjcaa
open Go.RowKit

def St.zero : St := ⟨0, [], 0, 0, false⟩
def St.free (s : St) : St := ⟨s.gen, s.regs, 0, 0, s.stays⟩
def St.take (s : St) (kind who : Int) : St := ⟨s.gen, s.regs, kind, if allT kind then 0 else who, s.stays⟩
def St.withStays (s : St) (b : Bool) : St := ⟨s.gen, s.regs, s.typ, s.holder, b⟩
def St.next (s : St) : St := ⟨if 1000000000 < s.gen + 1 then 0 else s.gen + 1, s.regs, s.typ, s.holder, s.stays⟩
def toldL (l : List Int) (what : Int) : List (Int × Int) := l.map fun w => (w, what)

/-- the program's steps -/
def pregister (s : St) (c : Cmd) : St × List (Int × Int) :=
  let t := (s.withRegs (withL s.regs c.who c.new)).withStays c.stays
  if 0 < c.new ∨ holds s c.who = false then (t, [])
  else if allT s.typ = true ∧ 0 < t.regs.length then (t, [])
  else if s.typ = 5 ∨ s.typ = 6 then (t.free, toldL (othersL c.who t.regs) 2)
  else (t.free, [])
def preserve (s : St) (c : Cmd) : St × Int :=
  if 0 < s.typ then (if holds s c.who = true ∧ s.typ = c.typ then (s, 0) else (s, 4))
  else (s.take c.typ c.who, 0)
def prelease (s : St) (c : Cmd) : St × List (Int × Int) × Int :=
  if holds s c.who = false then (s, [], 0)
  else if s.typ ≠ c.typ then (s, [], 5)
  else if 5 ≤ s.typ then (s.free, toldL (othersL c.who s.regs) 2, 0)
  else (s.free, [], 0)
def outB (who key : Int) (r : Int × Int) : Bool := decide (r.1 ≠ who ∧ (key = 0 ∨ r.2 = key))
def goneL (who key : Int) (l : List (Int × Int)) : List Int := (l.filter (outB who key)).map (·.1)
def putOut (l : List (Int × Int)) (gone : List Int) : List (Int × Int) := gone.foldl (fun l w => withL l w 0) l
def ptakes (s : St) (c : Cmd) : Bool := (allT s.typ && decide (c.new = 0)) || (decide (0 < s.typ) && !allT s.typ && decide (keyOf s.regs s.holder = c.new))
def ppreempt (s : St) (c : Cmd) : St × List (Int × Int) × Int :=
  if c.new = 0 ∧ ptakes s c = false then (s, [], 5)
  else
    let gone := goneL c.who c.new s.regs
    let t := s.withRegs (putOut s.regs gone)
    if ptakes s c = false then
      if gone.length = 0 ∧ keyOf s.regs c.who ≠ c.new then (s, [], 4) else (t, toldL gone 1, 0)
    else (t.free.take c.typ c.who, toldL gone 1 ++ (if s.typ ≠ c.typ then toldL (othersL c.who t.regs) 2 else []), 0)
def pknown (s : St) (c : Cmd) : Bool := decide (0 < c.key) && decide (keyOf s.regs c.who = c.key)
def pacts (s : St) (c : Cmd) : St × List (Int × Int) × Int :=
  if c.op = 1 ∨ c.op = 2 then ((pregister s c).1, (pregister s c).2, 0)
  else if c.op = 3 then ((preserve s c).1, [], (preserve s c).2)
  else if c.op = 4 then prelease s c
  else if c.op = 5 then ((s.free.withRegs []), toldL (othersL c.who s.regs) 3, 0)
  else if c.op = 6 then ppreempt s c
  else (s, [], 0)
def pdo (s : St) (c : Cmd) : St × List (Int × Int) × Int :=
  if 6 < c.op then (St.zero, [], 2)
  else if (c.op = 1 ∧ keyOf s.regs c.who ≠ c.key) ∨ (2 < c.op ∧ pknown s c = false) then (St.zero, [], 4)
  else if (pacts s c).2.2 ≠ 0 then (St.zero, [], (pacts s c).2.2)
  else if c.op ≠ 3 ∧ c.op ≠ 4 then ((pacts s c).1.next, (pacts s c).2.1, 0) else ((pacts s c).1, (pacts s c).2.1, 0)

/-- the document's steps -/
def rregister (s : St) (c : Cmd) : St × List (Int × Int) :=
  let t := (s.withRegs (withL s.regs c.who c.new)).withStays c.stays
  if c.new = 0 ∧ holds s c.who = true then
    if s.typ < 7 then (t.free, if 4 < s.typ then toldL (othersL c.who t.regs) 2 else [])
    else if t.regs.length = 0 then (t.free, []) else (t, [])
  else (t, [])
def rtakes (s : St) (c : Cmd) : Bool := if 7 ≤ s.typ then decide (c.new = 0) else if 0 < s.typ then decide (keyOf s.regs s.holder = c.new) else false
def leftL (who key : Int) (l : List (Int × Int)) : List Int := (l.filter fun r => decide (r.1 ≠ who) && !outB who key r).map (·.1)
def St.rtake (s : St) (kind who : Int) : St := ⟨s.gen, s.regs, kind, if 7 ≤ kind then 0 else who, s.stays⟩
def rpreempt (s : St) (c : Cmd) : Option (St × List (Int × Int)) × Int :=
  if c.new = 0 ∧ rtakes s c = false then (none, 5)
  else if rtakes s c = false ∧ (goneL c.who c.new s.regs).length = 0 ∧ keyOf s.regs c.who ≠ c.new then (none, 4)
  else
    let t := s.withRegs (putOut s.regs (goneL c.who c.new s.regs))
    if rtakes s c = true then (some (t.rtake c.typ c.who, toldL (goneL c.who c.new s.regs) 1 ++ (if s.typ ≠ c.typ then toldL (leftL c.who c.new s.regs) 2 else [])), 0)
    else (some (t, toldL (goneL c.who c.new s.regs) 1), 0)
/-- the document's answer: none where something is wrong -/
def racts (s : St) (c : Cmd) : Option (St × List (Int × Int)) × Int :=
  if c.op = 1 ∨ c.op = 2 then (some (rregister s c), 0)
  else if c.op = 3 then
    if s.typ = 0 then (some (s.rtake c.typ c.who, []), 0)
    else if holds s c.who = false ∨ s.typ ≠ c.typ then (none, 4) else (some (s, []), 0)
  else if c.op = 4 then
    if holds s c.who = true ∧ s.typ ≠ c.typ then (none, 5)
    else if holds s c.who = true then (some (s.free, if 4 < s.typ then toldL (othersL c.who s.regs) 2 else []), 0) else (some (s, []), 0)
  else if c.op = 5 then (some (s.free.withRegs [], toldL (othersL c.who s.regs) 3), 0)
  else if c.op = 6 then
    rpreempt s c
  else (some (s, []), 0)
def rdo (s : St) (c : Cmd) : St × List (Int × Int) × Int :=
  if 6 < c.op then (St.zero, [], 2)
  else if (c.op = 1 ∧ keyOf s.regs c.who ≠ c.key) ∨ (2 < c.op ∧ (c.key = 0 ∨ keyOf s.regs c.who ≠ c.key)) then (St.zero, [], 4)
  else match (racts s c).1 with
    | none => (St.zero, [], (racts s c).2)
    | some x => if c.op ≠ 3 ∧ c.op ≠ 4 then (x.1.next, x.2, 0) else (x.1, x.2, 0)

theorem allT_ge {n : Int} (h : n = 0 ∨ typeMay n = true) : allT n = decide (7 ≤ n) := by
  unfold allT
  rcases h with rfl | h
  · rfl
  · simp [typeMay] at h
    rw [Bool.eq_iff_iff]; simp; omega

/-- who is left behind a preemption: the others of the new list -/
theorem putOut_filter : ∀ (gone : List Int) (l : List (Int × Int)), putOut l gone = l.filter (fun r => !gone.contains r.1)
  | [], l => by show l = _; rw [List.filter_eq_self.2 (by simp)]
  | w :: gone, l => by
    have ih := putOut_filter gone (withL l w 0)
    have e : putOut l (w :: gone) = putOut (withL l w 0) gone := rfl
    rw [e, ih]
    unfold withL
    rw [if_neg (by omega)]
    unfold without
    rw [List.filter_filter]
    congr 1
    funext r
    by_cases h : r.1 = w <;> simp [h]

theorem sorted_inj {l : List (Int × Int)} (hp : l.Pairwise (fun a b => a.1 < b.1)) {a b : Int × Int} (ha : a ∈ l) (hb : b ∈ l) (h : a.1 = b.1) : a = b := by
  induction l with
  | nil => cases ha
  | cons x l ih =>
    rw [List.pairwise_cons] at hp
    rcases List.mem_cons.1 ha with rfl | ha'
    · rcases List.mem_cons.1 hb with rfl | hb'
      · rfl
      · have := hp.1 b hb'; omega
    · rcases List.mem_cons.1 hb with rfl | hb'
      · have := hp.1 a ha'; omega
      · exact ih hp.2 ha' hb'
theorem gone_contains {l : List (Int × Int)} (hp : l.Pairwise (fun a b => a.1 < b.1)) (who key : Int) {r : Int × Int} (hr : r ∈ l) : (goneL who key l).contains r.1 = outB who key r := by
  rw [Bool.eq_iff_iff, List.contains_iff_mem]
  unfold goneL
  rw [List.mem_map]
  constructor
  · rintro ⟨x, hx, e⟩
    obtain ⟨h1, h2⟩ := List.mem_filter.1 hx
    rw [sorted_inj hp hr h1 e.symm]; exact h2
  · intro h
    exact ⟨r, List.mem_filter.2 ⟨hr, h⟩, rfl⟩
theorem putOut_gone {l : List (Int × Int)} (hp : l.Pairwise (fun a b => a.1 < b.1)) (who key : Int) : putOut l (goneL who key l) = l.filter (fun r => !outB who key r) := by
  rw [putOut_filter]
  apply List.filter_congr
  intro r hr
  rw [gone_contains hp who key hr]
theorem left_others {l : List (Int × Int)} (hp : l.Pairwise (fun a b => a.1 < b.1)) (who key : Int) : othersL who (putOut l (goneL who key l)) = leftL who key l := by
  rw [putOut_gone hp]
  unfold othersL leftL without
  rw [List.filter_filter]
  congr 1
  apply List.filter_congr
  intro r _
  by_cases h : r.1 = who <;> simp [h]

/-- what the document asks of a command, as far as order looks at it -/
structure CmdOk (c : Cmd) : Prop where
  op : 1 ≤ c.op ∧ c.op ≤ 9
  who : 1 ≤ c.who ∧ c.who ≤ 4
  key : 0 ≤ c.key ∧ c.key ≤ 999
  new : 0 ≤ c.new ∧ c.new ≤ 999
  typ : c.op = 3 ∨ c.op = 4 ∨ c.op = 6 → typeMay c.typ = true

theorem typ_or {s : St} (g : Good s) : s.typ = 0 ∨ typeMay s.typ = true := by
  by_cases h : s.typ = 0
  · exact .inl h
  · exact .inr (g.typ h)
theorem typ_cases {s : St} (g : Good s) : s.typ = 0 ∨ s.typ = 1 ∨ s.typ = 3 ∨ s.typ = 5 ∨ s.typ = 6 ∨ s.typ = 7 ∨ s.typ = 8 := by
  rcases typ_or g with h | h
  · exact .inl h
  · simp [typeMay] at h; omega
theorem takes_eq {s : St} (g : Good s) (c : Cmd) : ptakes s c = rtakes s c := by
  unfold ptakes rtakes allT
  rcases typ_cases g with h | h | h | h | h | h | h <;> simp [h]
theorem take_eq (s : St) (kind who : Int) (h : typeMay kind = true) : s.take kind who = s.rtake kind who := by
  unfold St.take St.rtake
  rw [allT_ge (.inr h)]
  by_cases h7 : 7 ≤ kind <;> simp [h7]
theorem holds_typ {s : St} {who : Int} (h : holds s who = true) : s.typ ≠ 0 := by
  intro e
  simp [holds, e] at h
theorem register_eq {s : St} (g : Good s) (c : Cmd) (hn : 0 ≤ c.new) : pregister s c = rregister s c := by
  unfold pregister rregister
  by_cases h1 : 0 < c.new
  · simp [h1, (show ¬ c.new = 0 by omega)]
  have h0 : c.new = 0 := by omega
  cases hh : holds s c.who
  · simp
  have hz := holds_typ hh
  simp only [h0, Int.lt_irrefl, false_or, Bool.true_eq_false, if_false, and_self, if_true]
  rcases typ_cases g with h | h | h | h | h | h | h
  · exact absurd h hz
  all_goals simp [h, allT]
  all_goals
    by_cases hl : (St.withStays (s.withRegs (withL s.regs c.who 0)) c.stays).regs = []
    · simp [hl]
    · simp [hl, List.length_pos_iff]
theorem pdo_rdo {s : St} (g : Good s) {c : Cmd} (hc : CmdOk c) : pdo s c = rdo s c := by
  unfold pdo rdo
  by_cases h6 : 6 < c.op
  · rw [if_pos h6, if_pos h6]
  rw [if_neg h6, if_neg h6]
  have hk : pknown s c = false ↔ (c.key = 0 ∨ keyOf s.regs c.who ≠ c.key) := by
    have := hc.key
    unfold pknown
    rw [Bool.and_eq_false_iff]
    simp only [decide_eq_false_iff_not]
    constructor
    · rintro (h | h)
      · exact .inl (by omega)
      · exact .inr h
    · rintro (h | h)
      · exact .inl (by omega)
      · exact .inr h
  have hq2 : ((c.op = 1 ∧ keyOf s.regs c.who ≠ c.key) ∨ (2 < c.op ∧ pknown s c = false)) ↔ ((c.op = 1 ∧ keyOf s.regs c.who ≠ c.key) ∨ (2 < c.op ∧ (c.key = 0 ∨ keyOf s.regs c.who ≠ c.key))) := by rw [hk]
  by_cases hq : (c.op = 1 ∧ keyOf s.regs c.who ≠ c.key) ∨ (2 < c.op ∧ (c.key = 0 ∨ keyOf s.regs c.who ≠ c.key))
  · rw [if_pos (hq2.2 hq), if_pos hq]
  rw [if_neg (fun x => hq (hq2.1 x)), if_neg hq]
  have hop : c.op = 1 ∨ c.op = 2 ∨ c.op = 3 ∨ c.op = 4 ∨ c.op = 5 ∨ c.op = 6 := by have := hc.op; omega
  rcases hop with h | h | h | h | h | h
  · simp [pacts, racts, h, register_eq g c hc.new.1]
  · simp [pacts, racts, h, register_eq g c hc.new.1]
  · have htk := take_eq s c.typ c.who (hc.typ (.inl h))
    rcases typ_cases g with ht | ht | ht | ht | ht | ht | ht <;> simp [pacts, racts, preserve, h, ht, htk]
    all_goals
      by_cases h1 : holds s c.who = true <;> by_cases h2 : s.typ = c.typ <;> simp_all
  · cases h1 : holds s c.who
    · simp [pacts, racts, prelease, h, h1]
    by_cases h2 : s.typ = c.typ
    · by_cases h3 : 4 < s.typ
      · have h5 : 5 ≤ s.typ := by omega
        have e1 : prelease s c = (s.free, toldL (othersL c.who s.regs) 2, 0) := by unfold prelease; rw [if_neg (by rw [h1]; simp), if_neg (by simpa using h2), if_pos h5]
        simp [pacts, racts, h, h1, h2, e1]
        intro; omega
      · have h5 : ¬ 5 ≤ s.typ := by omega
        have e1 : prelease s c = (s.free, [], 0) := by unfold prelease; rw [if_neg (by rw [h1]; simp), if_neg (by simpa using h2), if_neg h5]
        simp [pacts, racts, h, h1, h2, e1]
        simp [← h2, h3]
    · have e1 : prelease s c = (s, [], 5) := by unfold prelease; rw [if_neg (by rw [h1]; simp), if_pos h2]
      simp [pacts, racts, h, h1, h2, e1]
  · simp [pacts, racts, h]
  · have htk := fun s' => take_eq s' c.typ c.who (hc.typ (.inr (.inr h)))
    have hte := takes_eq g c
    have hlo := left_others g.sorted c.who c.new
    have hpa : pacts s c = ppreempt s c := by unfold pacts; rw [if_neg (by omega), if_neg (by omega), if_neg (by omega), if_neg (by omega), if_pos h]
    have hra : racts s c = rpreempt s c := by unfold racts; rw [if_neg (by omega), if_neg (by omega), if_neg (by omega), if_neg (by omega), if_pos h]
    have e : (s.withRegs (putOut s.regs (goneL c.who c.new s.regs))).free.take c.typ c.who = (s.withRegs (putOut s.regs (goneL c.who c.new s.regs))).rtake c.typ c.who := by
      rw [htk]; rfl
    have e2 : othersL c.who (s.withRegs (putOut s.regs (goneL c.who c.new s.regs))).regs = leftL c.who c.new s.regs := hlo
    have hop : c.op ≠ 3 ∧ c.op ≠ 4 := by omega
    rw [hpa, hra, if_pos hop]
    by_cases h2 : c.new = 0 ∧ rtakes s c = false
    · have ep : ppreempt s c = (s, [], 5) := by unfold ppreempt; rw [hte, if_pos h2]
      have er : rpreempt s c = (none, 5) := by unfold rpreempt; rw [if_pos h2]
      rw [ep, er]; simp
    by_cases h1 : rtakes s c = false
    · by_cases h3 : (goneL c.who c.new s.regs).length = 0 ∧ keyOf s.regs c.who ≠ c.new
      · have ep : ppreempt s c = (s, [], 4) := by
          unfold ppreempt; rw [hte, if_neg h2]
          show ite _ _ _ = _
          rw [if_pos h1]
          exact if_pos h3
        have er : rpreempt s c = (none, 4) := by unfold rpreempt; rw [if_neg h2]; exact if_pos ⟨h1, h3⟩
        rw [ep, er]; simp
      · have ep : ppreempt s c = (s.withRegs (putOut s.regs (goneL c.who c.new s.regs)), toldL (goneL c.who c.new s.regs) 1, 0) := by
          unfold ppreempt; rw [hte, if_neg h2]
          show ite _ _ _ = _
          rw [if_pos h1]
          exact if_neg h3
        have er : rpreempt s c = (some (s.withRegs (putOut s.regs (goneL c.who c.new s.regs)), toldL (goneL c.who c.new s.regs) 1), 0) := by
          unfold rpreempt; rw [if_neg h2, if_neg (fun x => h3 x.2)]
          exact if_neg (by rw [h1]; simp)
        rw [ep, er]; simp [hop]
    · have h1' : rtakes s c = true := by simpa using h1
      have ep : ppreempt s c = ((s.withRegs (putOut s.regs (goneL c.who c.new s.regs))).rtake c.typ c.who, toldL (goneL c.who c.new s.regs) 1 ++ (if s.typ ≠ c.typ then toldL (leftL c.who c.new s.regs) 2 else []), 0) := by
        rw [← e, ← e2]
        unfold ppreempt; rw [hte, if_neg h2]
        show ite _ _ _ = _
        exact if_neg h1
      have er : rpreempt s c = (some ((s.withRegs (putOut s.regs (goneL c.who c.new s.regs))).rtake c.typ c.who, toldL (goneL c.who c.new s.regs) 1 ++ (if s.typ ≠ c.typ then toldL (leftL c.who c.new s.regs) 2 else [])), 0) := by
        unfold rpreempt; rw [if_neg h2, if_neg (fun x => h1 x.1)]
        exact if_pos h1'
      rw [ep, er]; simp [hop]
end Go.Proofs.Ytclhmpknkinjcaa
