/-
  Contracts: Holds, known, writes, May; the document's Holds, TypeMay, May.
-/
import Derived.Test.YtclhmpknkinjcaaHold
namespace Go.Proofs.Ytclhmpknkinjcaa
open Go.RowKit

theorem holds_any (s : St) (a : Option Addr) (cap : Nat) (who : Int) (w : World) (hr : StR w s a) :
    Calls Try.prog 76 #[stV s a cap, .int .i64 who] w fun e w' => e = .returned (.bool (holds s who)) ∧ Below w.heap.size w w' := by
  have hr1 : ∀ o, StR (w.alloc o) s a := fun o => hr.below (bal w o)
  by_cases ht : s.typ = 7 ∨ s.typ = 8
  · have ha : allT s.typ = true := by simp [allT, ht]
    have hh : holds s who = decide (0 < keyOf s.regs who) := by simp [holds, ht]
    rw [hh]
    clear ht hh
    go_enter Try.func76, Try.ntmps76
    go_wp2_with fail
    refine (all_any s a cap _).mono ?_
    rintro e w1 ⟨rfl, hb1⟩
    obtain ⟨hc, hf⟩ := bcell hb1
    have hr2 := (hr1 _).below hb1
    go_wp2_with fail
    refine (key_any s a cap who _ hr2).mono ?_
    rintro e w2 ⟨rfl, hb2⟩
    go_wp2
    go_ret
    exact ⟨rfl, (bover hb1 (by simp)).trans (hb2.mono (by have := bsz hb1; omega))⟩
  · have ha : allT s.typ = false := by simp [allT, ht]
    have hh : holds s who = decide (0 < s.typ ∧ s.holder = who) := by simp [holds, ht]
    rw [hh]
    clear ht hh
    by_cases hz : 0 < s.typ
    · by_cases hw : s.holder = who
      · subst hw
        go_enter Try.func76, Try.ntmps76
        go_wp2_with fail
        refine (all_any s a cap _).mono ?_
        rintro e w1 ⟨rfl, hb1⟩
        obtain ⟨hc, hf⟩ := bcell hb1
        go_wp2
        go_ret
        exact ⟨ret_bool (by simp [hz]), bover hb1 (by simp)⟩
      · have hw' : (s.holder == who) = false := by simpa using hw
        go_enter Try.func76, Try.ntmps76
        go_wp2_with fail
        refine (all_any s a cap _).mono ?_
        rintro e w1 ⟨rfl, hb1⟩
        obtain ⟨hc, hf⟩ := bcell hb1
        go_wp2
        go_ret
        exact ⟨ret_bool (by simp [hw]), bover hb1 (by simp)⟩
    · go_enter Try.func76, Try.ntmps76
      go_wp2_with fail
      refine (all_any s a cap _).mono ?_
      rintro e w1 ⟨rfl, hb1⟩
      obtain ⟨hc, hf⟩ := bcell hb1
      go_wp2
      go_ret
      exact ⟨ret_bool (by simp; omega), bover hb1 (by simp)⟩

theorem known_any (s : St) (a : Option Addr) (cap : Nat) (w : World) :
    Calls Try.prog 102 #[stV s a cap] w fun e w' => e = .returned (.bool (knownT s.typ)) ∧ Below w.heap.size w w' := by
  obtain ⟨g, l, t, h, st⟩ := s
  go_enter Try.func102, Try.ntmps102
  go_wp2
  go_ret
  exact ⟨rfl, bal w _⟩

theorem writes_any (s : St) (a : Option Addr) (cap : Nat) (w : World) :
    Calls Try.prog 103 #[stV s a cap] w fun e w' => e = .returned (.bool (writesT s.typ)) ∧ Below w.heap.size w w' := by
  obtain ⟨g, l, t, h, st⟩ := s
  dsimp only
  by_cases h1 : t = 1
  · subst h1
    go_enter Try.func103, Try.ntmps103
    go_wp2
    go_ret
    exact ⟨rfl, bal w _⟩
  by_cases h5 : t = 5
  · subst h5
    go_enter Try.func103, Try.ntmps103
    go_wp2
    go_ret
    exact ⟨rfl, bal w _⟩
  by_cases h7 : t = 7
  · subst h7
    go_enter Try.func103, Try.ntmps103
    go_wp2
    go_ret
    exact ⟨rfl, bal w _⟩
  go_enter Try.func103, Try.ntmps103
  go_wp2
  go_ret
  exact ⟨ret_bool (by simp [writesT, h1, h5, h7]), bal w _⟩

theorem may_any (s : St) (a : Option Addr) (cap : Nat) (who : Int) (wr : Bool) (w : World) (hr : StR w s a) :
    Calls Try.prog 64 #[stV s a cap, .int .i64 who, .bool wr] w fun e w' => e = .returned (.bool (pmay s who wr)) ∧ Below w.heap.size w w' := by
  have hr1 : ∀ o, StR (w.alloc o) s a := fun o => hr.below (bal w o)
  by_cases h0 : s.typ = 0
  · have hp : pmay s who wr = true := by simp [pmay, h0]
    rw [hp]
    clear hp
    go_enter Try.func64, Try.ntmps64
    go_wp2
    go_ret
    exact ⟨rfl, bal w _⟩
  have h0' : (s.typ == 0) = false := by simpa using h0
  have hp0 : pmay s who wr = if holds s who = true then true else if 5 ≤ s.typ ∧ 0 < keyOf s.regs who then true else !wr && writesT s.typ := by simp [pmay, h0]
  rw [hp0]
  clear hp0 h0
  by_cases hh : holds s who = true
  · rw [if_pos hh]
    go_enter Try.func64, Try.ntmps64
    go_wp2_with fail
    refine (holds_any s a cap who _ (hr1 _)).mono ?_
    rintro e w1 ⟨rfl, hb1⟩
    obtain ⟨hc, hf⟩ := bcell hb1
    go_wp2
    go_ret
    exact ⟨rfl, bover hb1 (by simp)⟩
  have hh' : holds s who = false := by simpa using hh
  rw [if_neg hh]
  clear hh
  by_cases h5 : 5 ≤ s.typ
  · have hk : knownT s.typ = true := by simp [knownT, h5]
    by_cases hq : 0 < keyOf s.regs who
    · rw [if_pos ⟨h5, hq⟩]
      have hq' : decide (0 < keyOf s.regs who) = true := by simpa using hq
      go_enter Try.func64, Try.ntmps64
      go_wp2_with fail
      refine (holds_any s a cap who _ (hr1 _)).mono ?_
      rintro e w1 ⟨rfl, hb1⟩
      obtain ⟨hc, hf⟩ := bcell hb1
      have hr2 := (hr1 _).below hb1
      go_wp2_with fail
      refine (known_any s a cap _).mono ?_
      rintro e w2 ⟨rfl, hb2⟩
      have hb12 := hb1.trans (hb2.mono (hb1.size))
      obtain ⟨hc', hf'⟩ := bcell hb12
      have hr3 := (hr1 _).below hb12
      clear hc hf
      go_wp2_with fail
      refine (key_any s a cap who _ hr3).mono ?_
      rintro e w3 ⟨rfl, hb3⟩
      go_wp2
      go_ret
      exact ⟨rfl, (bover hb12 (by simp)).trans (hb3.mono (by have := bsz hb12; omega))⟩
    · rw [if_neg (fun h => hq h.2)]
      have hq' : decide (0 < keyOf s.regs who) = false := by simpa using hq
      go_enter Try.func64, Try.ntmps64
      go_wp2_with fail
      refine (holds_any s a cap who _ (hr1 _)).mono ?_
      rintro e w1 ⟨rfl, hb1⟩
      obtain ⟨hc, hf⟩ := bcell hb1
      have hr2 := (hr1 _).below hb1
      go_wp2_with fail
      refine (known_any s a cap _).mono ?_
      rintro e w2 ⟨rfl, hb2⟩
      have hb12 := hb1.trans (hb2.mono (hb1.size))
      obtain ⟨hc', hf'⟩ := bcell hb12
      have hr3 := (hr1 _).below hb12
      clear hc hf
      go_wp2_with fail
      refine (key_any s a cap who _ hr3).mono ?_
      rintro e w3 ⟨rfl, hb3⟩
      have hb13 := hb12.trans (hb3.mono (hb12.size))
      obtain ⟨hc, hf⟩ := bcell hb13
      clear hc' hf'
      cases wr
      · go_wp2_with fail
        refine (writes_any s a cap _).mono ?_
        rintro e w4 ⟨rfl, hb4⟩
        go_wp2
        go_ret
        exact ⟨rfl, (bover hb13 (by simp)).trans (hb4.mono (by have := bsz hb13; omega))⟩
      · go_wp2
        go_ret
        exact ⟨rfl, bover hb13 (by simp)⟩
  · rw [if_neg (fun h => h5 h.1)]
    have hk : knownT s.typ = false := by simp [knownT]; omega
    go_enter Try.func64, Try.ntmps64
    go_wp2_with fail
    refine (holds_any s a cap who _ (hr1 _)).mono ?_
    rintro e w1 ⟨rfl, hb1⟩
    obtain ⟨hc, hf⟩ := bcell hb1
    have hr2 := (hr1 _).below hb1
    go_wp2_with fail
    refine (known_any s a cap _).mono ?_
    rintro e w2 ⟨rfl, hb2⟩
    have hb12 := hb1.trans (hb2.mono (hb1.size))
    obtain ⟨hc', hf'⟩ := bcell hb12
    clear hc hf
    cases wr
    · go_wp2_with fail
      refine (writes_any s a cap _).mono ?_
      rintro e w4 ⟨rfl, hb4⟩
      go_wp2
      go_ret
      exact ⟨rfl, (bover hb12 (by simp)).trans (hb4.mono (by have := bsz hb12; omega))⟩
    · go_wp2
      go_ret
      exact ⟨rfl, bover hb12 (by simp)⟩
end Go.Proofs.Ytclhmpknkinjcaa
