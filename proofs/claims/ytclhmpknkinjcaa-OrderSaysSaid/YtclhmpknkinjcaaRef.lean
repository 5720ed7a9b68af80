/-
  Contracts of the document's own functions on states: Holds, TypeMay, May, StateFault; and LightState.
-/
import Derived.Test.YtclhmpknkinjcaaMay
namespace Go.Proofs.Ytclhmpknkinjcaa
open Go.RowKit

theorem rholds_any (s : St) (a : Option Addr) (cap : Nat) (who : Int) (w : World) (hr : StR w s a) :
    Calls Try.prog 96 #[stV s a cap, .int .i64 who] w fun e w' => e = .returned (.bool (holds s who)) ∧ Below w.heap.size w w' := by
  have hr1 : ∀ o, StR (w.alloc o) s a := fun o => hr.below (bal w o)
  by_cases h7 : s.typ = 7
  · have hh : holds s who = decide (0 < keyOf s.regs who) := by simp [holds, h7]
    rw [hh]
    have h7b : (s.typ == 7) = true := by simp [h7]
    clear hh h7
    go_enter Try.func96, Try.ntmps96
    go_wp2_with fail
    refine (rkey_any s a cap who _ (hr1 _)).mono ?_
    rintro e w2 ⟨rfl, hb2⟩
    go_wp2
    go_ret
    exact ⟨rfl, bover hb2 (by simp)⟩
  have h7b : (s.typ == 7) = false := by simp [h7]
  by_cases h8 : s.typ = 8
  · have hh : holds s who = decide (0 < keyOf s.regs who) := by simp [holds, h8]
    rw [hh]
    have h8b : (s.typ == 8) = true := by simp [h8]
    clear hh h8
    go_enter Try.func96, Try.ntmps96
    go_wp2_with fail
    refine (rkey_any s a cap who _ (hr1 _)).mono ?_
    rintro e w2 ⟨rfl, hb2⟩
    go_wp2
    go_ret
    exact ⟨rfl, bover hb2 (by simp)⟩
  have hh : holds s who = decide (0 < s.typ ∧ s.holder = who) := by simp [holds, h7, h8]
  rw [hh]
  have h8b : (s.typ == 8) = false := by simp [h8]
  clear hh
  by_cases hz : 0 < s.typ
  · by_cases hw : s.holder = who
    · subst hw
      go_enter Try.func96, Try.ntmps96
      go_wp2
      go_ret
      exact ⟨ret_bool (by simp [hz]), bal w _⟩
    · have hw' : (s.holder == who) = false := by simpa using hw
      go_enter Try.func96, Try.ntmps96
      go_wp2
      go_ret
      exact ⟨ret_bool (by simp [hw]), bal w _⟩
  · go_enter Try.func96, Try.ntmps96
    go_wp2
    go_ret
    exact ⟨ret_bool (by simp; omega), bal w _⟩

theorem typemay_any (n : Int) (w : World) :
    Calls Try.prog 84 #[.int .i64 n] w fun e w' => e = .returned (.bool (typeMay n)) ∧ w = w' := by
  by_cases h1 : n = 1
  · subst h1
    go_enter Try.func84, Try.ntmps84
    go_wp2
    go_ret
    exact ⟨rfl, rfl⟩
  by_cases h3 : n = 3
  · subst h3
    go_enter Try.func84, Try.ntmps84
    go_wp2
    go_ret
    exact ⟨rfl, rfl⟩
  have h1b : (n == 1) = false := by simp [h1]
  have h3b : (n == 3) = false := by simp [h3]
  by_cases h5 : 5 ≤ n
  · by_cases h8 : n ≤ 8
    · go_enter Try.func84, Try.ntmps84
      go_wp2
      go_ret
      exact ⟨ret_bool (decide_eq_true (by omega)).symm, rfl⟩
    · go_enter Try.func84, Try.ntmps84
      go_wp2
      go_ret
      exact ⟨ret_bool (decide_eq_false (by omega)).symm, rfl⟩
  · go_enter Try.func84, Try.ntmps84
    go_wp2
    go_ret
    exact ⟨ret_bool (decide_eq_false (by omega)).symm, rfl⟩

theorem rmay_any (s : St) (a : Option Addr) (cap : Nat) (who : Int) (wr : Bool) (w : World) (hr : StR w s a) :
    Calls Try.prog 104 #[stV s a cap, .int .i64 who, .bool wr] w fun e w' => e = .returned (.bool (rmay s who wr)) ∧ Below w.heap.size w w' := by
  have hr1 : ∀ o, StR (w.alloc o) s a := fun o => hr.below (bal w o)
  go_enter Try.func104, Try.ntmps104
  go_wp2_with fail
  refine (rholds_any s a cap who _ (hr1 _)).mono ?_
  rintro e w1 ⟨rfl, hb1⟩
  obtain ⟨hc, hf⟩ := bcell hb1
  have hr2 := (hr1 _).below hb1
  go_wp2_with fail
  refine (rkey_any s a cap who _ hr2).mono ?_
  rintro e w2 ⟨rfl, hb2⟩
  have hb12 := hb1.trans (hb2.mono (hb1.size))
  obtain ⟨hc', hf'⟩ := bcell hb12
  clear hc hf
  have fin : ∀ b, b = rmay s who wr → Ending.returned (.bool b) = Ending.returned (.bool (rmay s who wr)) ∧ Below w.heap.size w w2 := fun b h => ⟨ret_bool h, bover hb12 (by simp)⟩
  have FIN := Lib.hid fin
  clear fin
  by_cases h0 : s.typ = 0
  · go_wp2
    go_ret
    exact FIN.out _ (by simp [rmay, h0])
  have h0' : (s.typ == 0) = false := by simpa using h0
  by_cases h1 : s.typ = 1
  · cases hh : holds s who
    · have HH := Lib.hid hh
      go_wp2
      go_ret
      exact FIN.out _ (by simp [rmay, h1, HH.out])
    · have HH := Lib.hid hh
      go_wp2
      go_ret
      exact FIN.out _ (by simp [rmay, h1, HH.out])
  have h1' : (s.typ == 1) = false := by simpa using h1
  by_cases h3 : s.typ = 3
  · go_wp2
    go_ret
    exact FIN.out _ (by simp [rmay, h3])
  have h3' : (s.typ == 3) = false := by simpa using h3
  by_cases h5 : s.typ = 5
  · by_cases hq : 0 < keyOf s.regs who
    · have hq' : decide (0 < keyOf s.regs who) = true := by simpa using hq
      go_wp2
      go_ret
      exact FIN.out _ (by simp [rmay, h5, hq])
    · have hq' : decide (0 < keyOf s.regs who) = false := by simpa using hq
      go_wp2
      go_ret
      exact FIN.out _ (by simp [rmay, h5]; intro h; omega)
  have h5' : (s.typ == 5) = false := by simpa using h5
  by_cases h7 : s.typ = 7
  · by_cases hq : 0 < keyOf s.regs who
    · have hq' : decide (0 < keyOf s.regs who) = true := by simpa using hq
      go_wp2
      go_ret
      exact FIN.out _ (by simp [rmay, h7, hq])
    · have hq' : decide (0 < keyOf s.regs who) = false := by simpa using hq
      go_wp2
      go_ret
      exact FIN.out _ (by simp [rmay, h7]; intro h; omega)
  have h7' : (s.typ == 7) = false := by simpa using h7
  go_wp2
  go_ret
  exact FIN.out _ (by simp [rmay, h0, h1, h3, h5, h7])

theorem light_any (s : St) (a : Option Addr) (cap : Nat) (w : World) :
    Calls Try.prog 55 #[stV s a cap] w fun e w' => e = .returned (.bool (decide (s.regs.length ≤ 6))) ∧ Below w.heap.size w w' := by
  obtain ⟨g, l, t, h, st⟩ := s
  go_enter Try.func55, Try.ntmps55
  go_wp2
  go_ret
  exact ⟨ret_bool (by simp; omega), bal w _⟩
end Go.Proofs.Ytclhmpknkinjcaa
