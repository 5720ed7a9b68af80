/-
  Contracts: SameNumbers and same, over few types (for a seat without states' functions).
-/
import Derived.Test.YtfoffeejcnlilaaDoorRep
import Derived.LaidEql
import Derived.Deep.QuietTactic
import Derived.BigQuiet
namespace Go.Proofs.YtfoffeejcnlilaaDoor
open Go.RowKit

def errV (f : Int) : Value := if f = 0 then .nilIface else .iface 23 (.int .i64 f)
theorem errV_nil : errV 0 = .nilIface := rfl
theorem errV_some {f : Int} (h : f ≠ 0) : errV f = .iface 23 (.int .i64 f) := by unfold errV; rw [if_neg h]
/-- a slice of integers below block B -/
def Ints (B : Nat) (w : World) (a : Option Addr) (l : List Int) : Prop :=
  ∀ i (h : i < l.length), ∃ b o, a = some ⟨b, o, none⟩ ∧ b < B ∧ w.cell? ⟨b, o + i, none⟩ = some (.int .i64 l[i])

theorem Ints.below {B C : Nat} {w w' : World} {a : Option Addr} {l : List Int} (h : Ints B w a l) (hb : Below C w w') (hBC : B ≤ C) : Ints B w' a l := by
  intro i hi
  obtain ⟨b, o, rfl, hbB, h1⟩ := h i hi
  exact ⟨b, o, rfl, hbB, (hb.cell (p := ⟨b, o + i, none⟩) (by show b < C; omega)).trans h1⟩

theorem Ints.mono {B C : Nat} {w : World} {a : Option Addr} {l : List Int} (h : Ints B w a l) (hBC : B ≤ C) : Ints C w a l := by
  intro i hi
  obtain ⟨b, o, rfl, hbB, h1⟩ := h i hi
  exact ⟨b, o, rfl, by omega, h1⟩

theorem Ints.nil (B : Nat) (w : World) (a : Option Addr) : Ints B w a [] := fun i hi => absurd hi (by simp)

theorem samenumbers_any (l m : List Int) (a b : Option Addr) (c d : Nat) (w : World) (hl : l.length ≤ maxLen) (hm : m.length ≤ maxLen) (ha : Ints w.heap.size w a l) (hb : Ints w.heap.size w b m) :
    Calls Tryd.prog 6 #[.slice a l.length c, .slice b m.length d] w fun e w' => e = .returned (.bool (decide (l = m))) ∧ Below w.heap.size w w' := by
  unfold maxLen at hl hm
  rcases (by omega : l.length = m.length ∨ l.length ≠ m.length) with hlen | hlen
  · have hlb : ((l.length : Int) != (m.length : Int)) = false := by simp [hlen]
    have HLEN := Lib.hid hlen
    clear hlen
    go_enter Tryd.func6, Tryd.ntmps6
    go_wp2
    go_loopw [5] (fun i wr => ∃ k : Nat, k ≤ l.length ∧ i = .int .i64 k ∧ (∀ j (h : j < l.length) (h' : j < m.length), j < k → l[j] = m[j]) ∧ Below w.heap.size w wr) (fun i _ => l.length - (intOf i).toNat)
    case atStart => exact ⟨0, by omega, rfl, fun j _ _ h => absurd h (by omega), Below.refl _ _⟩
    case round =>
      obtain ⟨k, hk, rfl, hK, hbw⟩ := hrel
      have HK := Lib.hid hK
      clear hK
      by_cases hlt : k < l.length
      · have hlt2 : k < m.length := by have := HLEN.out; omega
        obtain ⟨b1, o1, rfl, hs1, h1⟩ := ha k hlt
        obtain ⟨b2, o2, rfl, hs2, h2⟩ := hb k hlt2
        have c1 := (hbw.cell (p := ⟨b1, o1 + k, none⟩) hs1).trans h1
        have c2 := (hbw.cell (p := ⟨b2, o2 + k, none⟩) hs2).trans h2
        clear ha hb h1 h2
        rcases (by omega : l[k] = m[k] ∨ l[k] ≠ m[k]) with he | he
        · have heb : (l[k] != m[k]) = false := by simp [he]
          have hn : ∀ j (h : j < l.length) (h' : j < m.length), j < k + 1 → l[j] = m[j] := by
            intro j h h' hj
            rcases (by omega : j < k ∨ j = k) with h3 | h3
            · exact HK.out j h h' h3
            · subst h3; exact he
          have HN := Lib.hid hn
          clear hn he
          go_wp2
          go_quiet (fail)
          go_wp2
          go_roundw
          case rel => exact ⟨k + 1, by omega, by go_num, HN.out, below_drewN hbw _⟩
          case measure => simp [intOf]; omega
        · have heb : (l[k] != m[k]) = true := by simp [he]
          have hne : decide (l = m) = false := by
            rw [decide_eq_false_iff_not]
            intro e
            subst e
            exact he rfl
          have HNE := Lib.hid hne
          clear hne he
          go_wp2
          go_quiet (fail)
          go_wp2
          go_ret
          exact ⟨ret_bool HNE.out.symm, below_drewN hbw _⟩
      · have he : decide (l = m) = true := by
          rw [decide_eq_true_iff]
          exact List.ext_getElem HLEN.out (fun j h h' => HK.out j h h' (by omega))
        have HE := Lib.hid he
        clear he
        go_wp2
        go_ret
        exact ⟨ret_bool HE.out.symm, hbw⟩
  · have hlb : ((l.length : Int) != (m.length : Int)) = true := by simp; omega
    have hne : decide (l = m) = false := by
      rw [decide_eq_false_iff_not]
      intro e
      exact hlen (by rw [e])
    have HNE := Lib.hid hne
    clear hne hlen
    go_enter Tryd.func6, Tryd.ntmps6
    go_wp2
    go_ret
    exact ⟨ret_bool HNE.out.symm, Below.refl _ _⟩
theorem assert_errno (w : World) (v : Value) : (Instr.typeAssert (.iface 23 v) 27 23 true).run Tryd.prog w = .ok (.tuple #[v, .bool true]) w := by kernel_rfl

set_option maxRecDepth 100000 in
theorem same_any (f g : Int) (w : World) (hf : 0 ≤ f) (hg : 0 ≤ g) :
    Calls Tryd.prog 5 #[errV f, .int .i64 g] w fun e w' => e = .returned (.bool (decide (f = g))) ∧ Below w.heap.size w w' := by
  rcases (by omega : f = 0 ∨ f ≠ 0) with rfl | h0
  · rw [errV_nil]
    rcases (by omega : g = 0 ∨ g ≠ 0) with rfl | he
    · go_enter Tryd.func5, Tryd.ntmps5
      go_wp2
      go_ret
      exact ⟨rfl, Below.refl _ _⟩
    · have q : (g == 0) = false := by simp [he]
      have HE := Lib.hid he
      clear he
      go_enter Tryd.func5, Tryd.ntmps5
      go_wp2
      go_ret
      exact ⟨ret_bool (by have := HE.out; symm; rw [decide_eq_false_iff_not]; omega), Below.refl _ _⟩
  · rw [errV_some h0]
    have H0 := Lib.hid h0
    have hta := fun w => assert_errno w (.int .i64 f)
    clear h0
    rcases (by omega : g ≤ 0 ∨ 0 < g) with hz | hz
    · go_enter Tryd.func5, Tryd.ntmps5
      go_wp2
      go_ret
      exact ⟨ret_bool (by have := H0.out; symm; rw [decide_eq_false_iff_not]; omega), Below.refl _ _⟩
    · rcases (by omega : f = g ∨ f ≠ g) with he | he
      · subst he
        have q : (f == f) = true := by simp
        go_enter Tryd.func5, Tryd.ntmps5
        go_wp2
        go_ret
        exact ⟨ret_bool (by simp), Below.refl _ _⟩
      · have q : (f == g) = false := by simp [he]
        have HE := Lib.hid he
        clear he
        go_enter Tryd.func5, Tryd.ntmps5
        go_wp2
        go_ret
        exact ⟨ret_bool (by have := HE.out; symm; rw [decide_eq_false_iff_not]; exact this), Below.refl _ _⟩
end Go.Proofs.YtfoffeejcnlilaaDoor
