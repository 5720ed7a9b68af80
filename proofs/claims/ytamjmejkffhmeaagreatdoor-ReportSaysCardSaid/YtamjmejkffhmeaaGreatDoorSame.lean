/-
  Contracts: SameNumbers, SameState.
-/
import Derived.Test.YtamjmejkffhmeaaGreatDoorType
namespace Go.Proofs.YtamjmejkffhmeaaGreatDoor
open Go.RowKit

theorem samenumbers_any (l m : List Int) (a b : Option Addr) (c d : Nat) (w : World) (hl : l.length ≤ maxLen) (hm : m.length ≤ maxLen) (ha : Ints w.heap.size w a l) (hb : Ints w.heap.size w b m) :
    Calls Tryz.prog 13 #[.slice a l.length c, .slice b m.length d] w fun e w' => e = .returned (.bool (decide (l = m))) ∧ Below w.heap.size w w' := by
  unfold maxLen at hl hm
  rcases (by omega : l.length = m.length ∨ l.length ≠ m.length) with hlen | hlen
  · have hlb : ((l.length : Int) != (m.length : Int)) = false := by simp [hlen]
    have HLEN := Lib.hid hlen
    clear hlen
    go_enter Tryz.func13, Tryz.ntmps13
    go_wp2
    go_loopw [5] (fun i wr => ∃ k : Nat, k ≤ l.length ∧ i = .int .i64 k ∧ (∀ j (h : j < l.length) (h' : j < m.length), j < k → l[j] = m[j]) ∧ Below w.heap.size w wr) (fun i _ => l.length - (intOf i).toNat)
    case atStart => exact ⟨0, by omega, rfl, fun j _ _ h => absurd h (by omega), Below.refl _ _⟩
    case round =>
      obtain ⟨k, hk, rfl, hK, hbw⟩ := hrel
      have HK := Lib.hid hK
      clear hK
      by_cases hlt : k < l.length
      · have hlt2 : k < m.length := by have := HLEN.out; omega
        obtain ⟨b1, o1, rfl, hs1, h1⟩ := ha k hlt
        obtain ⟨b2, o2, rfl, hs2, h2⟩ := hb k hlt2
        have c1 := (hbw.cell (p := ⟨b1, o1 + k, none⟩) hs1).trans h1
        have c2 := (hbw.cell (p := ⟨b2, o2 + k, none⟩) hs2).trans h2
        clear ha hb h1 h2
        rcases (by omega : l[k] = m[k] ∨ l[k] ≠ m[k]) with he | he
        · have heb : (l[k] != m[k]) = false := by simp [he]
          have hn : ∀ j (h : j < l.length) (h' : j < m.length), j < k + 1 → l[j] = m[j] := by
            intro j h h' hj
            rcases (by omega : j < k ∨ j = k) with h3 | h3
            · exact HK.out j h h' h3
            · subst h3; exact he
          have HN := Lib.hid hn
          clear hn he
          go_wp2
          go_quiet (fail)
          go_wp2
          go_roundw
          case rel => exact ⟨k + 1, by omega, by go_num, HN.out, below_drewN hbw _⟩
          case measure => simp [intOf]; omega
        · have heb : (l[k] != m[k]) = true := by simp [he]
          have hne : decide (l = m) = false := by
            rw [decide_eq_false_iff_not]
            intro e
            subst e
            exact he rfl
          have HNE := Lib.hid hne
          clear hne he
          go_wp2
          go_quiet (fail)
          go_wp2
          go_ret
          exact ⟨ret_bool HNE.out.symm, below_drewN hbw _⟩
      · have he : decide (l = m) = true := by
          rw [decide_eq_true_iff]
          exact List.ext_getElem HLEN.out (fun j h h' => HK.out j h h' (by omega))
        have HE := Lib.hid he
        clear he
        go_wp2
        go_ret
        exact ⟨ret_bool HE.out.symm, hbw⟩
  · have hlb : ((l.length : Int) != (m.length : Int)) = true := by simp; omega
    have hne : decide (l = m) = false := by
      rw [decide_eq_false_iff_not]
      intro e
      exact hlen (by rw [e])
    have HNE := Lib.hid hne
    clear hne hlen
    go_enter Tryz.func13, Tryz.ntmps13
    go_wp2
    go_ret
    exact ⟨ret_bool HNE.out.symm, Below.refl _ _⟩
end Go.Proofs.YtamjmejkffhmeaaGreatDoor
