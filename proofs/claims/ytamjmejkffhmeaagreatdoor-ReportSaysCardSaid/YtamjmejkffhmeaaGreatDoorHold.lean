/-
  Contracts: Key, KeyOf, All, Holds, known, writes, May.
-/
import Derived.Test.YtamjmejkffhmeaaGreatDoorRep
namespace Go.Proofs.YtamjmejkffhmeaaGreatDoor
open Go.RowKit

theorem keyOf_hit (l : List (Int × Int)) (k : Nat) (h : k < l.length) (who : Int) (hw : (l[k].1 == who) = true) (hk : keyOf (l.drop k) who = keyOf l who) : l[k].2 = keyOf l who := by
  rw [← hk, List.drop_eq_getElem_cons h]; simp at hw; simp [keyOf, hw]
theorem keyOf_miss (l : List (Int × Int)) (k : Nat) (h : k < l.length) (who : Int) (hw : (l[k].1 == who) = false) (hk : keyOf (l.drop k) who = keyOf l who) : keyOf (l.drop (k+1)) who = keyOf l who := by
  rw [← hk, List.drop_eq_getElem_cons h]; simp at hw; simp [keyOf, hw]
theorem keyOf_end (l : List (Int × Int)) (k : Nat) (h : l.length ≤ k) (who : Int) (hk : keyOf (l.drop k) who = keyOf l who) : (0 : Int) = keyOf l who := by
  rw [← hk, List.drop_of_length_le h]; rfl

theorem key_any (s : St) (a : Option Addr) (cap : Nat) (who : Int) (w : World) (hr : StR w s a) :
    Calls Tryz.prog 35 #[stV s a cap, .int .i64 who] w fun e w' => e = .returned (.int .i64 (keyOf s.regs who)) ∧ Below w.heap.size w w' := by
  obtain ⟨g, l, t, h, st⟩ := s
  obtain ⟨hl, hr⟩ := hr
  unfold maxLen at hl
  dsimp only at hl hr
  go_enter Tryz.func35, Tryz.ntmps35
  go_wp2
  go_loopw [10] (fun i wr => ∃ k : Nat, k ≤ l.length ∧ i = .int .i64 k ∧ keyOf (l.drop k) who = keyOf l who ∧ Below (w.heap.size + 1) (w.alloc (.cells #[.int .i64 g, .slice a l.length cap, .int .i64 t, .int .i64 h, .bool st] 24)) wr) (fun i _ => l.length - (intOf i).toNat)
  case atStart => exact ⟨0, by omega, rfl, rfl, Below.refl _ _⟩
  case round =>
    obtain ⟨k, hk, rfl, hK, hb⟩ := hrel
    have HK := Lib.hid hK; clear hK
    have hs := bsz hb
    by_cases hlt : k < l.length
    · obtain ⟨b, o, rfl, hbs, h1, h2⟩ := hr k hlt
      have c1 := ((bover hb (by omega)).cell (p := ⟨b, o + k * 2, none⟩) hbs).trans h1
      have c2 := ((bover hb (by omega)).cell (p := ⟨b, o + k * 2 + 1, none⟩) hbs).trans h2
      clear hr
      go_wp2
      · have hw : (l[k].1 == who) = true := by assumption
        go_ret
        exact ⟨ret_int (keyOf_hit l k hlt who hw HK.out), (bover hb (by omega)).trans ((bal wr _).mono (by omega))⟩
      · have hw : (l[k].1 == who) = false := by assumption
        go_roundw
        case rel => exact ⟨k + 1, by omega, by go_num, keyOf_miss l k hlt who hw HK.out, hb.alloc (by omega) _⟩
        case measure => simp [intOf]; omega
    · go_wp2
      go_ret
      exact ⟨ret_int (keyOf_end l k (by omega) who HK.out), bover hb (by omega)⟩

theorem all_any (s : St) (a : Option Addr) (cap : Nat) (w : World) :
    Calls Tryz.prog 34 #[stV s a cap] w fun e w' => e = .returned (.bool (allT s.typ)) ∧ Below w.heap.size w w' := by
  obtain ⟨g, l, t, h, st⟩ := s
  dsimp only
  by_cases h7 : t = 7
  · subst h7
    go_enter Tryz.func34, Tryz.ntmps34
    go_wp2
    go_ret
    exact ⟨rfl, bal w _⟩
  · by_cases h8 : t = 8
    · subst h8
      go_enter Tryz.func34, Tryz.ntmps34
      go_wp2
      go_ret
      exact ⟨rfl, bal w _⟩
    · go_enter Tryz.func34, Tryz.ntmps34
      go_wp2
      go_ret
      exact ⟨ret_bool (by simp [allT, h7, h8]), bal w _⟩
end Go.Proofs.YtamjmejkffhmeaaGreatDoor
