/-
  Contract of the document's KeyOf.
-/
import Derived.Test.YtamjmejkffhmeaaGreatDoorHold
namespace Go.Proofs.YtamjmejkffhmeaaGreatDoor
open Go.RowKit

theorem rkey_any (s : St) (a : Option Addr) (cap : Nat) (who : Int) (w : World) (hr : StR w s a) :
    Calls Tryz.prog 23 #[stV s a cap, .int .i64 who] w fun e w' => e = .returned (.int .i64 (keyOf s.regs who)) ∧ Below w.heap.size w w' := by
  obtain ⟨g, l, t, h, st⟩ := s
  obtain ⟨hl, hr⟩ := hr
  unfold maxLen at hl
  dsimp only at hl hr
  go_enter Tryz.func23, Tryz.ntmps23
  go_wp2
  go_loop [5] (fun i => ∃ k : Nat, k ≤ l.length ∧ i = .int .i64 k ∧ keyOf (l.drop k) who = keyOf l who) (fun i => l.length - (intOf i).toNat)
  case atStart => exact ⟨0, by omega, rfl, rfl⟩
  case round =>
    obtain ⟨k, hk, rfl, hK⟩ := hrel
    have HK := Lib.hid hK; clear hK
    by_cases hlt : k < l.length
    · obtain ⟨b, o, rfl, hbs, h1, h2⟩ := hr k hlt
      clear hr
      go_wp2
      · have hw : (l[k].1 == who) = true := by assumption
        go_ret
        exact ⟨ret_int (keyOf_hit l k hlt who hw HK.out), bal w _⟩
      · have hw : (l[k].1 == who) = false := by assumption
        go_round
        case rel => exact ⟨k + 1, by omega, by go_num, keyOf_miss l k hlt who hw HK.out⟩
        case measure => simp [intOf]; omega
    · go_wp2
      go_ret
      exact ⟨ret_int (keyOf_end l k (by omega) who HK.out), bal w _⟩
end Go.Proofs.YtamjmejkffhmeaaGreatDoor
