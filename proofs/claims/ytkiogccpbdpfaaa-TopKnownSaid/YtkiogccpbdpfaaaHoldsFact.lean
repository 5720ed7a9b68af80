/-
  The closed fact 'holds' of the law HoldSays.
-/
import Derived.Test.YtkiogccpbdpfaaaSameErr
import Derived.Test.YtkiogccpbdpfaaaWith
import Derived.Test.YtkiogccpbdpfaaaSmall
namespace Go.Proofs.Ytkiogccpbdpfaaa
open Go.RowKit

theorem with_zero (w : World) : Calls Try.prog 74 #[.agg #[.int .i64 0, .slice none 0 0, .int .i64 0, .int .i64 0, .bool false], .int .i64 2, .int .i64 7] w fun e w' =>
    ∃ a' cap', e = .returned (.agg #[.int .i64 0, .slice a' 1 cap', .int .i64 0, .int .i64 0, .bool false]) ∧ StR w' ⟨0, [(2, 7)], 0, 0, false⟩ a' ∧ Below w.heap.size w w' :=
  (with_any ⟨0, [], 0, 0, false⟩ none 0 2 7 w ⟨by simp, Pairs.nil _ _ _⟩ (by simp) (by omega) (by simp) (by simp)).mono fun e w' ⟨a', cap', h1, h2, h3⟩ => ⟨a', cap', h1, h2, h3⟩

set_option maxRecDepth 100000 in
theorem holdsfact (w : World) : Calls Try.prog 64 #[] w fun e w' => e = .returned (.bool true) ∧ Below w.heap.size w w' := by
  have sf : stateFault ⟨0, [(2, 7)], 0, 0, false⟩ = 0 := rfl
  have kf : keyOf [((2 : Int), (7 : Int))] 2 = 7 := rfl
  have KEY := Lib.hid (fun (a : Option Addr) (cap : Nat) (w : World) (hr : StR w ⟨0, [(2, 7)], 0, 0, false⟩ a) => (key_any ⟨0, [(2, 7)], 0, 0, false⟩ a cap 2 w hr).mono (fun e w' h => (⟨by rw [h.1]; rfl, h.2⟩ : e = .returned (.int .i64 7) ∧ Below w.heap.size w w')))
  have SF := Lib.hid sf
  clear sf kf
  go_enter Try.func64, Try.ntmps64
  go_wp2_with fail
  refine (with_zero _).mono ?_
  rintro e w1 ⟨a1, c1, rfl, hs1, b1⟩
  have hal : ∀ o, StR (w1.alloc o) ⟨0, [(2, 7)], 0, 0, false⟩ a1 := fun o => hs1.below (bal w1 o)
  go_wp2_with fail
  refine (KEY.out a1 c1 _ (hal _)).mono ?_
  rintro e w2 ⟨rfl, b2⟩
  obtain ⟨hc, hf⟩ := bcell b2
  go_wp2_with fail
  refine (check_good ⟨0, [(2, 7)], 0, 0, false⟩ a1 c1 _ ((hal _).below b2) SF.out).mono ?_
  rintro e w3 ⟨rfl, h3⟩
  have b3 := b2.trans (h3.mono b2.size)
  clear hc hf
  obtain ⟨hc, hf⟩ := bcell b3
  go_wp2_with fail
  refine (same_any 0 0 _ (by omega) (by omega)).mono ?_
  rintro e w4 ⟨rfl, h4⟩
  have b4 := b3.trans (h4.mono b3.size)
  go_wp2
  go_ret
  exact ⟨rfl, b1.trans ((bover b4 (by simp)).mono b1.size)⟩
end Go.Proofs.Ytkiogccpbdpfaaa
