/-
  Contract: SameState of two states that are the same: true.
-/
import Derived.Test.YtamjmejkffhmeaaGreatDoorRep
namespace Go.Proofs.YtamjmejkffhmeaaGreatDoor
open Go.RowKit

set_option maxHeartbeats 1000000 in
set_option maxRecDepth 100000 in
theorem samestate_true (s : St) (a b : Option Addr) (c d : Nat) (w : World) (ha : StR w s a) (hb : StR w s b) :
    Calls Tryz.prog 9 #[stV s a c, stV s b d] w fun e w' => e = .returned (.bool true) ∧ Below w.heap.size w w' := by
  obtain ⟨g, l, t, h, st⟩ := s
  obtain ⟨hl, ha⟩ := ha
  obtain ⟨_, hb⟩ := hb
  unfold maxLen at hl
  dsimp only at hl ha hb
  have q1 : (g != g) = false := by simp
  have q2 : (t != t) = false := by simp
  have q3 : (h != h) = false := by simp
  have q4 : (st != st) = false := by simp
  have q5 : ((l.length : Int) != (l.length : Int)) = false := by simp
  go_enter Tryz.func9, Tryz.ntmps9
  go_wp2
  go_loopw [5] (fun i wr => ∃ k : Nat, k ≤ l.length ∧ i = .int .i64 k ∧ Below (w.heap.size + 2) ((w.alloc (.cells #[.int .i64 g, .slice a l.length c, .int .i64 t, .int .i64 h, .bool st] 24)).alloc (.cells #[.int .i64 g, .slice b l.length d, .int .i64 t, .int .i64 h, .bool st] 24)) wr) (fun i _ => l.length - (intOf i).toNat)
  case atStart => exact ⟨0, by omega, rfl, Below.refl _ _⟩
  case round =>
    obtain ⟨k, hk, rfl, hbw⟩ := hrel
    obtain ⟨⟨e0, e1, e2, e3, e4⟩, f0, f1, f2, f3, f4⟩ := box5 hbw (b := w.heap.size) (by omega) (heap_alloc2_old w _ _)
    obtain ⟨⟨g0, g1, g2, g3, g4⟩, k0, k1, k2, k3, k4⟩ := box5 hbw (b := w.heap.size + 1) (by omega) (heap_alloc2_new w _ _)
    have b0 : Below w.heap.size w wr := bover (bover hbw (by simp)) (by first | (simp; done) | omega)
    by_cases hlt : k < l.length
    · obtain ⟨b1, o1, rfl, hs1, h11, h12⟩ := ha k hlt
      obtain ⟨b2, o2, rfl, hs2, h21, h22⟩ := hb k hlt
      have c11 := (b0.cell (p := ⟨b1, o1 + k * 2, none⟩) hs1).trans h11
      have c12 := (b0.cell (p := ⟨b1, o1 + k * 2 + 1, none⟩) hs1).trans h12
      have c21 := (b0.cell (p := ⟨b2, o2 + k * 2, none⟩) hs2).trans h21
      have c22 := (b0.cell (p := ⟨b2, o2 + k * 2 + 1, none⟩) hs2).trans h22
      clear ha hb h11 h12 h21 h22
      go_wp2
      go_quiet (fail)
      go_wp2
      go_roundw
      case rel => exact ⟨k + 1, by omega, by go_num, below_drewN hbw _⟩
      case measure => simp [intOf]; omega
    · go_wp2
      go_ret
      exact ⟨rfl, b0⟩
end Go.Proofs.YtamjmejkffhmeaaGreatDoor
