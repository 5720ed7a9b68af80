/-
  Contract: SameState of any two states: it answers.
-/
import Derived.Test.YtkedmlkbepjnfaaGreatDoorSameState
namespace Go.Proofs.YtkedmlkbepjnfaaGreatDoor
open Go.RowKit

def SomeBool (w : World) (e : Ending) (w' : World) : Prop := (∃ b : Bool, e = .returned (.bool b)) ∧ Below w.heap.size w w'
theorem SomeBool.mk {w w' : World} (b : Bool) (h : Below w.heap.size w w') : SomeBool w (.returned (.bool b)) w' := ⟨⟨b, rfl⟩, h⟩
theorem bne_false' {x y : Int} (h : x = y) : (x != y) = false := by simp [h]
theorem bne_true' {x y : Int} (h : ¬ x = y) : (x != y) = true := by simp [h]
set_option maxHeartbeats 4000000 in
set_option maxRecDepth 100000 in
theorem samestate_some (s s2 : St) (a b : Option Addr) (c d : Nat) (w : World) (ha : StR w s a) (hb : StR w s2 b) :
    Calls Tryz.prog 13 #[stV s a c, stV s2 b d] w fun e w' => SomeBool w e w' := by
  obtain ⟨g, l, t, h, st⟩ := s
  obtain ⟨g2, l2, t2, h2, st2⟩ := s2
  obtain ⟨hl, ha⟩ := ha
  obtain ⟨_, hb⟩ := hb
  unfold maxLen at hl
  dsimp only at hl ha hb
  have B2 := fun o1 o2 => (bal w o1).trans ((bal (w.alloc o1) o2).mono (by simp : w.heap.size ≤ (w.alloc o1).heap.size))
  by_cases e1 : g = g2
  · have q1 := bne_false' e1
    by_cases e2 : t = t2
    · have q2 := bne_false' e2
      by_cases e3 : h = h2
      · have q3 := bne_false' e3
        by_cases e4 : st = st2
        · subst e4
          have q4 : (st != st) = false := by simp
          by_cases e5 : l.length = l2.length
          · obtain ⟨N, hN1⟩ : ∃ N, N = l.length := ⟨_, rfl⟩
            have hN2 : N = l2.length := hN1.trans e5
            have H1 := Lib.hid hN1
            have H2 := Lib.hid hN2
            have q5 : ((N : Int) != (N : Int)) = false := by simp
            unfold stV
            dsimp only
            rw [← hN1, ← hN2]
            rw [← hN1] at hl
            clear e1 e2 e3 e5 hN1 hN2
            go_enter Tryz.func13, Tryz.ntmps13
            go_wp2
            go_loopw [5] (fun i wr => ∃ k : Nat, k ≤ N ∧ i = .int .i64 k ∧ Below (w.heap.size + 2) ((w.alloc (.cells #[.int .i64 g, .slice a N c, .int .i64 t, .int .i64 h, .bool st] 37)).alloc (.cells #[.int .i64 g2, .slice b N d, .int .i64 t2, .int .i64 h2, .bool st] 37)) wr) (fun i _ => N - (intOf i).toNat)
            case atStart => exact ⟨0, by omega, rfl, Below.refl _ _⟩
            case round =>
              obtain ⟨k, hk, rfl, hbw⟩ := hrel
              obtain ⟨⟨e0, e1, e2, e3, e4⟩, f0, f1, f2, f3, f4⟩ := box5 hbw (b := w.heap.size) (by omega) (heap_alloc2_old w _ _)
              obtain ⟨⟨g0, g1, g2, g3, g4⟩, k0, k1, k2, k3, k4⟩ := box5 hbw (b := w.heap.size + 1) (by omega) (heap_alloc2_new w _ _)
              have b0 : Below w.heap.size w wr := bover (bover hbw (by simp)) (by first | (simp; done) | omega)
              by_cases hlt : k < N
              · have hl1 : k < l.length := by rw [← H1.out]; exact hlt
                have hl2 : k < l2.length := by rw [← H2.out]; exact hlt
                obtain ⟨b1, o1, rfl, hs1, h11, h12⟩ := ha k hl1
                obtain ⟨b2, o2, rfl, hs2, h21, h22⟩ := hb k hl2
                have c11 := (b0.cell (p := ⟨b1, o1 + k * 2, none⟩) hs1).trans h11
                have c12 := (b0.cell (p := ⟨b1, o1 + k * 2 + 1, none⟩) hs1).trans h12
                have c21 := (b0.cell (p := ⟨b2, o2 + k * 2, none⟩) hs2).trans h21
                have c22 := (b0.cell (p := ⟨b2, o2 + k * 2 + 1, none⟩) hs2).trans h22
                obtain ⟨u1, hu1⟩ : ∃ u, l[k].1 = u := ⟨_, rfl⟩
                obtain ⟨u2, hu2⟩ : ∃ u, l[k].2 = u := ⟨_, rfl⟩
                obtain ⟨v1, hv1⟩ : ∃ u, (l2[k]'hl2).1 = u := ⟨_, rfl⟩
                obtain ⟨v2, hv2⟩ : ∃ u, (l2[k]'hl2).2 = u := ⟨_, rfl⟩
                rw [hu1] at c11; rw [hu2] at c12; rw [hv1] at c21; rw [hv2] at c22
                clear ha hb h11 h12 h21 h22 hu1 hu2 hv1 hv2 hl1 hl2
                by_cases y1 : u1 = v1
                · by_cases y2 : u2 = v2
                  · subst y1; subst y2
                    go_wp2
                    go_quiet (fail)
                    go_wp2
                    go_roundw
                    case rel => exact ⟨k + 1, by omega, by go_num, below_drewN hbw _⟩
                    case measure => simp [intOf]; omega
                  · go_wp2
                    go_quiet (fail)
                    go_wp2
                    go_ret
                    exact SomeBool.mk false (below_drewN b0 _)
                · go_wp2
                  go_quiet (fail)
                  go_wp2
                  go_ret
                  exact SomeBool.mk false (below_drewN b0 _)
              · go_wp2
                go_ret
                exact SomeBool.mk true b0
          · have q5 : ((l.length : Int) != (l2.length : Int)) = true := by simp; omega
            clear e1 e2 e3 e5
            go_enter Tryz.func13, Tryz.ntmps13
            go_wp2
            go_ret
            exact SomeBool.mk false (B2 _ _)
        · clear e1 e2 e3
          cases st <;> cases st2 <;> first | exact absurd rfl e4 | (clear e4; go_enter Tryz.func13, Tryz.ntmps13; go_wp2; go_ret; exact SomeBool.mk false (B2 _ _))
      · have q3 := bne_true' e3
        clear e1 e2 e3
        go_enter Tryz.func13, Tryz.ntmps13
        go_wp2
        go_ret
        exact SomeBool.mk false (B2 _ _)
    · have q2 := bne_true' e2
      clear e1 e2
      go_enter Tryz.func13, Tryz.ntmps13
      go_wp2
      go_ret
      exact SomeBool.mk false (B2 _ _)
  · have q1 := bne_true' e1
    clear e1
    go_enter Tryz.func13, Tryz.ntmps13
    go_wp2
    go_ret
    exact SomeBool.mk false (B2 _ _)
end Go.Proofs.YtkedmlkbepjnfaaGreatDoor
