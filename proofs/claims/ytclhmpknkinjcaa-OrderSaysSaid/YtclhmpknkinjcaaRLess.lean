/-
  Contracts: the document's Lessened, CommandFault (as far as order needs it).
-/
import Derived.Test.YtclhmpknkinjcaaLess
import Derived.Test.YtclhmpknkinjcaaOrdPlain
namespace Go.Proofs.Ytclhmpknkinjcaa
open Go.RowKit

set_option maxRecDepth 100000 in
set_option maxHeartbeats 2000000 in
theorem rless_any (s t : St) (a b : Option Addr) (cap cbp : Nat) (w : World) (hs : StR w s a) (ht : StR w t b) :
    Calls Try.prog 65 #[stV s a cap, stV t b cbp] w fun e w' => e = .returned (.bool (lessB rmay s t)) ∧ Below w.heap.size w w' := by
  have HS := Lib.hid hs
  have HT := Lib.hid ht
  clear hs ht
  go_enter Try.func65, Try.ntmps65
  go_wp2
  go_loopw [5, 6] (fun i _ wr => ∃ k : Nat, k ≤ 4 ∧ i = .int .i64 ((k : Int) + 1) ∧ (∀ j : Nat, j < k → ∀ b, lessAt rmay s t ((j : Int) + 1) b = false) ∧ Below ((w.alloc (.cells #[.int .i64 s.gen, .slice a s.regs.length cap, .int .i64 s.typ, .int .i64 s.holder, .bool s.stays] 47)).alloc (.cells #[.int .i64 t.gen, .slice b t.regs.length cbp, .int .i64 t.typ, .int .i64 t.holder, .bool t.stays] 47)).heap.size ((w.alloc (.cells #[.int .i64 s.gen, .slice a s.regs.length cap, .int .i64 s.typ, .int .i64 s.holder, .bool s.stays] 47)).alloc (.cells #[.int .i64 t.gen, .slice b t.regs.length cbp, .int .i64 t.typ, .int .i64 t.holder, .bool t.stays] 47)) wr) (fun i _ _ => (5 - intOf i).toNat)
  case atStart => exact ⟨0, by omega, rfl, fun j hj => by omega, Below.refl _ _⟩
  case round =>
    obtain ⟨k, hk, rfl, hN, hb⟩ := hrel
    have HN := Lib.hid hN
    have HB := Lib.hid hb
    have hz : w.heap.size + 1 < wr.heap.size := by have := hb.size; simp at this; omega
    have hz0 : w.heap.size < wr.heap.size := by omega
    have HBW := Lib.hid (show Below w.heap.size w wr from ((bal w _).alloc (by simp) _).trans (hb.mono (by simp; omega)))
    have HA := Lib.hid ((hb.block w.heap.size (by simp <;> omega)).trans (heap_alloc2_old w _ _))
    have HC := Lib.hid ((hb.block (w.heap.size + 1) (by simp <;> omega)).trans (heap_alloc2_new w _ _))
    clear hN hb
    by_cases h4 : k < 4
    · have h4b : decide ((k : Int) + 1 ≤ 4) = true := by simp; omega
      go_wp2
      obtain ⟨wo, rfl⟩ : ∃ wo : World, wo = wr := ⟨_, rfl⟩
      go_loopw [6, 7] (fun i _ wz => ∃ m : Nat, m ≤ 2 ∧ i = .int .i64 m ∧ ((0 < m → lessAt rmay s t ((k : Int) + 1) false = false) ∧ (1 < m → lessAt rmay s t ((k : Int) + 1) true = false)) ∧ Below wo.heap.size wo wz) (fun i _ _ => 2 - (intOf i).toNat)
      case atStart => exact ⟨0, by omega, rfl, ⟨fun h => by omega, fun h => by omega⟩, Below.refl _ _⟩
      case round =>
        obtain ⟨m, hm, rfl, hM, hi⟩ := hrel
        have HM := Lib.hid hM
        have HI := Lib.hid hi
        have hsz : wo.heap.size ≤ wr.heap.size := hi.size
        have hz1 : w.heap.size + 1 < wr.heap.size := by omega
        have HWR := Lib.hid (show Below w.heap.size w wr from HBW.out.trans (hi.mono HBW.out.size))
        have HSW := Lib.hid (HS.out.below HWR.out)
        have HTW := Lib.hid (HT.out.below HWR.out)
        have HA5 := Lib.hid ((hi.block _ hz0).trans HA.out)
        have HC5 := Lib.hid ((hi.block _ hz).trans HC.out)
        clear hM hi
        obtain ⟨d0, d1, d2, d3, d4⟩ := box5' HA5.out
        rcases (by omega : m = 0 ∨ m = 1 ∨ m = 2) with rfl | rfl | rfl
        · skip
          obtain ⟨p, hp⟩ : ∃ p, rmay s ((k : Int) + 1) false = p := ⟨_, rfl⟩
          obtain ⟨q, hq⟩ : ∃ q, rmay t ((k : Int) + 1) false = q := ⟨_, rfl⟩
          have HP := Lib.hid hp
          have HQ := Lib.hid hq
          clear hp hq
          go_wp2_with fail
          refine (rmay_any s a cap ((k : Int) + 1) false _ HSW.out).mono ?_
          rintro e w5 ⟨rfl, b5⟩
          rw [HP.out]
          obtain ⟨e0, e1, e2, e3, e4⟩ := box5' ((b5.block _ hz1).trans HC5.out)
          have HB5 := Lib.hid b5
          clear b5
          go_wp2_with fail
          refine (rmay_any t b cbp ((k : Int) + 1) false _ (HTW.out.below HB5.out)).mono ?_
          rintro e w6 ⟨rfl, b6⟩
          rw [HQ.out]
          have B6 := Lib.hid (HI.out.trans ((HB5.out.trans (b6.mono HB5.out.size)).mono HI.out.size))
          clear b6
          cases p
          · have HX := Lib.hid (show lessAt rmay s t ((k : Int) + 1) false = false from by unfold lessAt; rw [HP.out]; rfl)
            go_wp2
            go_roundw
            case rel => exact ⟨0 + 1, by omega, by go_num, ⟨fun _ => HX.out, fun h => by omega⟩, B6.out⟩
            case measure => simp [intOf]
          · cases q
            · have HX := Lib.hid (show lessB rmay s t = true from less_true (b := false) h4 (by unfold lessAt; rw [HP.out, HQ.out]; rfl))
              go_wp2
              go_ret
              exact ⟨ret_bool HX.out.symm, HBW.out.trans (B6.out.mono HBW.out.size)⟩
            · have HX := Lib.hid (show lessAt rmay s t ((k : Int) + 1) false = false from by unfold lessAt; rw [HP.out, HQ.out]; rfl)
              go_wp2
              go_roundw
              case rel => exact ⟨0 + 1, by omega, by go_num, ⟨fun _ => HX.out, fun h => by omega⟩, B6.out⟩
              case measure => simp [intOf]
        · skip
          obtain ⟨p, hp⟩ : ∃ p, rmay s ((k : Int) + 1) true = p := ⟨_, rfl⟩
          obtain ⟨q, hq⟩ : ∃ q, rmay t ((k : Int) + 1) true = q := ⟨_, rfl⟩
          have HP := Lib.hid hp
          have HQ := Lib.hid hq
          clear hp hq
          go_wp2_with fail
          refine (rmay_any s a cap ((k : Int) + 1) true _ HSW.out).mono ?_
          rintro e w5 ⟨rfl, b5⟩
          rw [HP.out]
          obtain ⟨e0, e1, e2, e3, e4⟩ := box5' ((b5.block _ hz1).trans HC5.out)
          have HB5 := Lib.hid b5
          clear b5
          go_wp2_with fail
          refine (rmay_any t b cbp ((k : Int) + 1) true _ (HTW.out.below HB5.out)).mono ?_
          rintro e w6 ⟨rfl, b6⟩
          rw [HQ.out]
          have B6 := Lib.hid (HI.out.trans ((HB5.out.trans (b6.mono HB5.out.size)).mono HI.out.size))
          clear b6
          cases p
          · have HX := Lib.hid (show lessAt rmay s t ((k : Int) + 1) true = false from by unfold lessAt; rw [HP.out]; rfl)
            go_wp2
            go_roundw
            case rel => exact ⟨1 + 1, by omega, by go_num, ⟨fun _ => HM.out.1 (by omega), fun _ => HX.out⟩, B6.out⟩
            case measure => simp [intOf]
          · cases q
            · have HX := Lib.hid (show lessB rmay s t = true from less_true (b := true) h4 (by unfold lessAt; rw [HP.out, HQ.out]; rfl))
              go_wp2
              go_ret
              exact ⟨ret_bool HX.out.symm, HBW.out.trans (B6.out.mono HBW.out.size)⟩
            · have HX := Lib.hid (show lessAt rmay s t ((k : Int) + 1) true = false from by unfold lessAt; rw [HP.out, HQ.out]; rfl)
              go_wp2
              go_roundw
              case rel => exact ⟨1 + 1, by omega, by go_num, ⟨fun _ => HM.out.1 (by omega), fun _ => HX.out⟩, B6.out⟩
              case measure => simp [intOf]
        · go_wp2
          go_roundw
          case rel => exact ⟨k + 1, by omega, by go_num, less_step HN.out (HM.out.1 (by omega)) (HM.out.2 (by omega)), HB.out.trans (HI.out.mono HB.out.size)⟩
          case measure => simp [intOf]; omega
    · have := less_false (fun j hj => HN.out j (by omega))
      have HF := Lib.hid this
      clear this
      go_wp2
      go_ret
      exact ⟨ret_bool HF.out.symm, HBW.out⟩
end Go.Proofs.Ytclhmpknkinjcaa
