/-
  Contracts: order.Less over rights.May; the document's Lessened.
-/
import Derived.Test.YtclhmpknkinjcaaRef
import Derived.Test.YtclhmpknkinjcaaMay
namespace Go.Proofs.Ytclhmpknkinjcaa
open Go.RowKit

def lessAt (m : St → Int → Bool → Bool) (s t : St) (who : Int) (b : Bool) : Bool := m s who b && !m t who b
def lessB (m : St → Int → Bool → Bool) (s t : St) : Bool := (List.range 4).any fun j => lessAt m s t ((j : Int) + 1) false || lessAt m s t ((j : Int) + 1) true
theorem less_true {m : St → Int → Bool → Bool} {s t : St} {k : Nat} {b : Bool} (hk : k < 4) (h : lessAt m s t ((k : Int) + 1) b = true) : lessB m s t = true := by
  unfold lessB
  rw [List.any_eq_true]
  exact ⟨k, List.mem_range.2 hk, by cases b <;> rw [h] <;> simp⟩
theorem less_false {m : St → Int → Bool → Bool} {s t : St} (h : ∀ j : Nat, j < 4 → ∀ b, lessAt m s t ((j : Int) + 1) b = false) : lessB m s t = false := by
  unfold lessB
  rw [List.any_eq_false]
  intro j hj
  rw [h j (List.mem_range.1 hj), h j (List.mem_range.1 hj)]
  decide
theorem less_step {m : St → Int → Bool → Bool} {s t : St} {k : Nat} (h : ∀ j : Nat, j < k → ∀ b, lessAt m s t ((j : Int) + 1) b = false) (h0 : lessAt m s t ((k : Int) + 1) false = false) (h1 : lessAt m s t ((k : Int) + 1) true = false) : ∀ j : Nat, j < k + 1 → ∀ b, lessAt m s t ((j : Int) + 1) b = false := by
  intro j hj b
  rcases (by omega : j < k ∨ j = k) with hj | rfl
  · exact h j hj b
  · cases b <;> assumption
theorem less_congr {m m' : St → Int → Bool → Bool} {s t : St} (hs : ∀ who b, m s who b = m' s who b) (ht : ∀ who b, m t who b = m' t who b) : lessB m s t = lessB m' s t := by
  unfold lessB lessAt; simp only [hs, ht]

theorem box5' {w : World} {b : Nat} {v0 v1 v2 v3 v4 : Value} {T : TypeId} (h : w.heap[b]? = some (.cells #[v0, v1, v2, v3, v4] T (0, 0))) : w.cell? ⟨b, 0, none⟩ = some v0 ∧ w.cell? ⟨b, 1, none⟩ = some v1 ∧ w.cell? ⟨b, 2, none⟩ = some v2 ∧ w.cell? ⟨b, 3, none⟩ = some v3 ∧ w.cell? ⟨b, 4, none⟩ = some v4 :=
  (box5 (Below.refl (b + 1) w) (by omega) h).1

set_option maxRecDepth 100000 in
set_option maxHeartbeats 2000000 in
theorem less_any (s t : St) (a b : Option Addr) (cap cbp : Nat) (w : World) (hs : StR w s a) (ht : StR w t b) :
    Calls Try.prog 63 #[stV s a cap, stV t b cbp, .func (.func 64) #[] #[]] w fun e w' => e = .returned (.bool (lessB pmay s t)) ∧ Below w.heap.size w w' := by
  have HS := Lib.hid hs
  have HT := Lib.hid ht
  clear hs ht
  go_enter Try.func63, Try.ntmps63
  go_wp2
  go_loopw [7] (fun i wr => ∃ k : Nat, k ≤ 4 ∧ i = .int .i64 ((k : Int) + 1) ∧ (∀ j : Nat, j < k → ∀ b, lessAt pmay s t ((j : Int) + 1) b = false) ∧ Below ((w.alloc (.cells #[.int .i64 s.gen, .slice a s.regs.length cap, .int .i64 s.typ, .int .i64 s.holder, .bool s.stays] 47)).alloc (.cells #[.int .i64 t.gen, .slice b t.regs.length cbp, .int .i64 t.typ, .int .i64 t.holder, .bool t.stays] 47)).heap.size ((w.alloc (.cells #[.int .i64 s.gen, .slice a s.regs.length cap, .int .i64 s.typ, .int .i64 s.holder, .bool s.stays] 47)).alloc (.cells #[.int .i64 t.gen, .slice b t.regs.length cbp, .int .i64 t.typ, .int .i64 t.holder, .bool t.stays] 47)) wr) (fun i _ => (5 - intOf i).toNat)
  case atStart => exact ⟨0, by omega, rfl, fun j hj => by omega, Below.refl _ _⟩
  case round =>
    obtain ⟨k, hk, rfl, hN, hb⟩ := hrel
    have HN := Lib.hid hN
    have HB := Lib.hid hb
    have hz : w.heap.size + 1 < wr.heap.size := by have := hb.size; simp at this; omega
    have hz0 : w.heap.size < wr.heap.size := by omega
    have HBW := Lib.hid (show Below w.heap.size w wr from ((bal w _).alloc (by simp) _).trans (hb.mono (by simp; omega)))
    have HA := Lib.hid ((hb.block w.heap.size (by simp <;> omega)).trans (heap_alloc2_old w _ _))
    have HC := Lib.hid ((hb.block (w.heap.size + 1) (by simp <;> omega)).trans (heap_alloc2_new w _ _))
    clear hN hb
    by_cases h4 : k < 4
    · have h4b : decide ((k : Int) + 1 ≤ 4) = true := by simp; omega
      go_wp2
      obtain ⟨wo, rfl⟩ : ∃ wo : World, wo = wr := ⟨_, rfl⟩
      go_loopw [16] (fun i wz => ∃ m : Nat, m ≤ 2 ∧ i = .int .i64 m ∧ ((0 < m → lessAt pmay s t ((k : Int) + 1) false = false) ∧ (1 < m → lessAt pmay s t ((k : Int) + 1) true = false)) ∧ Below (wo.alloc (.cells #[.bool false, .bool true] 4)).heap.size (wo.alloc (.cells #[.bool false, .bool true] 4)) wz) (fun i _ => (2 - intOf i).toNat)
      case atStart => exact ⟨0, by omega, rfl, ⟨fun h => by omega, fun h => by omega⟩, Below.refl _ _⟩
      case round =>
        obtain ⟨m, hm, rfl, hM, hi⟩ := hrel
        have HM := Lib.hid hM
        have HI := Lib.hid hi
        have hsz : wo.heap.size < wr.heap.size := by have := hi.size; simp at this; omega
        have hz1 : w.heap.size + 1 < wr.heap.size := by omega
        have hz2 : w.heap.size < wr.heap.size := by omega
        have HWR := Lib.hid (show Below w.heap.size w wr from HBW.out.trans (((bal wo _).trans (hi.mono (bal wo _).size)).mono HBW.out.size))
        have HSW := Lib.hid (HS.out.below HWR.out)
        have HTW := Lib.hid (HT.out.below HWR.out)
        have HA5 := Lib.hid (((hi.block _ (by simp; omega)).trans ((bal wo _).block _ hz0)).trans HA.out)
        have HC5 := Lib.hid (((hi.block _ (by simp; omega)).trans ((bal wo _).block _ hz)).trans HC.out)
        have HF5 := Lib.hid ((hi.block wo.heap.size (by simp)).trans (heap_alloc_new wo _))
        clear hM hi
        obtain ⟨d0, d1, d2, d3, d4⟩ := box5' HA5.out
        obtain ⟨e0, e1, e2, e3, e4⟩ := box5' HC5.out
        have hf0 : wr.cell? ⟨wo.heap.size, 0, none⟩ = some (.bool false) := by simp [World.cell?, HF5.out]
        have hf1 : wr.cell? ⟨wo.heap.size, 1, none⟩ = some (.bool true) := by simp [World.cell?, HF5.out]
        rcases (by omega : m = 0 ∨ m = 1 ∨ m = 2) with rfl | rfl | rfl
        · skip
          have hpm : ∃ p, pmay s ((k : Int) + 1) false = p := ⟨_, rfl⟩
          obtain ⟨p, hp⟩ := hpm
          have HP := Lib.hid hp
          clear hp
          go_wp2_with fail
          refine (may_any s a cap ((k : Int) + 1) false _ HSW.out).mono ?_
          rintro e w5 ⟨rfl, b5⟩
          rw [HP.out]
          cases p
          · have HX := Lib.hid (show lessAt pmay s t ((k : Int) + 1) false = false from by unfold lessAt; rw [HP.out]; rfl)
            have B5 := Lib.hid (HI.out.trans (b5.mono HI.out.size))
            clear b5
            go_wp2
            go_roundw
            case rel => exact ⟨0 + 1, by omega, by go_num, ⟨fun _ => HX.out, fun h => by omega⟩, B5.out⟩
            case measure => simp [intOf]
          · obtain ⟨e0, e1, e2, e3, e4⟩ := box5' ((b5.block _ hz1).trans HC5.out)
            have hq : ∃ q, pmay t ((k : Int) + 1) false = q := ⟨_, rfl⟩
            obtain ⟨q, hq⟩ := hq
            have HQ := Lib.hid hq
            have HB5 := Lib.hid b5
            clear hq b5
            go_wp2_with fail
            refine (may_any t b cbp ((k : Int) + 1) false _ (HTW.out.below HB5.out)).mono ?_
            rintro e w6 ⟨rfl, b6⟩
            rw [HQ.out]
            have B6 := Lib.hid (HI.out.trans ((HB5.out.trans (b6.mono HB5.out.size)).mono HI.out.size))
            clear b6
            cases q
            · have HX := Lib.hid (show lessB pmay s t = true from less_true (b := false) h4 (by unfold lessAt; rw [HP.out, HQ.out]; rfl))
              go_wp2
              go_ret
              exact ⟨ret_bool HX.out.symm, HBW.out.trans (((bal wo _).trans (B6.out.mono (bal wo _).size)).mono HBW.out.size)⟩
            · have HX := Lib.hid (show lessAt pmay s t ((k : Int) + 1) false = false from by unfold lessAt; rw [HP.out, HQ.out]; rfl)
              go_wp2
              go_roundw
              case rel => exact ⟨0 + 1, by omega, by go_num, ⟨fun _ => HX.out, fun h => by omega⟩, B6.out⟩
              case measure => simp [intOf]
        · skip
          have hpm : ∃ p, pmay s ((k : Int) + 1) true = p := ⟨_, rfl⟩
          obtain ⟨p, hp⟩ := hpm
          have HP := Lib.hid hp
          clear hp
          go_wp2_with fail
          refine (may_any s a cap ((k : Int) + 1) true _ HSW.out).mono ?_
          rintro e w5 ⟨rfl, b5⟩
          rw [HP.out]
          cases p
          · have HX := Lib.hid (show lessAt pmay s t ((k : Int) + 1) true = false from by unfold lessAt; rw [HP.out]; rfl)
            have B5 := Lib.hid (HI.out.trans (b5.mono HI.out.size))
            clear b5
            go_wp2
            go_roundw
            case rel => exact ⟨1 + 1, by omega, by go_num, ⟨fun _ => HM.out.1 (by omega), fun _ => HX.out⟩, B5.out⟩
            case measure => simp [intOf]
          · obtain ⟨e0, e1, e2, e3, e4⟩ := box5' ((b5.block _ hz1).trans HC5.out)
            have hq : ∃ q, pmay t ((k : Int) + 1) true = q := ⟨_, rfl⟩
            obtain ⟨q, hq⟩ := hq
            have HQ := Lib.hid hq
            have HB5 := Lib.hid b5
            clear hq b5
            go_wp2_with fail
            refine (may_any t b cbp ((k : Int) + 1) true _ (HTW.out.below HB5.out)).mono ?_
            rintro e w6 ⟨rfl, b6⟩
            rw [HQ.out]
            have B6 := Lib.hid (HI.out.trans ((HB5.out.trans (b6.mono HB5.out.size)).mono HI.out.size))
            clear b6
            cases q
            · have HX := Lib.hid (show lessB pmay s t = true from less_true (b := true) h4 (by unfold lessAt; rw [HP.out, HQ.out]; rfl))
              go_wp2
              go_ret
              exact ⟨ret_bool HX.out.symm, HBW.out.trans (((bal wo _).trans (B6.out.mono (bal wo _).size)).mono HBW.out.size)⟩
            · have HX := Lib.hid (show lessAt pmay s t ((k : Int) + 1) true = false from by unfold lessAt; rw [HP.out, HQ.out]; rfl)
              go_wp2
              go_roundw
              case rel => exact ⟨1 + 1, by omega, by go_num, ⟨fun _ => HM.out.1 (by omega), fun _ => HX.out⟩, B6.out⟩
              case measure => simp [intOf]
        · go_wp2
          go_roundw
          case rel => exact ⟨k + 1, by omega, by go_num, less_step HN.out (HM.out.1 (by omega)) (HM.out.2 (by omega)), HB.out.trans (((bal wo _).trans ((HI.out).mono (bal wo _).size)).mono HB.out.size)⟩
          case measure => simp [intOf]; omega
    · have := less_false (fun j hj => HN.out j (by omega))
      have HF := Lib.hid this
      clear this
      go_wp2
      go_ret
      exact ⟨ret_bool HF.out.symm, HBW.out⟩
end Go.Proofs.Ytclhmpknkinjcaa
