/-
  HoldSays: the walk of the law.
-/
import Derived.Test.YtkiogccpbdpfaaaSmall
import Derived.Test.YtkiogccpbdpfaaaHoldsFact
import Derived.Test.YtkiogccpbdpfaaaOthers
import Derived.Test.YtkiogccpbdpfaaaRWithW
import Derived.Test.YtkiogccpbdpfaaaSameState
import Derived.Deep.RegionHeld3
namespace Go.Proofs.Ytkiogccpbdpfaaa
open Go.RowKit

theorem stateFault_lists (s : St) (h : stateFault s = 0) : (∀ r ∈ s.regs, 0 ≤ r.1 ∧ r.1 ≤ 1000) ∧ s.regs.Pairwise (fun a b => a.1 < b.1) := by
  have g := (good_iff s).1 h
  exact ⟨fun r hr => by have := g.bounds r hr; omega, g.sorted⟩

theorem same_self (f : Int) (w : World) (hf : 0 ≤ f) :
    Calls Try.prog 52 #[errV f, .int .i64 f] w fun e w' => e = .returned (.bool true) ∧ Below w.heap.size w w' :=
  (same_any f f w hf hf).mono fun e w' ⟨h1, h2⟩ => ⟨by rw [h1]; simp, h2⟩

/-- what a region reads of a state in block b, and what is there: kept behind whatever lays memory -/
theorem keep5 {W w w' : World} {b : Nat} {v0 v1 v2 v3 v4 : Value} (h : Below W.heap.size W w ∧ w.cell? ⟨b, 0, none⟩ = some v0 ∧ w.cell? ⟨b, 1, none⟩ = some v1 ∧ w.cell? ⟨b, 2, none⟩ = some v2 ∧ w.cell? ⟨b, 3, none⟩ = some v3 ∧ w.cell? ⟨b, 4, none⟩ = some v4) (hb : b < W.heap.size) (h2 : Below w.heap.size w w') :
    Below W.heap.size W w' ∧ w'.cell? ⟨b, 0, none⟩ = some v0 ∧ w'.cell? ⟨b, 1, none⟩ = some v1 ∧ w'.cell? ⟨b, 2, none⟩ = some v2 ∧ w'.cell? ⟨b, 3, none⟩ = some v3 ∧ w'.cell? ⟨b, 4, none⟩ = some v4 := by
  obtain ⟨h, c0, c1, c2, c3, c4⟩ := h
  have hc := (bcell h2).1
  have hlt : b < w.heap.size := Nat.lt_of_lt_of_le hb h.size
  refine ⟨h.trans (h2.mono h.size), ?_, ?_, ?_, ?_, ?_⟩ <;> (rw [hc _ _ hlt]; assumption)
theorem drew5 {W : World} {b : Nat} {v0 v1 v2 v3 v4 : Value} (h : W.cell? ⟨b, 0, none⟩ = some v0 ∧ W.cell? ⟨b, 1, none⟩ = some v1 ∧ W.cell? ⟨b, 2, none⟩ = some v2 ∧ W.cell? ⟨b, 3, none⟩ = some v3 ∧ W.cell? ⟨b, 4, none⟩ = some v4) :
    Below W.heap.size W W.drew ∧ W.drew.cell? ⟨b, 0, none⟩ = some v0 ∧ W.drew.cell? ⟨b, 1, none⟩ = some v1 ∧ W.drew.cell? ⟨b, 2, none⟩ = some v2 ∧ W.drew.cell? ⟨b, 3, none⟩ = some v3 ∧ W.drew.cell? ⟨b, 4, none⟩ = some v4 :=
  ⟨(Below.refl _ _).drew, h⟩

theorem numbers_true (l : List Int) (a b : Option Addr) (c d : Nat) (w : World) (hl : l.length ≤ maxLen) (ha : Ints w.heap.size w a l) (hb : Ints w.heap.size w b l) :
    Calls Try.prog 33 #[.slice a l.length c, .slice b l.length d] w fun e w' => e = .returned (.bool true) ∧ Below w.heap.size w w' :=
  (samenumbers_any l l a b c d w hl hl ha hb).mono fun e w' ⟨h1, h2⟩ => ⟨by rw [h1]; simp, h2⟩

set_option maxHeartbeats 4000000 in
set_option maxRecDepth 100000 in
theorem holdsays_walk (s : St) (a : Option Addr) (cap : Nat) (who key : Int) (w : World) (hr : StR w s a) :
    Calls Try.prog 7 #[stV s a cap, .int .i64 who, .int .i64 key] w fun e w' => e = .returned (.bool true) ∧ Below w.heap.size w w' := by
  have hr1 : ∀ o, StR (w.alloc o) s a := fun o => hr.below (bal w o)
  go_enter Try.func7, Try.ntmps7
  go_wp2_with fail
  refine (holdsfact _).mono ?_
  rintro e w1 ⟨rfl, b1⟩
  obtain ⟨hc, hf⟩ := bcell b1
  have fin : Below w.heap.size w w1 := bover b1 (by simp)
  go_wp2_with fail
  refine (light_any s a cap _).mono ?_
  rintro e w2 ⟨rfl, h2⟩
  have b2 := b1.trans (h2.mono b1.size)
  clear hc hf
  obtain ⟨hc, hf⟩ := bcell b2
  have fin : Below w.heap.size w w2 := bover b2 (by simp)
  cases hl6 : decide (s.regs.length ≤ 6)
  · go_wp2
    go_ret
    exact ⟨rfl, fin⟩
  go_wp2_with fail
  refine (rfault_any s a cap _ ((hr1 _).below b2)).mono ?_
  rintro e w3 ⟨rfl, h3⟩
  have b3 := b2.trans (h3.mono b2.size)
  clear hc hf
  obtain ⟨hc, hf⟩ := bcell b3
  go_wp2_with fail
  refine (check_any s a cap _ ((hr1 _).below b3)).mono ?_
  rintro e w4 ⟨rfl, h4⟩
  have b4 := b3.trans (h4.mono b3.size)
  clear hc hf
  obtain ⟨hc, hf⟩ := bcell b4
  go_wp2_with fail
  refine (same_self _ _ (stateFault_nonneg s)).mono ?_
  rintro e w5 ⟨rfl, h5⟩
  have b5 := b4.trans (h5.mono b4.size)
  clear hc hf
  obtain ⟨hc, hf⟩ := bcell b5
  have fin : Below w.heap.size w w5 := bover b5 (by simp)
  by_cases h0 : 0 < stateFault s
  · go_wp2
    go_ret
    exact ⟨rfl, fin⟩
  have hg0 : stateFault s = 0 := by have := stateFault_nonneg s; omega
  have hlen : s.regs.length ≤ 6 := by simpa using hl6
  have hls := Lib.hid (stateFault_lists s hg0)
  by_cases h1 : who < 1
  · go_wp2
    go_ret
    exact ⟨rfl, fin⟩
  by_cases h2 : 4 < who
  · go_wp2
    go_ret
    exact ⟨rfl, fin⟩
  by_cases h3 : key < 0
  · go_wp2
    go_ret
    exact ⟨rfl, fin⟩
  by_cases h4 : 999 < key
  · go_wp2
    go_ret
    exact ⟨rfl, fin⟩
  obtain ⟨box, -⟩ := box5 b5 (b := w.heap.size) (by simp) (heap_alloc_new _ _)
  have hlt : w.heap.size < w5.heap.size := bsz b5
  have hr5 := (hr1 _).below b5
  clear b1 b2 b3 b4 b5 hr1 hr
  have HR := Lib.hid (fun (w' : World) (hb : Below w5.heap.size w5 w') => hr5.below hb)
  have BOX := Lib.hid (drew5 box)
  clear hc hf h5 hr5
  obtain ⟨c0, c1, c2, c3, c4⟩ := box
  have HW := Lib.hid (fun (w' : World) (hb : Below w5.heap.size w5 w') => with_any s a cap who key w' (HR.out w' hb) (by omega) (by omega) hls.out.1 hls.out.2)
  have HRW := Lib.hid (fun (w' : World) (hb : Below w5.heap.size w5 w') => rwith_any s a cap who key w' (HR.out w' hb) (by omega) (by omega) hls.out.2)
  have HO := Lib.hid (fun (w' : World) (hb : Below w5.heap.size w5 w') => others_any s a cap who w' (HR.out w' hb) (by omega))
  have HRO := Lib.hid (fun (w' : World) (hb : Below w5.heap.size w5 w') => rothers_any s a cap who w' (HR.out w' hb) (by omega))
  have hol : (othersL who s.regs).length ≤ maxLen := by
    have := others_len who s.regs s.regs.length
    rw [List.take_length] at this
    unfold maxLen; omega
  have q : ((s.typ == 7) = true ∧ (s.typ == 8) = false ∧ allT s.typ = true) ∨ ((s.typ == 7) = false ∧ (s.typ == 8) = true ∧ allT s.typ = true) ∨ ((s.typ == 7) = false ∧ (s.typ == 8) = false ∧ allT s.typ = false) := by
    rcases (by omega : s.typ = 7 ∨ s.typ = 8 ∨ (s.typ ≠ 7 ∧ s.typ ≠ 8)) with ht | ht | ⟨ht, ht2⟩
    · simp [allT, ht]
    · simp [allT, ht]
    · simp [allT, ht, ht2]
  rcases q with ⟨q1, q2, q3⟩ | ⟨q1, q2, q3⟩ | ⟨q1, q2, q3⟩
  all_goals
    go_wp2
    go_region_held3 (fun w' => Below w5.heap.size w5 w' ∧ w'.cell? ⟨w.heap.size, 0, none⟩ = some (.int .i64 s.gen) ∧ w'.cell? ⟨w.heap.size, 1, none⟩ = some (.slice a s.regs.length cap) ∧ w'.cell? ⟨w.heap.size, 2, none⟩ = some (.int .i64 s.typ) ∧ w'.cell? ⟨w.heap.size, 3, none⟩ = some (.int .i64 s.holder) ∧ w'.cell? ⟨w.heap.size, 4, none⟩ = some (.bool s.stays))
      (first | exact BOX.out | exact keep5 (by assumption) hlt (by assumption))
      (first
        | (go_at_call 68; refine (key_any s a cap who _ (HR.out _ (And.left (by assumption)))).mono ?_; rintro e w' ⟨rfl, hb⟩)
        | (go_at_call 69; refine (rkey_any s a cap who _ (HR.out _ (And.left (by assumption)))).mono ?_; rintro e w' ⟨rfl, hb⟩)
        | (go_at_call 70; refine (holds_any s a cap who _ (HR.out _ (And.left (by assumption)))).mono ?_; rintro e w' ⟨rfl, hb⟩)
        | (go_at_call 71; refine (rholds_any s a cap who _ (HR.out _ (And.left (by assumption)))).mono ?_; rintro e w' ⟨rfl, hb⟩)
        | (go_at_call 72; refine (all_any s a cap _).mono ?_; rintro e w' ⟨rfl, hb⟩)
        | (go_at_call 74; refine (HW.out _ (And.left (by assumption))).mono ?_; rintro e w' ⟨a1, cap1, rfl, hs1, hb⟩)
        | (go_at_call 75; refine (HRW.out _ (And.left (by assumption))).mono ?_; rintro e w' ⟨a2, cap2, rfl, hs2, hb⟩; replace hs1 := hs1.below hb)
        | (go_at_call 73; refine (samestate_true _ a1 a2 cap1 cap2 _ hs1 hs2).mono ?_; rintro e w' ⟨rfl, hb⟩)
        | (go_at_call 76; refine (HO.out _ (And.left (by assumption))).mono ?_; rintro e w' ⟨v3, rfl, ho3, hb⟩; obtain ⟨a3, c3, rfl, hi3⟩ := ho3.shape)
        | (go_at_call 77; refine (HRO.out _ (And.left (by assumption))).mono ?_; rintro e w' ⟨v4, rfl, ho4, hb⟩; obtain ⟨a4, c4, rfl, hi4⟩ := ho4.shape; replace hi3 := (hi3.below hb (Nat.le_refl _)).mono hb.size)
        | (go_at_call 33; refine (numbers_true _ a3 a4 c3 c4 _ hol hi3 hi4).mono ?_; rintro e w' ⟨rfl, hb⟩))
    go_wp2
    go_ret
    exact ⟨rfl, fin.trans (Below.mono (B := w5.heap.size) (And.left (by assumption)) fin.size)⟩
end Go.Proofs.Ytkiogccpbdpfaaa
