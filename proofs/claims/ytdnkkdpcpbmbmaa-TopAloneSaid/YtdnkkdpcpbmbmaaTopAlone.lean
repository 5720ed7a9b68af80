/-
  TopAlone: the walk.
-/
import Derived.Test.YtdnkkdpcpbmbmaaTopRights
import Derived.Test.YtdnkkdpcpbmbmaaAlonePlain
namespace Go.Proofs.Ytdnkkdpcpbmbmaa
open Go.RowKit

set_option maxHeartbeats 1000000 in
theorem topalone_walk (s : St) (a : Option Addr) (cap : Nat) (w : World) (hr : StR w s a) :
    Calls Try.prog 13 #[stV s a cap] w fun e w' => e = .returned (.bool true) ∧ Below w.heap.size w w' := by
  have hr1 : ∀ o, StR (w.alloc o) s a := fun o => hr.below (bal w o)
  have one1 : ∀ (w0 : World) (n : Nat) (_ : n = w0.heap.size) (C : Obj) (T : TypeId), Calls Try.prog 23 #[.agg #[.int .i64 0, .slice (some ⟨n, 0, none⟩) 1 1, .int .i64 3, .int .i64 2, .bool false], .int .i64 2, .bool true] ((w0.alloc (.cells #[.int .i64 2, .int .i64 5] T)).alloc C) fun e w' => e = .returned (.bool true) ∧ Below ((w0.alloc (.cells #[.int .i64 2, .int .i64 5] T)).alloc C).heap.size ((w0.alloc (.cells #[.int .i64 2, .int .i64 5] T)).alloc C) w' :=
    fun w0 n hn C T => hn ▸ (may_any ⟨0, [(2, 5)], 3, 2, false⟩ _ 1 2 true _ (StR.below ⟨by simp [maxLen], pairs_new1 w0 2 5 T⟩ (bal _ C))).mono fun e w' ⟨h1, h2⟩ => ⟨by rw [h1]; rfl, h2⟩
  have two1 : ∀ (w0 wk : World) (n : Nat) (_ : n = w0.heap.size) (C : Obj) (T : TypeId), Below ((w0.alloc (.cells #[.int .i64 2, .int .i64 5] T)).alloc C).heap.size ((w0.alloc (.cells #[.int .i64 2, .int .i64 5] T)).alloc C) wk → Calls Try.prog 23 #[.agg #[.int .i64 0, .slice (some ⟨n, 0, none⟩) 1 1, .int .i64 3, .int .i64 2, .bool false], .int .i64 1, .bool false] wk fun e w' => e = .returned (.bool false) ∧ Below wk.heap.size wk w' :=
    fun w0 wk n hn C T hb => hn ▸ (may_any ⟨0, [(2, 5)], 3, 2, false⟩ _ 1 1 false _ (StR.below (StR.below ⟨by simp [maxLen], pairs_new1 w0 2 5 T⟩ (bal _ C)) hb)).mono fun e w' ⟨h1, h2⟩ => ⟨by rw [h1]; rfl, h2⟩
  have ONE := Lib.hid one1
  have TWO := Lib.hid two1
  clear one1 two1
  go_enter Try.func13, Try.ntmps13
  go_wp2_with fail
  refine (ONE.out _ _ (by simp) _ _).mono ?_
  rintro e w1 ⟨rfl, b1⟩
  obtain ⟨hc, hf⟩ := bcell b1
  go_wp2_with fail
  refine (TWO.out _ _ _ (by simp) _ _ b1).mono ?_
  rintro e w2 ⟨rfl, h2⟩
  have b2 := b1.trans (h2.mono b1.size)
  clear hc hf
  have b0 := bover (bover b2 (by simp)) (by simp)
  obtain ⟨hc, hf⟩ := bcell b0
  clear b1 b2 h2
  go_wp2_with fail
  refine (light_any s a cap _).mono ?_
  rintro e w3 ⟨rfl, h3⟩
  have b3 := b0.trans (h3.mono b0.size)
  clear hc hf
  obtain ⟨hc, hf⟩ := bcell b3
  have fin : Below w.heap.size w w3 := bover b3 (by simp)
  cases hl6 : decide (s.regs.length ≤ 6)
  · go_wp2
    go_ret
    exact ⟨rfl, fin⟩
  clear fin
  by_cases hg : stateFault s ≠ 0
  · go_wp2_with fail
    refine (check_bad s a cap _ ((hr1 _).below b3) hg).mono ?_
    rintro e w4 ⟨rfl, h4⟩
    have b4 := b3.trans (h4.mono b3.size)
    clear hc hf
    obtain ⟨hc, hf⟩ := bcell b4
    have fin : Below w.heap.size w w4 := bover b4 (by simp)
    clear hg
    go_wp2
    go_ret
    exact ⟨rfl, fin⟩
  have hg0 : stateFault s = 0 := by omega
  have good := (good_iff s).1 hg0
  go_wp2_with fail
  refine (check_good s a cap _ ((hr1 _).below b3) hg0).mono ?_
  rintro e w4 ⟨rfl, h4⟩
  have b4 := b3.trans (h4.mono b3.size)
  clear hc hf
  obtain ⟨hc, hf⟩ := bcell b4
  clear hg hg0
  have LAW := Lib.hid (alone_law s good)
  have KN := Lib.hid (may_write_known s good)
  clear good
  go_wp2
  go_loopw [4, 5, 6] (fun n m i wr => ∃ k : Nat, k ≤ 4 ∧ i = .int .i64 (k + 1) ∧ n = .int .i64 (countMay s true k) ∧ m = .int .i64 (countMay s false k) ∧ Below (w.heap.size + 1) (w.alloc (.cells #[.int .i64 s.gen, .slice a s.regs.length cap, .int .i64 s.typ, .int .i64 s.holder, .bool s.stays] 24)) wr) (fun _ _ i _ => 5 - (intOf i).toNat)
  case atStart => exact ⟨0, by omega, rfl, rfl, rfl, by simpa using b4⟩
  case round =>
    obtain ⟨k, hk, rfl, rfl, rfl, hb⟩ := hrel
    have bn := countMay_bound s true k
    have bm := countMay_bound s false k
    have b5 : Below (w.alloc (.cells #[.int .i64 s.gen, .slice a s.regs.length cap, .int .i64 s.typ, .int .i64 s.holder, .bool s.stays] 24)).heap.size (w.alloc (.cells #[.int .i64 s.gen, .slice a s.regs.length cap, .int .i64 s.typ, .int .i64 s.holder, .bool s.stays] 24)) wr := by simpa using hb
    clear hc hf hb
    obtain ⟨hc, hf⟩ := bcell b5
    by_cases h4 : k < 4
    · go_wp2_with fail
      refine (may_any s a cap (k + 1) true _ ((hr1 _).below b5)).mono ?_
      rintro e w6 ⟨rfl, h6⟩
      have b6 := b5.trans (h6.mono b5.size)
      clear hc hf
      obtain ⟨hc, hf⟩ := bcell b6
      cases hw : pmay s (k + 1) true
      · go_wp2_with fail
        refine (may_any s a cap (k + 1) false _ ((hr1 _).below b6)).mono ?_
        rintro e w7 ⟨rfl, h7⟩
        have b7 := b6.trans (h7.mono b6.size)
        clear hc hf
        obtain ⟨hc, hf⟩ := bcell b7
        cases hr : pmay s (k + 1) false
        · go_wp2
          go_roundw
          case rel => exact ⟨k + 1, by omega, by go_num, by simp [countMay, hw], by simp [countMay, hr], by simpa using b7⟩
          case measure => simp [intOf]; omega
        · go_wp2
          go_roundw
          case rel => exact ⟨k + 1, by omega, by go_num, by simp [countMay, hw], by simp [countMay, hr], by simpa using b7⟩
          case measure => simp [intOf]; omega
      · rcases (by omega : s.typ ≤ 0 ∨ 0 < s.typ) with ht | ht
        · go_wp2_with fail
          refine (may_any s a cap (k + 1) false _ ((hr1 _).below b6)).mono ?_
          rintro e w7 ⟨rfl, h7⟩
          have b7 := b6.trans (h7.mono b6.size)
          clear hc hf
          obtain ⟨hc, hf⟩ := bcell b7
          cases hr : pmay s (k + 1) false
          · go_wp2
            go_roundw
            case rel => exact ⟨k + 1, by omega, by go_num, by simp [countMay, hw], by simp [countMay, hr], by simpa using b7⟩
            case measure => simp [intOf]; omega
          · go_wp2
            go_roundw
            case rel => exact ⟨k + 1, by omega, by go_num, by simp [countMay, hw], by simp [countMay, hr], by simpa using b7⟩
            case measure => simp [intOf]; omega
        · have hkb : (keyOf s.regs (k + 1) == 0) = false := by simpa using KN.out _ (by omega) hw
          go_wp2_with fail
          refine (key_any s a cap (k + 1) _ ((hr1 _).below b6)).mono ?_
          rintro e w8 ⟨rfl, h8⟩
          have b8 := b6.trans (h8.mono b6.size)
          clear hc hf
          obtain ⟨hc, hf⟩ := bcell b8
          go_wp2_with fail
          refine (may_any s a cap (k + 1) false _ ((hr1 _).below b8)).mono ?_
          rintro e w7 ⟨rfl, h7⟩
          have b7 := b8.trans (h7.mono b8.size)
          clear hc hf
          obtain ⟨hc, hf⟩ := bcell b7
          cases hr : pmay s (k + 1) false
          · go_wp2
            go_roundw
            case rel => exact ⟨k + 1, by omega, by go_num, by simp [countMay, hw], by simp [countMay, hr], by simpa using b7⟩
            case measure => simp [intOf]; omega
          · go_wp2
            go_roundw
            case rel => exact ⟨k + 1, by omega, by go_num, by simp [countMay, hw], by simp [countMay, hr], by simpa using b7⟩
            case measure => simp [intOf]; omega
    · obtain rfl : k = 4 := by omega
      have fin : Below w.heap.size w wr := bover b5 (by simp)
      have bn' : countMay s true 4 ≤ 4 := by omega
      generalize hn : countMay s true 4 = n at *
      generalize hm : countMay s false 4 = m at *
      clear hn hm
      go_wp2
      all_goals
        go_ret
        refine ⟨ret_bool ?_, fin⟩
        have l0 := LAW.out.typ
        have l1 := LAW.out.three
        have l2 := LAW.out.one
        have l3 := LAW.out.five
        have l4 := LAW.out.six
        have l5 := LAW.out.none
        clear LAW KN ONE TWO hc hf b5 b4 fin
        simp only [beq_iff_eq, beq_eq_false_iff_ne, ne_eq] at *
        first | omega | (exfalso; omega)
end Go.Proofs.Ytdnkkdpcpbmbmaa
