/-
  TopRights: the plain law, and the walk.
-/
import Derived.Test.YtdnkkdpcpbmbmaaRights
import Derived.Test.YtdnkkdpcpbmbmaaCheck
namespace Go.Proofs.Ytdnkkdpcpbmbmaa
open Go.RowKit

theorem check_good (s : St) (a : Option Addr) (cap : Nat) (w : World) (hr : StR w s a) (h : stateFault s = 0) :
    Calls Try.prog 72 #[stV s a cap] w fun e w' => e = .returned .nilIface ∧ Below w.heap.size w w' :=
  (check_any s a cap w hr).mono fun e w' ⟨h1, h2⟩ => ⟨by rw [h1, h]; rfl, h2⟩
theorem check_bad (s : St) (a : Option Addr) (cap : Nat) (w : World) (hr : StR w s a) (h : stateFault s ≠ 0) :
    Calls Try.prog 72 #[stV s a cap] w fun e w' => e = .returned (.iface 149 (.int .i64 (stateFault s))) ∧ Below w.heap.size w w' :=
  (check_any s a cap w hr).mono fun e w' ⟨h1, h2⟩ => ⟨by rw [h1, errV_some h], h2⟩

theorem pmay_read (s : St) (who : Int) (h : pmay s who true = true) : pmay s who false = true := by
  unfold pmay at *
  by_cases h0 : s.typ = 0
  · simp [h0]
  by_cases h1 : holds s who = true
  · simp [h1]
  by_cases h2 : 5 ≤ s.typ ∧ 0 < keyOf s.regs who
  · simp [h2]
  simp [h0, h1, h2] at h
theorem pmay_holds (s : St) (who : Int) (b : Bool) (h : holds s who = true) : pmay s who b = true := by
  unfold pmay; simp [h]
theorem pmay_zero_typ (s : St) (who : Int) (b : Bool) (h : s.typ = 0) : pmay s who b = true := by
  unfold pmay; simp [h]
/-- who is known may no less than who isn't -/
theorem pmay_known (s : St) (g : Good s) (who other : Int) (b : Bool) (h1 : 0 < keyOf s.regs who) (h2 : keyOf s.regs other = 0) (h : pmay s other b = true) : pmay s who b = true := by
  unfold pmay at *
  by_cases h0 : s.typ = 0
  · simp [h0]
  have ho : holds s other = false := by
    unfold holds
    split
    · simp; omega
    · simp
      intro hp e
      have ht : s.typ < 7 := by have := g.typ h0; simp [typeMay] at this; omega
      have := g.one h0 ht
      rw [e] at this
      exact this h2
  by_cases h5 : 5 ≤ s.typ
  · simp [h5, h1]
  simp [h0, ho, h5] at h ⊢
  exact .inr h

set_option maxHeartbeats 1000000 in
theorem toprights_walk (s : St) (a : Option Addr) (cap : Nat) (who other : Int) (w : World) (hr : StR w s a) :
    Calls Try.prog 12 #[stV s a cap, .int .i64 who, .int .i64 other] w fun e w' => e = .returned (.bool true) ∧ Below w.heap.size w w' := by
  have hr1 : ∀ o, StR (w.alloc o) s a := fun o => hr.below (bal w o)
  go_enter Try.func12, Try.ntmps12
  go_wp2_with fail
  refine (may_zero 3 true _).mono ?_
  rintro e w1 ⟨rfl, b1⟩
  obtain ⟨hc, hf⟩ := bcell b1
  go_wp2_with fail
  refine (light_any s a cap _).mono ?_
  rintro e w2 ⟨rfl, h2⟩
  have b2 := b1.trans (h2.mono b1.size)
  clear hc hf
  obtain ⟨hc, hf⟩ := bcell b2
  have fin : Below w.heap.size w w2 := bover b2 (by simp)
  cases hl6 : decide (s.regs.length ≤ 6)
  · go_wp2
    go_ret
    exact ⟨rfl, fin⟩
  clear fin
  by_cases hg : stateFault s ≠ 0
  · go_wp2_with fail
    refine (check_bad s a cap _ ((hr1 _).below b2) hg).mono ?_
    rintro e w3 ⟨rfl, h3⟩
    have b3 := b2.trans (h3.mono b2.size)
    clear hc hf
    obtain ⟨hc, hf⟩ := bcell b3
    have fin : Below w.heap.size w w3 := bover b3 (by simp)
    clear hg
    go_wp2
    go_ret
    exact ⟨rfl, fin⟩
  have hg0 : stateFault s = 0 := by omega
  have good := (good_iff s).1 hg0
  go_wp2_with fail
  refine (check_good s a cap _ ((hr1 _).below b2) hg0).mono ?_
  rintro e w3 ⟨rfl, h3⟩
  have b3 := b2.trans (h3.mono b2.size)
  clear hc hf
  obtain ⟨hc, hf⟩ := bcell b3
  clear hg hg0
  have fin : Below w.heap.size w w3 := bover b3 (by simp)
  by_cases h1 : who < 1
  · go_wp2
    go_ret
    exact ⟨rfl, fin⟩
  by_cases h4 : 4 < who
  · go_wp2
    go_ret
    exact ⟨rfl, fin⟩
  by_cases o1 : other < 1
  · go_wp2
    go_ret
    exact ⟨rfl, fin⟩
  by_cases o4 : 4 < other
  · go_wp2
    go_ret
    exact ⟨rfl, fin⟩
  clear fin
  go_wp2_with fail
  refine (may_any s a cap who true _ ((hr1 _).below b3)).mono ?_
  rintro e w4 ⟨rfl, h4⟩
  have b4 := b3.trans (h4.mono b3.size)
  clear hc hf
  obtain ⟨hc, hf⟩ := bcell b4
  go_wp2_with fail
  refine (may_any s a cap who false _ ((hr1 _).below b4)).mono ?_
  rintro e w5 ⟨rfl, h5⟩
  have b5 := b4.trans (h5.mono b4.size)
  clear hc hf
  obtain ⟨hc, hf⟩ := bcell b5
  have p1 := pmay_read s who
  have p2 := pmay_holds s who true
  have p3 := pmay_zero_typ s who true
  have p4 := pmay_known s good who other true
  have p5 := pmay_known s good who other false
  have P1 := Lib.hid p1
  have P2 := Lib.hid p2
  have P3 := Lib.hid p3
  have P4 := Lib.hid p4
  have P5 := Lib.hid p5
  clear p1 p2 p3 p4 p5 good
  cases htw : pmay s who true
  · have hh : holds s who = false := by
      cases h : holds s who
      · rfl
      · have := P2.out h; rw [htw] at this; cases this
    have h0 : (s.typ == 0) = false := by
      simp; intro h; have := P3.out h; rw [htw] at this; cases this
    go_wp2_with fail
    refine (holds_any s a cap who _ ((hr1 _).below b5)).mono ?_
    rintro e w6 ⟨rfl, h6⟩
    have b6 := b5.trans (h6.mono b5.size)
    clear hc hf
    obtain ⟨hc, hf⟩ := bcell b6
    go_wp2_with fail
    refine (key_any s a cap who _ ((hr1 _).below b6)).mono ?_
    rintro e w7 ⟨rfl, h7⟩
    have b7 := b6.trans (h7.mono b6.size)
    clear hc hf
    obtain ⟨hc, hf⟩ := bcell b7
    have fin : Below w.heap.size w w7 := bover b7 (by simp)
    by_cases hk : 0 < keyOf s.regs who
    · go_wp2_with fail
      refine (key_any s a cap other _ ((hr1 _).below b7)).mono ?_
      rintro e w8 ⟨rfl, h8⟩
      have b8 := b7.trans (h8.mono b7.size)
      clear hc hf
      obtain ⟨hc, hf⟩ := bcell b8
      clear fin
      have fin : Below w.heap.size w w8 := bover b8 (by simp)
      rcases (by omega : keyOf s.regs other = 0 ∨ keyOf s.regs other ≠ 0) with hko | hko
      · have hkb : (keyOf s.regs other == 0) = true := by simp [hko]
        have hot : pmay s other true = false := by
          cases h : pmay s other true
          · rfl
          · have := P4.out hk hko h; rw [htw] at this; cases this
        have hor : pmay s who false = false → pmay s other false = false := by
          intro h'
          cases h : pmay s other false
          · rfl
          · have := P5.out hk hko h; rw [h'] at this; cases this
        clear hko fin
        go_wp2_with fail
        refine (may_any s a cap other true _ ((hr1 _).below b8)).mono ?_
        rintro e w9 ⟨rfl, h9⟩
        have b9 := b8.trans (h9.mono b8.size)
        clear hc hf
        obtain ⟨hc, hf⟩ := bcell b9
        have fin : Below w.heap.size w w9 := bover b9 (by simp)
        cases hrr : pmay s who false
        · have hor' := hor hrr
          clear hor
          go_wp2_with fail
          refine (may_any s a cap other false _ ((hr1 _).below b9)).mono ?_
          rintro e w10 ⟨rfl, h10⟩
          have b10 := b9.trans (h10.mono b9.size)
          clear hc hf
          obtain ⟨hc, hf⟩ := bcell b10
          have fin : Below w.heap.size w w10 := bover b10 (by simp)
          go_wp2
          go_ret
          exact ⟨rfl, fin⟩
        · clear hor
          go_wp2
          go_ret
          exact ⟨rfl, fin⟩
      · have hkb : (keyOf s.regs other == 0) = false := by simp [hko]
        clear hko
        go_wp2
        go_ret
        exact ⟨rfl, fin⟩
    · go_wp2
      go_ret
      exact ⟨rfl, fin⟩
  · have htr : pmay s who false = true := P1.out htw
    go_wp2_with fail
    refine (holds_any s a cap who _ ((hr1 _).below b5)).mono ?_
    rintro e w6 ⟨rfl, h6⟩
    have b6 := b5.trans (h6.mono b5.size)
    clear hc hf
    obtain ⟨hc, hf⟩ := bcell b6
    have stop : ∀ w7, Below w6.heap.size w6 w7 → Below w.heap.size w w7 := fun w7 h => bover (b6.trans (h.mono b6.size)) (by simp)
    have STOP := Lib.hid stop
    clear stop
    rcases (by omega : s.typ = 0 ∨ s.typ ≠ 0) with h0 | h0
    · have h0' : (s.typ == 0) = true := by simp [h0]
      clear h0
      cases hh : holds s who
      all_goals
        go_wp2_with fail
        refine (key_any s a cap who _ ((hr1 _).below b6)).mono ?_
        rintro e w7 ⟨rfl, h7⟩
        have b7 := b6.trans (h7.mono b6.size)
        clear hc hf
        obtain ⟨hc, hf⟩ := bcell b7
        by_cases hk : 0 < keyOf s.regs who
        · go_wp2_with fail
          refine (key_any s a cap other _ ((hr1 _).below b7)).mono ?_
          rintro e w8 ⟨rfl, h8⟩
          have b8 := b7.trans (h8.mono b7.size)
          clear hc hf
          obtain ⟨hc, hf⟩ := bcell b8
          rcases (by omega : keyOf s.regs other = 0 ∨ keyOf s.regs other ≠ 0) with hko | hko
          · have hkb : (keyOf s.regs other == 0) = true := by simp [hko]
            clear hko
            go_wp2
            go_ret
            exact ⟨rfl, bover b8 (by simp)⟩
          · have hkb : (keyOf s.regs other == 0) = false := by simp [hko]
            clear hko
            go_wp2
            go_ret
            exact ⟨rfl, bover b8 (by simp)⟩
        · go_wp2
          go_ret
          exact ⟨rfl, bover b7 (by simp)⟩
    · have h0' : (s.typ == 0) = false := by simp [h0]
      clear h0
      cases hh : holds s who
      all_goals
        go_wp2_with fail
        refine (key_any s a cap who _ ((hr1 _).below b6)).mono ?_
        rintro e w7 ⟨rfl, h7⟩
        have b7 := b6.trans (h7.mono b6.size)
        clear hc hf
        obtain ⟨hc, hf⟩ := bcell b7
        by_cases hk : 0 < keyOf s.regs who
        · go_wp2_with fail
          refine (key_any s a cap other _ ((hr1 _).below b7)).mono ?_
          rintro e w8 ⟨rfl, h8⟩
          have b8 := b7.trans (h8.mono b7.size)
          clear hc hf
          obtain ⟨hc, hf⟩ := bcell b8
          rcases (by omega : keyOf s.regs other = 0 ∨ keyOf s.regs other ≠ 0) with hko | hko
          · have hkb : (keyOf s.regs other == 0) = true := by simp [hko]
            clear hko
            go_wp2
            go_ret
            exact ⟨rfl, bover b8 (by simp)⟩
          · have hkb : (keyOf s.regs other == 0) = false := by simp [hko]
            clear hko
            go_wp2
            go_ret
            exact ⟨rfl, bover b8 (by simp)⟩
        · go_wp2
          go_ret
          exact ⟨rfl, bover b7 (by simp)⟩
end Go.Proofs.Ytdnkkdpcpbmbmaa
