/-
  Contract of the document's StateFault.
-/
import Derived.Test.YtamjmejkffhmeaaGreatDoorFaultP
import Derived.Test.YtamjmejkffhmeaaGreatDoorRefT
import Derived.Test.YtamjmejkffhmeaaGreatDoorHoldR
namespace Go.Proofs.YtamjmejkffhmeaaGreatDoor
open Go.RowKit

set_option maxHeartbeats 1000000 in
theorem rfault_any (s : St) (a : Option Addr) (cap : Nat) (w : World) (hr : StR w s a) :
    Calls Tryz.prog 10 #[stV s a cap] w fun e w' => e = .returned (.int .i64 (stateFault s)) ∧ Below w.heap.size w w' := by
  obtain ⟨g, l, t, h, st⟩ := s
  have hr0 := hr
  obtain ⟨hl, hr⟩ := hr
  unfold maxLen at hl
  dsimp only at hl hr
  by_cases hg : g < 0 ∨ 1000000000 < g
  · rw [sf_gen hg]
    rcases hg with hg | hg
    · go_enter Tryz.func10, Tryz.ntmps10
      go_wp2
      go_ret
      exact ⟨rfl, bal w _⟩
    · have hg' : ¬ g < 0 := by omega
      go_enter Tryz.func10, Tryz.ntmps10
      go_wp2
      go_ret
      exact ⟨rfl, bal w _⟩
  have hg1 : 0 ≤ g := by omega
  have hg2 : g ≤ 1000000000 := by omega
  have FR : regsFault 0 l ≠ 0 → stateFault ⟨g, l, t, h, st⟩ = regsFault 0 l := fun hx => sf_regs hg hx
  have FZ : regsFault 0 l = 0 → stateFault ⟨g, l, t, h, st⟩ = sfRest ⟨g, l, t, h, st⟩ := fun hx => sf_rest hg hx
  have HFR := Lib.hid FR
  have HFZ := Lib.hid FZ
  clear FR FZ hg
  go_enter Tryz.func10, Tryz.ntmps10
  go_wp2
  go_loopw [3] (fun i wr => ∃ k : Nat, k ≤ l.length ∧ i = .int .i64 k ∧ regsFault (prevOf l k) (l.drop k) = regsFault 0 l ∧ Below (w.heap.size + 1) (w.alloc (.cells #[.int .i64 g, .slice a l.length cap, .int .i64 t, .int .i64 h, .bool st] 24)) wr) (fun i _ => l.length - (intOf i).toNat)
  case atStart => exact ⟨0, by omega, rfl, rfl, Below.refl _ _⟩
  case round =>
    obtain ⟨k, hk, rfl, hK, hb⟩ := hrel
    have HK := Lib.hid hK; clear hK
    have hs := bsz hb
    have cw : ∀ o, wr.cell? ⟨w.heap.size, o, none⟩ = (w.alloc (.cells #[.int .i64 g, .slice a l.length cap, .int .i64 t, .int .i64 h, .bool st] 24)).cell? ⟨w.heap.size, o, none⟩ := fun o => hb.cell (p := ⟨w.heap.size, o, none⟩) (by simp)
    have hs1 : w.heap.size < wr.heap.size := by omega
    by_cases hlt : k < l.length
    · obtain ⟨b, o, rfl, hbs, h1, h2⟩ := hr k hlt
      have hs2 : b < wr.heap.size := by omega
      have c1 := ((bover hb (by omega)).cell (p := ⟨b, o + k * 2, none⟩) hbs).trans h1
      have c2 := ((bover hb (by omega)).cell (p := ⟨b, o + k * 2 + 1, none⟩) hbs).trans h2
      have fin : stateFault ⟨g, l, t, h, st⟩ ≠ 0 → True := fun _ => trivial
      by_cases b1 : l[k].1 < 1 ∨ 4 < l[k].1 ∨ l[k].2 < 1 ∨ 999 < l[k].2
      · have e1 : (1 : Int) = stateFault ⟨g, l, t, h, st⟩ := by
          have := rf_bound l k hlt (prevOf l k) b1
          rw [HK.out] at this
          rw [HFR.out (by omega), this]
        have E1 := Lib.hid e1; clear e1
        clear hr
        by_cases d1 : l[k].1 < 1
        · go_wp2
          go_ret
          exact ⟨ret_int E1.out, (bover hb (by omega)).trans ((bal wr _).mono (by omega))⟩
        by_cases d2 : 4 < l[k].1
        · go_wp2
          go_ret
          exact ⟨ret_int E1.out, (bover hb (by omega)).trans ((bal wr _).mono (by omega))⟩
        by_cases d3 : l[k].2 < 1
        · go_wp2
          go_ret
          exact ⟨ret_int E1.out, (bover hb (by omega)).trans ((bal wr _).mono (by omega))⟩
        have d4 : 999 < l[k].2 := by omega
        go_wp2
        go_ret
        exact ⟨ret_int E1.out, (bover hb (by omega)).trans ((bal wr _).mono (by omega))⟩
      · have d1 : ¬ l[k].1 < 1 := by omega
        have d2 : ¬ 4 < l[k].1 := by omega
        have d3 : ¬ l[k].2 < 1 := by omega
        have d4 : ¬ 999 < l[k].2 := by omega
        have B1 := Lib.hid b1; clear b1
        cases k with
        | zero =>
          have d0 : decide ((0 : Int) < ((0 : Nat) : Int)) = false := by simp
          clear hr
          simp only [Nat.zero_mul, Nat.add_zero] at c1 c2
          go_wp2
          go_quiet (fail)
          go_wp2
          go_roundw
          case rel => exact ⟨1, by omega, rfl, by rw [← HK.out, rf_on l 0 hlt _ B1.out (by simp only [prevOf]; omega), prevOf_succ l 0 hlt], below_drewN (hb.alloc (by omega) _) _⟩
          case measure => simp [intOf]; omega
        | succ j =>
          have hj : j < l.length := by omega
          obtain ⟨b', o', hbo, hbs', h1', h2'⟩ := hr j hj
          obtain ⟨rfl, rfl⟩ : b = b' ∧ o = o' := by simpa using hbo
          have c3 := ((bover hb (by omega)).cell (p := ⟨b, o + j * 2, none⟩) hbs').trans h1'
          clear hr
          have x1 : IntKind.i64.wrap ((j : Int) + 1 - 1) = (j : Int) := by rw [IntWalk.i64_in _ (by omega)]; omega
          have x2 : (j : Int) + 1 - 1 = (j : Int) := by omega
          by_cases b2 : l[j + 1].1 ≤ l[j].1
          · have e2 : (2 : Int) = stateFault ⟨g, l, t, h, st⟩ := by
              have := rf_shape l (j+1) hlt (prevOf l (j+1)) B1.out (by rw [prevOf_succ l j hj]; exact b2)
              rw [HK.out] at this
              rw [HFR.out (by omega), this]
            have E2 := Lib.hid e2; clear e2
            go_wp2
            go_quiet (fail)
            go_wp2
            go_ret
            exact ⟨ret_int E2.out, below_drewN ((bover hb (by omega)).trans ((bal wr _).mono (by omega))) _⟩
          · go_wp2
            go_quiet (fail)
            go_wp2
            go_roundw
            case rel => exact ⟨j + 2, by omega, by go_num, by rw [← HK.out, rf_on l (j+1) hlt _ B1.out (by rw [prevOf_succ l j hj]; omega), prevOf_succ l (j+1) hlt], below_drewN (hb.alloc (by omega) _) _⟩
            case measure => simp [intOf]; omega
    · have hz : regsFault 0 l = 0 := by rw [← HK.out, List.drop_of_length_le (by omega)]; rfl
      have e0 := HFZ.out hz
      have E0 := Lib.hid e0
      clear e0 hz HFR HFZ HK
      have hrw : StR wr ⟨g, l, t, h, st⟩ a := hr0.below (bover hb (by omega))
      clear hr hr0
      by_cases t0 : t = 0
      · subst t0
        by_cases h0 : h = 0
        · subst h0
          go_wp2
          go_ret
          exact ⟨ret_int (by rw [E0.out]; rfl), bover hb (by omega)⟩
        · have hh : (h != 0) = true := by simp [h0]
          go_wp2
          go_ret
          exact ⟨ret_int (by rw [E0.out]; simp [sfRest, h0]), bover hb (by omega)⟩
      have t0' : (t == 0) = false := by simp [t0]
      cases htm : typeMay t
      · have er : stateFault ⟨g, l, t, h, st⟩ = 2 := by rw [E0.out]; simp [sfRest, t0, htm]
        have ER := Lib.hid er
        clear er
        go_wp2_with fail
        refine (typemay_any t _).mono ?_
        rintro e w1 ⟨rfl, rfl⟩
        go_wp2
        go_ret
        exact ⟨ret_int ER.out.symm, bover hb (by omega)⟩
      · by_cases t7 : 7 ≤ t
        · by_cases h0 : h = 0
          · subst h0
            by_cases hlen : l.length = 0
            · have er : stateFault ⟨g, l, t, 0, st⟩ = 2 := by rw [E0.out]; simp [sfRest, t0, htm, t7, hlen]
              have ER := Lib.hid er
              have hle : ((l.length : Int) == 0) = true := by simp [hlen]
              clear er hlen
              go_wp2_with fail
              refine (typemay_any t _).mono ?_
              rintro e w1 ⟨rfl, rfl⟩
              go_wp2
              go_ret
              exact ⟨ret_int ER.out.symm, bover hb (by omega)⟩
            · have er : stateFault ⟨g, l, t, 0, st⟩ = 0 := by
                have : l ≠ [] := fun e => hlen (by rw [e]; rfl)
                rw [E0.out]; simp [sfRest, t0, htm, t7, this]
              have ER := Lib.hid er
              have hle : ((l.length : Int) == 0) = false := by simp; exact fun e => hlen (by rw [e]; rfl)
              clear er hlen
              go_wp2_with fail
              refine (typemay_any t _).mono ?_
              rintro e w1 ⟨rfl, rfl⟩
              go_wp2
              go_ret
              exact ⟨ret_int ER.out.symm, bover hb (by omega)⟩
          · have hh : (h != 0) = true := by simp [h0]
            have er : stateFault ⟨g, l, t, h, st⟩ = 2 := by rw [E0.out]; simp [sfRest, t0, htm, t7, h0]
            have ER := Lib.hid er
            clear er
            go_wp2_with fail
            refine (typemay_any t _).mono ?_
            rintro e w1 ⟨rfl, rfl⟩
            go_wp2
            go_ret
            exact ⟨ret_int ER.out.symm, bover hb (by omega)⟩
        · by_cases hk0 : keyOf l h = 0
          · have er : stateFault ⟨g, l, t, h, st⟩ = 2 := by rw [E0.out]; simp [sfRest, t0, htm, t7, hk0]
            have ER := Lib.hid er
            have hkb : (keyOf l h == 0) = true := by simp [hk0]
            clear er hk0
            go_wp2_with fail
            refine (typemay_any t _).mono ?_
            rintro e w1 ⟨rfl, rfl⟩
            go_wp2_with fail
            refine (rkey_any ⟨g, l, t, h, st⟩ a cap h _ hrw).mono ?_
            rintro e w2 ⟨rfl, hb2⟩
            go_wp2
            go_ret
            exact ⟨ret_int ER.out.symm, (bover hb (by omega)).trans (hb2.mono (by omega))⟩
          · have er : stateFault ⟨g, l, t, h, st⟩ = 0 := by rw [E0.out]; simp [sfRest, t0, htm, t7, hk0]
            have ER := Lib.hid er
            have hkb : (keyOf l h == 0) = false := by simp [hk0]
            clear er hk0
            go_wp2_with fail
            refine (typemay_any t _).mono ?_
            rintro e w1 ⟨rfl, rfl⟩
            go_wp2_with fail
            refine (rkey_any ⟨g, l, t, h, st⟩ a cap h _ hrw).mono ?_
            rintro e w2 ⟨rfl, hb2⟩
            go_wp2
            go_ret
            exact ⟨ret_int ER.out.symm, (bover hb (by omega)).trans (hb2.mono (by omega))⟩
end Go.Proofs.YtamjmejkffhmeaaGreatDoor
