/-
  Contract of hold.Check: nil where the document's fault is 0, else the error of that number.
-/
import Derived.Test.YtamjmejkffhmeaaGreatDoorFaultP
import Derived.Test.YtamjmejkffhmeaaGreatDoorType
namespace Go.Proofs.YtamjmejkffhmeaaGreatDoor
open Go.RowKit

/-- an error by its number (0: none) -/
def errV (f : Int) : Value := if f = 0 then .nilIface else .iface 43 (.int .i64 f)
theorem errV_nil : errV 0 = .nilIface := rfl
theorem errV_some {f : Int} (h : f ≠ 0) : errV f = .iface 43 (.int .i64 f) := by unfold errV; rw [if_neg h]
theorem ret_err {f g : Int} (h : g = f) (hf : f ≠ 0) : Ending.returned (.iface 43 (.int .i64 f)) = Ending.returned (errV g) := by rw [h, errV_some hf]
theorem ret_nil {g : Int} (h : g = 0) : Ending.returned .nilIface = Ending.returned (errV g) := by rw [h, errV_nil]

set_option maxHeartbeats 1000000 in
theorem check_any (s : St) (a : Option Addr) (cap : Nat) (w : World) (hr : StR w s a) :
    Calls Tryz.prog 19 #[stV s a cap] w fun e w' => e = .returned (errV (stateFault s)) ∧ Below w.heap.size w w' := by
  obtain ⟨g, l, t, h, st⟩ := s
  have hr0 := hr
  obtain ⟨hl, hr⟩ := hr
  unfold maxLen at hl
  dsimp only at hl hr
  by_cases hg : g < 0 ∨ 1000000000 < g
  · rw [sf_gen hg]
    rcases hg with hg | hg
    · go_enter Tryz.func19, Tryz.ntmps19
      go_wp2
      go_ret
      exact ⟨ret_err rfl (by omega), bal w _⟩
    · have hg' : ¬ g < 0 := by omega
      go_enter Tryz.func19, Tryz.ntmps19
      go_wp2
      go_ret
      exact ⟨ret_err rfl (by omega), bal w _⟩
  have hg1 : 0 ≤ g := by omega
  have hg2 : g ≤ 1000000000 := by omega
  have FR : regsFault 0 l ≠ 0 → stateFault ⟨g, l, t, h, st⟩ = regsFault 0 l := fun hx => sf_regs hg hx
  have FZ : regsFault 0 l = 0 → stateFault ⟨g, l, t, h, st⟩ = sfRest ⟨g, l, t, h, st⟩ := fun hx => sf_rest hg hx
  have HFR := Lib.hid FR
  have HFZ := Lib.hid FZ
  clear FR FZ hg
  go_enter Tryz.func19, Tryz.ntmps19
  go_wp2
  go_loopw [17] (fun i wr => ∃ k : Nat, k ≤ l.length ∧ i = .int .i64 k ∧ regsFault (prevOf l k) (l.drop k) = regsFault 0 l ∧ Below (w.heap.size + 1) (w.alloc (.cells #[.int .i64 g, .slice a l.length cap, .int .i64 t, .int .i64 h, .bool st] 24)) wr) (fun i _ => l.length - (intOf i).toNat)
  case atStart => exact ⟨0, by omega, rfl, rfl, Below.refl _ _⟩
  case round =>
    obtain ⟨k, hk, rfl, hK, hb⟩ := hrel
    have HK := Lib.hid hK; clear hK
    have hs := bsz hb
    have cw : ∀ o, wr.cell? ⟨w.heap.size, o, none⟩ = (w.alloc (.cells #[.int .i64 g, .slice a l.length cap, .int .i64 t, .int .i64 h, .bool st] 24)).cell? ⟨w.heap.size, o, none⟩ := fun o => hb.cell (p := ⟨w.heap.size, o, none⟩) (by simp)
    have hs1 : w.heap.size < wr.heap.size := by omega
    by_cases hlt : k < l.length
    · obtain ⟨b, o, rfl, hbs, h1, h2⟩ := hr k hlt
      have hs2 : b < wr.heap.size := by omega
      have c1 := ((bover hb (by omega)).cell (p := ⟨b, o + k * 2, none⟩) hbs).trans h1
      have c2 := ((bover hb (by omega)).cell (p := ⟨b, o + k * 2 + 1, none⟩) hbs).trans h2
      have fin : stateFault ⟨g, l, t, h, st⟩ ≠ 0 → True := fun _ => trivial
      by_cases b1 : l[k].1 < 1 ∨ 4 < l[k].1 ∨ l[k].2 < 1 ∨ 999 < l[k].2
      · have e1 : (1 : Int) = stateFault ⟨g, l, t, h, st⟩ := by
          have := rf_bound l k hlt (prevOf l k) b1
          rw [HK.out] at this
          rw [HFR.out (by omega), this]
        have E1 := Lib.hid e1; clear e1
        clear hr
        by_cases d1 : l[k].1 < 1
        · go_wp2
          go_ret
          exact ⟨ret_err E1.out.symm (by omega), (bover hb (by omega)).trans ((bal wr _).mono (by omega))⟩
        by_cases d2 : 4 < l[k].1
        · go_wp2
          go_ret
          exact ⟨ret_err E1.out.symm (by omega), (bover hb (by omega)).trans ((bal wr _).mono (by omega))⟩
        by_cases d3 : l[k].2 < 1
        · go_wp2
          go_ret
          exact ⟨ret_err E1.out.symm (by omega), (bover hb (by omega)).trans ((bal wr _).mono (by omega))⟩
        have d4 : 999 < l[k].2 := by omega
        go_wp2
        go_ret
        exact ⟨ret_err E1.out.symm (by omega), (bover hb (by omega)).trans ((bal wr _).mono (by omega))⟩
      · have d1 : ¬ l[k].1 < 1 := by omega
        have d2 : ¬ 4 < l[k].1 := by omega
        have d3 : ¬ l[k].2 < 1 := by omega
        have d4 : ¬ 999 < l[k].2 := by omega
        have B1 := Lib.hid b1; clear b1
        cases k with
        | zero =>
          have d0 : decide ((0 : Int) < ((0 : Nat) : Int)) = false := by simp
          clear hr
          simp only [Nat.zero_mul, Nat.add_zero] at c1 c2
          go_wp2
          go_quiet (fail)
          go_wp2
          go_roundw
          case rel => exact ⟨1, by omega, rfl, by rw [← HK.out, rf_on l 0 hlt _ B1.out (by simp only [prevOf]; omega), prevOf_succ l 0 hlt], below_drewN (hb.alloc (by omega) _) _⟩
          case measure => simp [intOf]; omega
        | succ j =>
          have hj : j < l.length := by omega
          obtain ⟨b', o', hbo, hbs', h1', h2'⟩ := hr j hj
          obtain ⟨rfl, rfl⟩ : b = b' ∧ o = o' := by simpa using hbo
          have c3 := ((bover hb (by omega)).cell (p := ⟨b, o + j * 2, none⟩) hbs').trans h1'
          clear hr
          have x1 : IntKind.i64.wrap ((j : Int) + 1 - 1) = (j : Int) := by rw [IntWalk.i64_in _ (by omega)]; omega
          have x2 : (j : Int) + 1 - 1 = (j : Int) := by omega
          by_cases b2 : l[j + 1].1 ≤ l[j].1
          · have e2 : (2 : Int) = stateFault ⟨g, l, t, h, st⟩ := by
              have := rf_shape l (j+1) hlt (prevOf l (j+1)) B1.out (by rw [prevOf_succ l j hj]; exact b2)
              rw [HK.out] at this
              rw [HFR.out (by omega), this]
            have E2 := Lib.hid e2; clear e2
            go_wp2
            go_quiet (fail)
            go_wp2
            go_ret
            exact ⟨ret_err E2.out.symm (by omega), below_drewN ((bover hb (by omega)).trans ((bal wr _).mono (by omega))) _⟩
          · go_wp2
            go_quiet (fail)
            go_wp2
            go_roundw
            case rel => exact ⟨j + 2, by omega, by go_num, by rw [← HK.out, rf_on l (j+1) hlt _ B1.out (by rw [prevOf_succ l j hj]; omega), prevOf_succ l (j+1) hlt], below_drewN (hb.alloc (by omega) _) _⟩
            case measure => simp [intOf]; omega
    · have hz : regsFault 0 l = 0 := by rw [← HK.out, List.drop_of_length_le (by omega)]; rfl
      have e0 := HFZ.out hz
      have E0 := Lib.hid e0
      clear e0 hz HFR HFZ HK
      have hrw : StR wr ⟨g, l, t, h, st⟩ a := hr0.below (bover hb (by omega))
      clear hr hr0
      have fin : ∀ (w2 : World) (f : Int), Below wr.heap.size wr w2 → stateFault ⟨g, l, t, h, st⟩ = f → f ≠ 0 → Ending.returned (.iface 43 (.int .i64 f)) = Ending.returned (errV (stateFault ⟨g, l, t, h, st⟩)) ∧ Below w.heap.size w w2 :=
        fun w2 f hb2 e hf => ⟨ret_err e hf, (bover hb (by omega)).trans (hb2.mono (by omega))⟩
      have fin0 : ∀ (w2 : World), Below wr.heap.size wr w2 → stateFault ⟨g, l, t, h, st⟩ = 0 → Ending.returned .nilIface = Ending.returned (errV (stateFault ⟨g, l, t, h, st⟩)) ∧ Below w.heap.size w w2 :=
        fun w2 hb2 e => ⟨ret_nil e, (bover hb (by omega)).trans (hb2.mono (by omega))⟩
      have FIN := Lib.hid fin
      have FIN0 := Lib.hid fin0
      clear fin fin0
      by_cases t0 : t = 0
      · subst t0
        by_cases h0 : h = 0
        · subst h0
          go_wp2
          go_ret
          exact FIN0.out _ (Below.refl _ _) (by rw [E0.out]; rfl)
        · have hh : (h != 0) = true := by simp [h0]
          go_wp2
          go_ret
          exact FIN.out _ _ (Below.refl _ _) (by rw [E0.out]; simp [sfRest, h0]) (by omega)
      have t0' : (t == 0) = false := by simp [t0]
      have cb : ∀ (w1 : World), Below wr.heap.size wr w1 → ∀ o, w1.cell? ⟨w.heap.size, o, none⟩ = (w.alloc (.cells #[.int .i64 g, .slice a l.length cap, .int .i64 t, .int .i64 h, .bool st] 24)).cell? ⟨w.heap.size, o, none⟩ :=
        fun w1 hb1 o => (hb1.cell (p := ⟨w.heap.size, o, none⟩) (by show w.heap.size < _; omega)).trans (cw o)
      have CB := Lib.hid cb
      clear cb cw
      cases htm : typeMay t
      · have er : stateFault ⟨g, l, t, h, st⟩ = 2 := by rw [E0.out]; simp [sfRest, t0, htm]
        have ER := Lib.hid er
        clear er
        have cw1 := CB.out _ (Below.refl _ wr)
        go_wp2_with fail
        refine (type_any t _).mono ?_
        rintro e w1 ⟨rfl, hb1⟩
        have cw2 := CB.out _ hb1
        go_wp2
        go_ret
        exact FIN.out _ _ hb1 ER.out (by omega)
      · by_cases t7 : 7 ≤ t
        · have ha : allT t = true := by simp [typeMay] at htm; simp [allT]; omega
          by_cases h0 : h = 0
          · subst h0
            have hlen' : l.length = 0 ∨ l.length ≠ 0 := by omega
            rcases hlen' with hlen | hlen
            · have er : stateFault ⟨g, l, t, 0, st⟩ = 2 := by rw [E0.out]; simp [sfRest, t0, htm, t7, hlen]
              have ER := Lib.hid er
              have hle : ((l.length : Int) == 0) = true := by simp [hlen]
              clear er hlen
              have cw1 := CB.out _ (Below.refl _ wr)
              go_wp2_with fail
              refine (type_any t _).mono ?_
              rintro e w1 ⟨rfl, hb1⟩
              have cw2 := CB.out _ hb1
              go_wp2_with fail
              refine (all_any ⟨g, l, t, 0, st⟩ a cap _).mono ?_
              rintro e w2 ⟨rfl, hb2⟩
              have hb12 := hb1.trans (hb2.mono hb1.size)
              have cw3 := CB.out _ hb12
              go_wp2
              go_ret
              exact FIN.out _ _ hb12 ER.out (by omega)
            · have er : stateFault ⟨g, l, t, 0, st⟩ = 0 := by
                have : l ≠ [] := fun e => hlen (by rw [e]; rfl)
                rw [E0.out]; simp [sfRest, t0, htm, t7, this]
              have ER := Lib.hid er
              have hle : ((l.length : Int) == 0) = false := by simp; exact fun e => hlen (by rw [e]; rfl)
              clear er hlen
              have cw1 := CB.out _ (Below.refl _ wr)
              go_wp2_with fail
              refine (type_any t _).mono ?_
              rintro e w1 ⟨rfl, hb1⟩
              have cw2 := CB.out _ hb1
              go_wp2_with fail
              refine (all_any ⟨g, l, t, 0, st⟩ a cap _).mono ?_
              rintro e w2 ⟨rfl, hb2⟩
              have hb12 := hb1.trans (hb2.mono hb1.size)
              have cw3 := CB.out _ hb12
              go_wp2_with fail
              refine (all_any ⟨g, l, t, 0, st⟩ a cap _).mono ?_
              rintro e w3 ⟨rfl, hb3⟩
              have hb13 := hb12.trans (hb3.mono hb12.size)
              have cw4 := CB.out _ hb13
              go_wp2
              go_ret
              exact FIN0.out _ hb13 ER.out
          · have hh : (h != 0) = true := by simp [h0]
            have er : stateFault ⟨g, l, t, h, st⟩ = 2 := by rw [E0.out]; simp [sfRest, t0, htm, t7, h0]
            have ER := Lib.hid er
            clear er
            have cw1 := CB.out _ (Below.refl _ wr)
            go_wp2_with fail
            refine (type_any t _).mono ?_
            rintro e w1 ⟨rfl, hb1⟩
            have cw2 := CB.out _ hb1
            go_wp2_with fail
            refine (all_any ⟨g, l, t, h, st⟩ a cap _).mono ?_
            rintro e w2 ⟨rfl, hb2⟩
            have hb12 := hb1.trans (hb2.mono hb1.size)
            have cw3 := CB.out _ hb12
            go_wp2
            go_ret
            exact FIN.out _ _ hb12 ER.out (by omega)
        · have ha : allT t = false := by simp [allT]; omega
          have hk' : keyOf l h = 0 ∨ keyOf l h ≠ 0 := by omega
          rcases hk' with hk0 | hk0
          · have er : stateFault ⟨g, l, t, h, st⟩ = 2 := by rw [E0.out]; simp [sfRest, t0, htm, t7, hk0]
            have ER := Lib.hid er
            have hkb : (keyOf l h == 0) = true := by simp [hk0]
            clear er hk0
            have cw1 := CB.out _ (Below.refl _ wr)
            go_wp2_with fail
            refine (type_any t _).mono ?_
            rintro e w1 ⟨rfl, hb1⟩
            have cw2 := CB.out _ hb1
            go_wp2_with fail
            refine (all_any ⟨g, l, t, h, st⟩ a cap _).mono ?_
            rintro e w2 ⟨rfl, hb2⟩
            have hb12 := hb1.trans (hb2.mono hb1.size)
            have cw3 := CB.out _ hb12
            go_wp2_with fail
            refine (all_any ⟨g, l, t, h, st⟩ a cap _).mono ?_
            rintro e w3 ⟨rfl, hb3⟩
            have hb13 := hb12.trans (hb3.mono hb12.size)
            have cw4 := CB.out _ hb13
            have hr3 := hrw.below hb13
            go_wp2_with fail
            refine (key_any ⟨g, l, t, h, st⟩ a cap h _ hr3).mono ?_
            rintro e w4 ⟨rfl, hb4⟩
            go_wp2
            go_ret
            exact FIN.out _ _ (hb13.trans (hb4.mono hb13.size)) ER.out (by omega)
          · have er : stateFault ⟨g, l, t, h, st⟩ = 0 := by rw [E0.out]; simp [sfRest, t0, htm, t7, hk0]
            have ER := Lib.hid er
            have hkb : (keyOf l h == 0) = false := by simp [hk0]
            clear er hk0
            have cw1 := CB.out _ (Below.refl _ wr)
            go_wp2_with fail
            refine (type_any t _).mono ?_
            rintro e w1 ⟨rfl, hb1⟩
            have cw2 := CB.out _ hb1
            go_wp2_with fail
            refine (all_any ⟨g, l, t, h, st⟩ a cap _).mono ?_
            rintro e w2 ⟨rfl, hb2⟩
            have hb12 := hb1.trans (hb2.mono hb1.size)
            have cw3 := CB.out _ hb12
            go_wp2_with fail
            refine (all_any ⟨g, l, t, h, st⟩ a cap _).mono ?_
            rintro e w3 ⟨rfl, hb3⟩
            have hb13 := hb12.trans (hb3.mono hb12.size)
            have cw4 := CB.out _ hb13
            have hr3 := hrw.below hb13
            go_wp2_with fail
            refine (key_any ⟨g, l, t, h, st⟩ a cap h _ hr3).mono ?_
            rintro e w4 ⟨rfl, hb4⟩
            go_wp2
            go_ret
            exact FIN0.out _ (hb13.trans (hb4.mono hb13.size)) ER.out
end Go.Proofs.YtamjmejkffhmeaaGreatDoor
