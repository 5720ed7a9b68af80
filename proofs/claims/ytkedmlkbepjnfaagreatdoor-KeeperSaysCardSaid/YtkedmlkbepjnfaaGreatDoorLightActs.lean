/-
  Contract: LightActs.
-/
import Derived.Test.YtkedmlkbepjnfaaGreatDoorActs
import Derived.Test.YtkedmlkbepjnfaaGreatDoorLight
namespace Go.Proofs.YtkedmlkbepjnfaaGreatDoor
open Go.RowKit Go.Sort

theorem act_cells {w : World} {b o : Nat} {x : Ac} (h : w.rangeAt b o x.cells) :
    (w.cell? ⟨b, o, none⟩ = some (.string x.kind) ∧ w.cell? ⟨b, o + 1, none⟩ = some (.int .i64 x.a) ∧ w.cell? ⟨b, o + 2, none⟩ = some (.int .i64 x.b) ∧ w.cell? ⟨b, o + 3, none⟩ = some (.string x.s) ∧ w.cell? ⟨b, o + 4, none⟩ = some (.int .u64 x.k)) ∧
    (w.cell? ⟨b, o + 5, none⟩ = some (.int .i64 x.st.gen) ∧ w.cell? ⟨b, o + 6, none⟩ = some (.slice x.ra x.st.regs.length x.rc) ∧ w.cell? ⟨b, o + 7, none⟩ = some (.int .i64 x.st.typ) ∧ w.cell? ⟨b, o + 8, none⟩ = some (.int .i64 x.st.holder) ∧ w.cell? ⟨b, o + 9, none⟩ = some (.bool x.st.stays)) ∧
    (w.cell? ⟨b, o + 10, none⟩ = some (.int .i64 x.cm.op) ∧ w.cell? ⟨b, o + 11, none⟩ = some (.int .i64 x.cm.who) ∧ w.cell? ⟨b, o + 12, none⟩ = some (.int .i64 x.cm.key) ∧ w.cell? ⟨b, o + 13, none⟩ = some (.int .i64 x.cm.new) ∧ w.cell? ⟨b, o + 14, none⟩ = some (.int .i64 x.cm.typ) ∧ w.cell? ⟨b, o + 15, none⟩ = some (.int .i64 x.cm.at') ∧ w.cell? ⟨b, o + 16, none⟩ = some (.bool x.cm.stays) ∧ w.cell? ⟨b, o + 17, none⟩ = some (.string x.cm.data) ∧ w.cell? ⟨b, o + 18, none⟩ = some (.string x.cm.want)) :=
  ⟨⟨h 0 _ rfl, h 1 _ rfl, h 2 _ rfl, h 3 _ rfl, h 4 _ rfl⟩, ⟨h 5 _ rfl, h 6 _ rfl, h 7 _ rfl, h 8 _ rfl, h 9 _ rfl⟩, h 10 _ rfl, h 11 _ rfl, h 12 _ rfl, h 13 _ rfl, h 14 _ rfl, h 15 _ rfl, h 16 _ rfl, h 17 _ rfl, h 18 _ rfl⟩
theorem AcOk.below {w w' : World} {x : Ac} (h : AcOk w x) (b : Below w.heap.size w w') : AcOk w' x := ⟨h.str.below b, h.ki, h.si, h.ai, h.bi, h.ku, h.ci⟩
theorem ActsAt.below {w w' : World} {a : Option Addr} {l : List Ac} (h : ActsAt w a l) (b : Below w.heap.size w w') : ActsAt w' a l := by
  intro i hi
  obtain ⟨h1, c, o, h2, h3, h4⟩ := h i hi
  exact ⟨h1.below b, c, o, h2, Nat.lt_of_lt_of_le h3 b.size, fun j v hv => (b.cell (p := ⟨c, _, none⟩) h3).trans (h4 j v hv)⟩

set_option maxRecDepth 100000 in
set_option maxHeartbeats 2000000 in
theorem lightacts_any (l : List Ac) (a : Option Addr) (cap : Nat) (most : Nat) (w : World) (hl : l.length ≤ maxLen) (hr : ActsAt w a l) :
    Calls Tryz.prog 6 #[.slice a l.length cap, .int .i64 most] w fun e w' => ∃ b : Bool, e = .returned (.bool b) ∧ (b = true → l.length ≤ most ∧ ∀ x ∈ l, x.s.size ≤ 100) ∧ Below w.heap.size w w' := by
  unfold maxLen at hl
  have HR := Lib.hid hr
  clear hr
  by_cases hm : l.length ≤ most
  · have hmb : decide (most < l.length) = false := by simp; omega
    go_enter Tryz.func6, Tryz.ntmps6
    go_wp2
    go_loopw [5] (fun i wr => ∃ k : Nat, k ≤ l.length ∧ i = .int .i64 k ∧ (∀ j (h : j < l.length), j < k → l[j].s.size ≤ 100) ∧ Below w.heap.size w wr) (fun i _ => l.length - (intOf i).toNat)
    case atStart => exact ⟨0, by omega, rfl, fun j _ h => absurd h (by omega), Below.refl _ _⟩
    case round =>
      obtain ⟨k, hk, rfl, hS, hB⟩ := hrel
      have HS := Lib.hid hS
      have HB := Lib.hid hB
      clear hS hB
      by_cases hlt : k < l.length
      · obtain ⟨ok, b, o, rfl, hb, hrange⟩ := HR.out k hlt
        have hrg : wr.rangeAt b (o + k * 19) l[k].cells := fun j v hv => (HB.out.cell (p := ⟨b, _, none⟩) hb).trans (hrange j v hv)
        have okr := ok.below HB.out
        obtain ⟨X, hX⟩ : ∃ X, l[k] = X := ⟨_, rfl⟩
        rw [hX] at hrg okr
        have HX := Lib.hid hX
        obtain ⟨⟨c0, c1, c2, c3, c4⟩, ⟨d0, d1, d2, d3, d4⟩, e0, e1, e2, e3, e4, e5, e6, e7, e8⟩ := act_cells hrg
        have OKR := Lib.hid okr
        obtain ⟨B1, hB1⟩ : ∃ B1, decide (X.st.regs.length ≤ 6) = B1 := ⟨_, rfl⟩
        obtain ⟨B2, hB2⟩ : ∃ B2, lightB X.cm = B2 := ⟨_, rfl⟩
        have LS := Lib.hid (fun (w : World) => light_x X.st X.ra X.rc w B1 hB1)
        have LC := Lib.hid (fun (w : World) => lightC_x X.cm w B2 hB2)
        clear hB1 hB2
        clear hrange hX hrg okr ok
        by_cases hs : X.s.size ≤ 100
        · have hsb : decide ((100 : Int) < (X.s.size : Int)) = false := by simp; omega
          go_wp2_with fail
          refine (LS.out _).mono ?_
          rintro e w3 ⟨rfl, b3⟩
          have HB3 := Lib.hid (HB.out.trans (b3.mono HB.out.size))
          have hb3 : b < w3.heap.size := Nat.lt_of_lt_of_le (Nat.lt_of_lt_of_le hb HB.out.size) b3.size
          cases B1
          · go_wp2
            go_ret
            exact ⟨false, rfl, fun h => absurd h (by decide), HB3.out⟩
          · have q := fun (i : Nat) => b3.cell (p := ⟨b, o + k * 19 + i, none⟩) (Nat.lt_of_lt_of_le hb HB.out.size)
            have e0' := (q 10).trans e0
            have e1' := (q 11).trans e1
            have e2' := (q 12).trans e2
            have e3' := (q 13).trans e3
            have e4' := (q 14).trans e4
            have e5' := (q 15).trans e5
            have e6' := (q 16).trans e6
            have e7' := (q 17).trans e7
            have e8' := (q 18).trans e8
            clear q c0 c1 c2 c3 c4 d0 d1 d2 d3 d4 e0 e1 e2 e3 e4 e5 e6 e7 e8 b3
            go_wp2_with fail
            refine (LC.out _).mono ?_
            rintro e w4 ⟨rfl, b4⟩
            have HB4 := Lib.hid (HB3.out.trans (b4.mono HB3.out.size))
            clear b4
            cases B2
            · go_wp2
              go_ret
              exact ⟨false, rfl, fun h => absurd h (by decide), HB4.out⟩
            · go_wp2
              go_roundw
              case rel => exact ⟨k + 1, by omega, by go_num, fun j h hj => by
                rcases (by omega : j < k ∨ j = k) with h1 | rfl
                · exact HS.out j h h1
                · rw [HX.out]; exact hs, HB4.out⟩
              case measure => simp [intOf]; omega
        · have hsb : decide ((100 : Int) < (X.s.size : Int)) = true := by simp; omega
          go_wp2
          go_ret
          exact ⟨false, rfl, fun h => absurd h (by decide), HB.out⟩
      · go_wp2
        go_ret
        exact ⟨true, rfl, fun _ => ⟨hm, fun x hx => by
          obtain ⟨j, hj, rfl⟩ := List.mem_iff_getElem.1 hx
          exact HS.out j hj (by omega)⟩, HB.out⟩
  · go_enter Tryz.func6, Tryz.ntmps6
    go_wp2
    go_ret
    exact ⟨false, rfl, fun h => absurd h (by decide), Below.refl _ _⟩
end Go.Proofs.YtkedmlkbepjnfaaGreatDoor
