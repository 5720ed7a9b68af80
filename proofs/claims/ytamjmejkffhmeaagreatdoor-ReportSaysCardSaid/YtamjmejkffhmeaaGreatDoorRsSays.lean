/-
  ReportSays: the walk.
-/
import Derived.Test.YtamjmejkffhmeaaGreatDoorRsFact
import Derived.Test.YtamjmejkffhmeaaGreatDoorRsOf
import Derived.Test.YtamjmejkffhmeaaGreatDoorRsText
import Derived.Test.YtamjmejkffhmeaaGreatDoorRsKeys
import Derived.Test.YtamjmejkffhmeaaGreatDoorRpKeys
import Derived.Test.YtamjmejkffhmeaaGreatDoorSameState
import Derived.Test.YtamjmejkffhmeaaGreatDoorRefL
import Derived.Deep.RegionHeld3
namespace Go.Proofs.YtamjmejkffhmeaaGreatDoor
open Go.RowKit

/-- what both say of a text: the state that it tells and 0, or the empty one and 3 -/
def Told (t : ByteArray) (X : St) (f : Int) : Prop :=
  (f = 0 ∧ Good X ∧ bsB (stText X) = t) ∨ (f = 3 ∧ X = ⟨0, [], 0, 0, false⟩ ∧ ∀ s, Good s → bsB (stText s) ≠ t)
theorem Told.le {t : ByteArray} {X : St} {f : Int} (h : Told t X f) : 0 ≤ f := by
  rcases h with ⟨h, _⟩ | ⟨h, _⟩ <;> omega

theorem parse_told (t : ByteArray) (w : World) (tt : Tabs w) (ht : t.size ≤ 200) :
    Calls Tryz.prog 6 #[.string t] w fun e w' => ∃ X f a c, Told t X f ∧ e = .returned (.tuple #[stV X a c, errV f]) ∧ StR w' X a ∧ Below w.heap.size w w' :=
  (parse_any t w tt ht).mono fun e w' ⟨h, hb⟩ => by
    rcases h with ⟨s, a, c, hg, htx, rfl, hr, -⟩ | ⟨hn, rfl⟩
    · exact ⟨s, 0, a, c, .inl ⟨rfl, hg, htx⟩, by rw [errV_nil], hr, hb⟩
    · exact ⟨_, 3, none, 0, .inr ⟨rfl, rfl, hn⟩, rfl, ⟨by simp, Pairs.nil _ _ _⟩, hb⟩

theorem stateof_told (t : ByteArray) (X : St) (f : Int) (h : Told t X f) (w : World) (ht : t.size ≤ 200) :
    Calls Tryz.prog 7 #[.string t] w fun e w' => ∃ a c, e = .returned (.tuple #[stV X a c, .int .i64 f]) ∧ StR w' X a ∧ Below w.heap.size w w' :=
  (stateof_any t w ht).mono fun e w' ⟨h2, hb⟩ => by
    rcases h with ⟨rfl, hg, htx⟩ | ⟨rfl, rfl, hn⟩
    · obtain ⟨hd, hok⟩ := text_dOk (t := t.data.toList) hg (by rw [← htx, bsB_list])
      rcases h2 with ⟨_, a, c, rfl, hr⟩ | ⟨hno, _⟩
      · rw [hd] at hr ⊢
        exact ⟨a, c, rfl, hr, hb⟩
      · exact absurd hok hno
    · rcases h2 with ⟨hok, _⟩ | ⟨_, rfl⟩
      · obtain ⟨hg, htx⟩ := dOk_text hok
        exact absurd (by rw [htx, list_bsB]) (hn _ hg)
      · exact ⟨none, 0, rfl, ⟨by simp, Pairs.nil _ _ _⟩, hb⟩

theorem numbers_one (l : List Int) (a b : Option Addr) (c d : Nat) (w : World) (hl : l.length ≤ maxLen) (ha : Ints w.heap.size w a l) (hb : Ints w.heap.size w b l) :
    Calls Tryz.prog 13 #[.slice a l.length c, .slice b l.length d] w fun e w' => e = .returned (.bool true) ∧ Below w.heap.size w w' :=
  (samenumbers_any l l a b c d w hl hl ha hb).mono fun e w' ⟨h1, h2⟩ => ⟨by rw [h1]; simp, h2⟩
theorem docKeys_len (ks : List Int) : (docKeys ks).length ≤ 999 := dkTo_len ks 999

/-- what a region reads of a state in block b, and what is there: kept behind whatever lays memory -/
theorem kept5 {W w w' : World} {b : Nat} {v0 v1 v2 v3 v4 : Value} (h : Below W.heap.size W w ∧ w.cell? ⟨b, 0, none⟩ = some v0 ∧ w.cell? ⟨b, 1, none⟩ = some v1 ∧ w.cell? ⟨b, 2, none⟩ = some v2 ∧ w.cell? ⟨b, 3, none⟩ = some v3 ∧ w.cell? ⟨b, 4, none⟩ = some v4) (hb : b < W.heap.size) (h2 : Below w.heap.size w w') :
    Below W.heap.size W w' ∧ w'.cell? ⟨b, 0, none⟩ = some v0 ∧ w'.cell? ⟨b, 1, none⟩ = some v1 ∧ w'.cell? ⟨b, 2, none⟩ = some v2 ∧ w'.cell? ⟨b, 3, none⟩ = some v3 ∧ w'.cell? ⟨b, 4, none⟩ = some v4 := by
  obtain ⟨h, c0, c1, c2, c3, c4⟩ := h
  have hc := (bcell h2).1
  have hlt : b < w.heap.size := Nat.lt_of_lt_of_le hb h.size
  refine ⟨h.trans (h2.mono h.size), ?_, ?_, ?_, ?_, ?_⟩ <;> (rw [hc _ _ hlt]; assumption)
theorem drawn5 {W : World} {b : Nat} {v0 v1 v2 v3 v4 : Value} (h : W.cell? ⟨b, 0, none⟩ = some v0 ∧ W.cell? ⟨b, 1, none⟩ = some v1 ∧ W.cell? ⟨b, 2, none⟩ = some v2 ∧ W.cell? ⟨b, 3, none⟩ = some v3 ∧ W.cell? ⟨b, 4, none⟩ = some v4) :
    Below W.heap.size W W.drew ∧ W.drew.cell? ⟨b, 0, none⟩ = some v0 ∧ W.drew.cell? ⟨b, 1, none⟩ = some v1 ∧ W.drew.cell? ⟨b, 2, none⟩ = some v2 ∧ W.drew.cell? ⟨b, 3, none⟩ = some v3 ∧ W.drew.cell? ⟨b, 4, none⟩ = some v4 :=
  ⟨(Below.refl _ _).drew, h⟩

set_option maxRecDepth 100000 in
set_option maxHeartbeats 4000000 in
theorem reportsays_walk (s : St) (a : Option Addr) (cap : Nat) (t : ByteArray) (w : World) (hr : StR w s a) (tt : Tabs w) (hz : t.size ≤ 9223372036854775807) :
    Calls Tryz.prog 3 #[stV s a cap, .string t] w fun e w' => e = .returned (.bool true) ∧ Below w.heap.size w w' := by
  have HR := Lib.hid hr
  have TT := Lib.hid tt
  clear hr tt
  go_enter Tryz.func3, Tryz.ntmps3
  go_wp2_with fail
  refine (reports_any _ (TT.out.on (bal w _))).mono ?_
  rintro e w1 ⟨rfl, b1⟩
  have W1 := Lib.hid ((bal w _).trans (b1.mono (by simp)))
  have H1 := Lib.hid ((b1.block w.heap.size (by simp)).trans (heap_alloc_new w _))
  clear b1
  obtain ⟨⟨e0, e1, e2, e3, e4⟩, f0, f1, f2, f3, f4⟩ := cells5 H1.out
  go_wp2_with fail
  refine (light_any s a cap _).mono ?_
  rintro e w2 ⟨rfl, b2⟩
  have W2 := Lib.hid (W1.out.trans (b2.mono W1.out.size))
  have H2 := Lib.hid ((b2.block _ (Array.getElem?_eq_some_iff.1 H1.out).1).trans H1.out)
  clear b2 e0 e1 e2 e3 e4 f0 f1 f2 f3 f4
  by_cases h6 : s.regs.length ≤ 6
  · have d6 : decide (s.regs.length ≤ 6) = true := decide_eq_true h6
    rw [d6]
    clear d6
    by_cases h100 : (100 : Int) < t.size
    · go_wp2
      go_ret
      exact ⟨rfl, W2.out⟩
    · have ht : t.size ≤ 200 := by omega
      go_wp2_with fail
      refine (parse_told t _ (TT.out.on W2.out) ht).mono ?_
      rintro e w3 ⟨X, f, a1, c1, htold, rfl, hr1, b3⟩
      have W3 := Lib.hid (W2.out.trans (b3.mono W2.out.size))
      have H3 := Lib.hid ((b3.block _ (Array.getElem?_eq_some_iff.1 H2.out).1).trans H2.out)
      have R1 := Lib.hid hr1
      have SO := Lib.hid (fun w => stateof_told t X f htold w ht)
      have hf0 := Lib.hid htold.le
      obtain ⟨E, hE⟩ : ∃ E, errV f = E := ⟨_, rfl⟩
      have SM := Lib.hid (fun w => same_one f w hf0.out)
      rw [hE] at SM ⊢
      clear hr1 b3 htold hE
      go_wp2_with fail
      refine (SO.out _).mono ?_
      rintro e w4 ⟨a2, c2, rfl, hr2, b4⟩
      have b34 := (bal w3 _).trans (b4.mono (by simp))
      have W4 := Lib.hid (W3.out.trans (b34.mono W3.out.size))
      have H4 := Lib.hid ((b34.block _ (Array.getElem?_eq_some_iff.1 H3.out).1).trans H3.out)
      have X4 := Lib.hid ((b4.block w3.heap.size (by simp)).trans (heap_alloc_new w3 _))
      have P1 := Lib.hid (R1.out.below b34)
      have P2 := Lib.hid hr2
      clear b34 hr2 b4
      go_upto_region 6 with fail
      obtain ⟨w5, hw5⟩ : ∃ w5, w4.alloc (.cells #[.int .i64 X.gen, .slice a2 X.regs.length c2, .int .i64 X.typ, .int .i64 X.holder, .bool X.stays] 24) = w5 := ⟨_, rfl⟩
      rw [hw5]
      have B5 := Lib.hid (show Below w4.heap.size w4 w5 from hw5 ▸ bal w4 _)
      have Y5 := Lib.hid (show w5.heap[w4.heap.size]? = some (.cells #[.int .i64 X.gen, .slice a2 X.regs.length c2, .int .i64 X.typ, .int .i64 X.holder, .bool X.stays] 24 (0, 0)) from hw5 ▸ heap_alloc_new w4 _)
      have H5 := Lib.hid ((B5.out.block _ (Array.getElem?_eq_some_iff.1 H4.out).1).trans H4.out)
      have X5 := Lib.hid ((B5.out.block _ (Array.getElem?_eq_some_iff.1 X4.out).1).trans X4.out)
      have W5 := Lib.hid (W4.out.trans (B5.out.mono W4.out.size))
      have Q1 := Lib.hid (P1.out.below B5.out)
      have Q2 := Lib.hid (P2.out.below B5.out)
      clear hw5
      go_wp2_with fail
      refine (SM.out _).mono ?_
      rintro e w6 ⟨rfl, b6⟩
      have W6 := Lib.hid (W5.out.trans (b6.mono W5.out.size))
      have H6 := Lib.hid ((b6.block _ (Array.getElem?_eq_some_iff.1 H5.out).1).trans H5.out)
      have X6 := Lib.hid ((b6.block _ (Array.getElem?_eq_some_iff.1 X5.out).1).trans X5.out)
      have Y6 := Lib.hid ((b6.block _ (Array.getElem?_eq_some_iff.1 Y5.out).1).trans Y5.out)
      have S1 := Lib.hid (Q1.out.below b6)
      have S2 := Lib.hid (Q2.out.below b6)
      clear b6
      obtain ⟨⟨e0, e1, e2, e3, e4⟩, f0, f1, f2, f3, f4⟩ := cells5 X6.out
      obtain ⟨⟨z0, z1, z2, z3, z4⟩, y0, y1, y2, y3, y4⟩ := cells5 Y6.out
      go_wp2_with fail
      refine (samestate_true X a1 a2 c1 c2 _ S1.out S2.out).mono ?_
      rintro e w7 ⟨rfl, b7⟩
      have W7 := Lib.hid (W6.out.trans (b7.mono W6.out.size))
      have H7 := Lib.hid ((b7.block _ (Array.getElem?_eq_some_iff.1 H6.out).1).trans H6.out)
      have HL := (Array.getElem?_eq_some_iff.1 H7.out).1
      clear b7 e0 e1 e2 e3 e4 f0 f1 f2 f3 f4 z0 z1 z2 z3 z4 y0 y1 y2 y3 y4
      obtain ⟨box, -⟩ := cells5 H7.out
      have HR7 := Lib.hid (fun (w' : World) (hb : Below w7.heap.size w7 w') => (HR.out.below W7.out).below hb)
      have SF := Lib.hid (fun (w' : World) (hb : Below w7.heap.size w7 w') => rfault_any s a cap w' (HR7.out w' hb))
      have hnn := stateFault_nonneg s
      by_cases hf : stateFault s = 0
      · have HG := (good_iff _).1 hf
        have TX := Lib.hid (fun (w' : World) (hb : Below w7.heap.size w7 w') => text_any s a cap w' (TT.out.on (W7.out.trans (hb.mono W7.out.size))) (HR7.out w' hb) HG.fits (by omega))
        have RX := Lib.hid (fun (w' : World) (hb : Below w7.heap.size w7 w') => statetext_any s a cap w' (HR7.out w' hb) HG)
        have PK := Lib.hid (fun (w' : World) (hb : Below w7.heap.size w7 w') => pkeys_any s a cap w' (HR7.out w' hb) (by omega))
        have DK := Lib.hid (fun (w' : World) (hb : Below w7.heap.size w7 w') => rkeys_any s a cap w' (HR7.out w' hb) (by omega))
        have hks := keys_same (s.regs.map (·.2)) (fun k hk => by
          obtain ⟨r, hr, rfl⟩ := List.mem_map.1 hk
          have := HG.bounds r hr
          omega)
        rw [hks] at PK
        have hkl := docKeys_len (s.regs.map (·.2))
        obtain ⟨T, hT⟩ : ∃ T, bsB (stText s) = T := ⟨_, rfl⟩
        rw [hT] at TX RX
        obtain ⟨L, hL⟩ : ∃ L, docKeys (s.regs.map (·.2)) = L := ⟨_, rfl⟩
        rw [hL] at PK DK hkl
        rw [hf] at SF
        have hol : L.length ≤ maxLen := by unfold maxLen; omega
        have BOX := Lib.hid (drawn5 box)
        clear hks hT hL HG hf hnn hkl
        obtain ⟨c0, c1', c2', c3, c4⟩ := box
        go_wp2
        go_region_held3 (fun w' => Below w7.heap.size w7 w' ∧ w'.cell? ⟨w.heap.size, 0, none⟩ = some (.int .i64 s.gen) ∧ w'.cell? ⟨w.heap.size, 1, none⟩ = some (.slice a s.regs.length cap) ∧ w'.cell? ⟨w.heap.size, 2, none⟩ = some (.int .i64 s.typ) ∧ w'.cell? ⟨w.heap.size, 3, none⟩ = some (.int .i64 s.holder) ∧ w'.cell? ⟨w.heap.size, 4, none⟩ = some (.bool s.stays))
          (first | with_reducible exact BOX.out | exact kept5 (by assumption) HL (by assumption))
          (first
            | (go_at_call 10; refine (SF.out _ (And.left (by assumption))).mono ?_; rintro e w' ⟨rfl, hb⟩)
            | (go_at_call 11; refine (TX.out _ (And.left (by assumption))).mono ?_; rintro e w' ⟨rfl, hb⟩)
            | (go_at_call 12; refine (RX.out _ (And.left (by assumption))).mono ?_; rintro e w' ⟨rfl, hb⟩)
            | (go_at_call 14; refine (PK.out _ (And.left (by assumption))).mono ?_; rintro e w' ⟨a3, c3', rfl, hi3, hb⟩)
            | (go_at_call 15; refine (DK.out _ (And.left (by assumption))).mono ?_; rintro e w' ⟨v4, rfl, ho4, hb⟩; obtain ⟨a4, c4', rfl, hi4⟩ := ho4.shape; replace hi3 := (hi3.below hb (Nat.le_refl _)).mono hb.size)
            | (go_at_call 13; refine (numbers_one _ a3 a4 c3' c4' _ hol hi3 hi4).mono ?_; rintro e w' ⟨rfl, hb⟩))
        go_wp2
        go_ret
        exact ⟨rfl, W7.out.trans (Below.mono (B := w7.heap.size) (And.left (by assumption)) W7.out.size)⟩
      · obtain ⟨sf, hsf⟩ : ∃ sf, stateFault s = sf := ⟨_, rfl⟩
        have SQ := Lib.hid (fun (w' : World) (hb : Below w7.heap.size w7 w') => SF.out w' hb)
        rw [hsf] at SQ hf hnn
        have hpos : 0 < sf := by omega
        have hq := bregrown (Below.refl w7.heap.size w7)
        obtain ⟨c0, c1', c2', c3, c4⟩ := box
        clear hf hnn hsf
        go_wp2
        refine wp_region_quiet_below (by kernel_rfl) (by kernel_rfl) ?_
        repeat (go_big_quiet_step (with_reducible exact Calls.regrown_of (SQ.out _ (below_regrown _ _ _))))
        refine wpQuiet_nil ?_
        rintro w' ⟨⟨dq, osq⟩, rfl⟩
        go_wp2
        go_ret
        exact ⟨rfl, W7.out.trans ((below_regrown w7 dq osq).mono W7.out.size)⟩
  · have d6 : decide (s.regs.length ≤ 6) = false := decide_eq_false h6
    rw [d6]
    clear d6 h6
    go_wp2
    go_ret
    exact ⟨rfl, W2.out⟩
end Go.Proofs.YtamjmejkffhmeaaGreatDoor
