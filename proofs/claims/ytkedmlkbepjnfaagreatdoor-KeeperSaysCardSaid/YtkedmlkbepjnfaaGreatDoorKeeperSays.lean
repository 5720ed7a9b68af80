/-
  KeeperSays: the walk.
-/
import Derived.Test.YtkedmlkbepjnfaaGreatDoorKsKit
import Derived.Test.YtkedmlkbepjnfaaGreatDoorFault
import Derived.Test.YtkedmlkbepjnfaaGreatDoorSameState
import Derived.Test.YtkedmlkbepjnfaaGreatDoorLightActs
import Derived.Deep.CutBlock
import Derived.Deep.DeepCutAuto
import Derived.Deep.RegionHeld3
namespace Go.Proofs.YtkedmlkbepjnfaaGreatDoor
open Go.RowKit Go.Sort

theorem act6 {w : World} {b o : Nat} {X : Ac} (h : w.rangeAt b o X.cells) :
    w.cell? ⟨b, o + 1, none⟩ = some (.int .i64 X.a) ∧ w.cell? ⟨b, o + 5, none⟩ = some (.int .i64 X.st.gen) ∧ w.cell? ⟨b, o + 6, none⟩ = some (.slice X.ra X.st.regs.length X.rc) ∧ w.cell? ⟨b, o + 7, none⟩ = some (.int .i64 X.st.typ) ∧ w.cell? ⟨b, o + 8, none⟩ = some (.int .i64 X.st.holder) ∧ w.cell? ⟨b, o + 9, none⟩ = some (.bool X.st.stays) := by
  obtain ⟨⟨-, m1, -⟩, ⟨m5, m6, m7, m8, m9⟩, -⟩ := act_cells h
  exact ⟨m1, m5, m6, m7, m8, m9⟩
theorem ks_same (s : St) (a b : Option Addr) (c d : Nat) (w : World) (ha : StR w s a) (hb : StR w s b) :
    Hid (Calls Tryz.prog 13 #[stV s a c, .agg #[.int .i64 s.gen, .slice b s.regs.length d, .int .i64 s.typ, .int .i64 s.holder, .bool s.stays]] w fun e w' => e = .returned (.bool true) ∧ Below w.heap.size w w') :=
  Lib.hid (samestate_true s a b c d w ha hb)

set_option maxRecDepth 100000 in
set_option maxHeartbeats 40000000 in
theorem keepersays_walk (sectors : Int) (l : List Ac) (a : Option Addr) (cap : Nat) (w : World) (hl : l.length ≤ maxLen) (hr : ActsAt w a l) (t : Tabs w) :
    Calls Tryz.prog 3 #[.int .i64 sectors, .slice a l.length cap] w fun e w' => e = .returned (.bool true) ∧ Below w.heap.size w w' := by
  have TT := Lib.hid t
  have HR := Lib.hid hr
  have HL := Lib.hid hl
  have KPS := Lib.hid (keepers_any w t)
  clear t hr hl
  go_enter Tryz.func3, Tryz.ntmps3
  go_wp2_with fail
  refine KPS.out.mono ?_
  rintro e w1 ⟨rfl, b1⟩
  have B1 := Lib.hid b1
  have LA := Lib.hid (lightacts_any l a cap 30 w1 HL.out (HR.out.below b1))
  clear b1 KPS
  go_wp2_with fail
  refine LA.out.mono ?_
  rintro e w2 ⟨b, rfl, hb, b2⟩
  have B2 := Lib.hid (show Below w.heap.size w w2 from B1.out.trans (b2.mono B1.out.size))
  have HB := Lib.hid hb
  clear LA hb b2 B1
  cases b
  · clear HB
    go_wp2
    go_ret
    exact ⟨rfl, B2.out⟩
  have L30 := Lib.hid (HB.out rfl).1
  clear HB
  by_cases hs : sectors < 1 ∨ 40 < sectors
  · have BAD := Lib.hid (dnew_bad sectors w2 hs)
    have SAME := Lib.hid (same_any 1 1 w2 (by omega) (by omega))
    go_wp2_with fail
    refine BAD.out.mono ?_
    rintro e w3 ⟨rfl, rfl⟩
    rcases hs with hs | hs
    · go_wp2_with fail
      refine SAME.out.mono ?_
      rintro e w4 ⟨rfl, b4⟩
      go_wp2
      go_ret
      exact ⟨rfl, B2.out.trans (b4.mono B2.out.size)⟩
    · have hs1 : ¬ sectors < 1 := by omega
      go_wp2_with fail
      refine SAME.out.mono ?_
      rintro e w4 ⟨rfl, b4⟩
      go_wp2
      go_ret
      exact ⟨rfl, B2.out.trans (b4.mono B2.out.size)⟩
  obtain ⟨n, rfl⟩ : ∃ n : Nat, sectors = n := ⟨sectors.toNat, by omega⟩
  have HN := Lib.hid (show 1 ≤ n ∧ n ≤ 40 from by omega)
  have hs1 : ¬ (n : Int) < 1 := by omega
  have hs2 : ¬ 40 < (n : Int) := by omega
  have NEW := Lib.hid (dnew_any n w2 HN.out)
  clear hs
  go_wp2_with fail
  refine NEW.out.mono ?_
  rintro e w3 ⟨D, rfl, dk, b3⟩
  have B3 := Lib.hid (show Below w.heap.size w w3 from B2.out.trans (b3.mono B2.out.size))
  have OP := Lib.hid (open_new (made w2 w3) w3 D n dk (fun b e => e.2) HN.out.2 (TT.out.on B3.out))
  have D3 := Lib.hid dk
  clear dk b3 NEW
  go_wp2_with fail
  refine OP.out.mono ?_
  rintro e w4 ⟨rfl, b4⟩
  have D4 := Lib.hid (D3.out.below b4)
  have B4 := Lib.hid (show Below w.heap.size w w4 from B3.out.trans (b4.mono B3.out.size))
  have Z4 := Lib.hid (show w3.heap.size ≤ w4.heap.size from b4.size)
  have SAME := Lib.hid (same_any 3 3 w4 (by omega) (by omega))
  clear b4 OP D3
  go_wp2_with fail
  refine SAME.out.mono ?_
  rintro e w5 ⟨rfl, b5⟩
  have D5 := Lib.hid (D4.out.below b5)
  have B5 := Lib.hid (show Below w.heap.size w w5 from B4.out.trans (b5.mono B4.out.size))
  have Z5 := Lib.hid (show w3.heap.size ≤ w5.heap.size from Nat.le_trans Z4.out b5.size)
  clear b5 SAME D4 Z4
  by_cases n6 : n < 6
  · have FEW := Lib.hid (format_few (made w2 w3) w5 D n _ D5.out n6)
    have hn6 : (n : Int) < 6 := by omega
    clear n6
    go_wp2_with fail
    refine FEW.out.mono ?_
    rintro e w6 ⟨rfl, b6⟩
    have SAME := Lib.hid (same_any 6 6 w6 (by omega) (by omega))
    go_wp2_with fail
    refine SAME.out.mono ?_
    rintro e w7 ⟨rfl, b7⟩
    go_wp2
    go_ret
    exact ⟨rfl, (B5.out.trans (b6.mono B5.out.size)).trans (b7.mono (B5.out.trans (b6.mono B5.out.size)).size)⟩
  have hn6 : ¬ (n : Int) < 6 := by omega
  have N6 := Lib.hid (show 6 ≤ n from by omega)
  have FMT := Lib.hid (format_any (made w2 w3) w5 D n (Dk.new n) D5.out ⟨rfl, rfl⟩ (Dk.new_ok HN.out.2) (Sz.new n) N6.out (by show (0 : Nat) ≤ 800; omega) (fun b e => Nat.lt_of_lt_of_le e.2 Z5.out) (Nat.le_trans TT.out.low B5.out.size)
    (fun w' kp => TT.out.on (B5.out.trans (kp.below B5.out.size (fun k e => Nat.le_trans B2.out.size e.1)))))
  clear n6
  go_wp2_with fail
  refine FMT.out.mono ?_
  rintro e w6 ⟨rfl, d, S, dk, kd, lv, sz, sub, lt, kp⟩
  have B6 := Lib.hid (show Below w.heap.size w w6 from B5.out.trans (kp.below B5.out.size (fun k e => Nat.le_trans B2.out.size e.1)))
  have LO := Lib.hid (show ∀ b, S b → w.heap.size ≤ b from fun b e => by
    rcases sub b e with e | e
    · exact Nat.le_trans B2.out.size e.1
    · exact Nat.le_trans B5.out.size e.1)
  have OPEN := Lib.hid (open_kd S w6 D n d 1 1 sNone dk lt kd sz (TT.out.on B6.out))
  have KGD := Lib.hid (show KG n ⟨d, 1, 1, sNone⟩ from ⟨kd, sz⟩)
  have LV := Lib.hid lv
  clear dk kd lv sz sub lt kp FMT D5 Z5
  go_wp2_with fail
  refine OPEN.out.mono ?_
  rintro e w7 ⟨K, a7, cap7, rfl, kr, hK, b7, fr⟩
  have K7 := Lib.hid (show KI n w (fun _ => False) D K ⟨d, 1, 1, sNone⟩ w7 from ⟨S, a7, cap7, kr, LO.out, Nat.le_trans B6.out.size hK, B6.out.trans (b7.mono B6.out.size), fun b h => h.elim, fun _ _ _ _ h => h⟩)
  clear kr b7 fr OPEN hK LO
  obtain ⟨k1, hk1⟩ : ∃ k1, (⟨d, 1, 1, sNone⟩ : Kp) = k1 := ⟨_, rfl⟩
  have F1 := Lib.hid (show KG n k1 ∧ Live k1.d ∧ k1.num = 1 ∧ k1.ep = 1 ∧ k1.s = sNone from by rw [← hk1]; exact ⟨KGD.out, LV.out, rfl, rfl, rfl⟩)
  rw [hk1] at K7
  clear hk1 KGD LV
  go_upto_region 19 with fail
  obtain ⟨w8, hw8⟩ : ∃ w8, w8 = w7.alloc (.cells #[.int .i64 0, .slice none 0 0, .int .i64 0, .int .i64 0, .bool false] 37) := ⟨_, rfl⟩
  have T8 := Lib.hid (show KS n w w7.heap.size D K k1 sNone none 0 w8 from by
    have k8 := K7.out.more (.cells #[.int .i64 0, .slice none 0 0, .int .i64 0, .int .i64 0, .bool false] 37)
    rw [← hw8] at k8
    exact ⟨k8.weak (fun b e => .inr e), hw8 ▸ heap_alloc_new w7 _, str_nil _ 0, K7.out.below.size⟩)
  rw [← hw8]
  obtain ⟨A, hA⟩ : ∃ A, w7.heap.size = A := ⟨_, rfl⟩
  rw [hA] at T8
  rw [hA]
  clear hw8 hA K7
  go_wp2
  go_loopw [9, 12, 13, 14, 15, 16, 79] (fun v9 e i _ _ _ _ wr => ∃ (j K : Nat) (k : Kp) (s : St) (x : Option Addr) (y : Nat), j ≤ l.length ∧ v9 = .pointer (some ⟨K, 0, none⟩) ∧ i = .int .i64 j ∧ e = .int .i64 k.ep ∧ KG n k ∧ Live k.d ∧ 0 ≤ k.num ∧ k.num ≤ 1 + j ∧ k.s = s ∧ KS n w A D K k s x y wr) (fun _ _ i _ _ _ _ _ => l.length - (intOf i).toNat)
  case atStart =>
    obtain ⟨h1, h2, h3, h4, h5⟩ := F1.out
    exact ⟨0, K, k1, sNone, none, 0, by omega, rfl, rfl, by rw [h4], h1, h2, by omega, by omega, h5, T8.out⟩
  case round =>
    clear T8 F1
    obtain ⟨j, K, k, s, x, y, hj, rfl, rfl, rfl, kg, lv, hn0, hn, hss, tk⟩ := hrel
    have l30 := L30.out
    have TKH := Lib.hid tk
    have KGH := Lib.hid kg
    have LVH := Lib.hid lv
    have HS := Lib.hid hss
    have HNM := Lib.hid (show 0 ≤ k.num ∧ k.num ≤ 1 + j from ⟨hn0, hn⟩)
    obtain ⟨ep, hep⟩ : ∃ ep, k.ep = ep := ⟨_, rfl⟩
    rw [hep]
    have HEP := Lib.hid hep
    clear tk kg lv hss hn0 hn hep
    by_cases hlt : j < l.length
    · have AT0 := HR.out j hlt
      obtain ⟨X, hX⟩ : ∃ X, l[j] = X := ⟨_, rfl⟩
      rw [hX] at AT0
      obtain ⟨ok0, b, o, rfl, hb0, hrg0⟩ := AT0
      have OK0 := Lib.hid ok0
      have HB0 := Lib.hid hb0
      have RG := Lib.hid (show ∀ w', Below w.heap.size w w' → w'.rangeAt b (o + j * 19) X.cells from fun w' hb i v hv => (hb.cell (p := ⟨b, _, none⟩) hb0).trans (hrg0 i v hv))
      have hji : (j : Int) < (l.length : Int) := by omega
      have hj0 : (0 : Int) ≤ (j : Int) := by omega
      obtain ⟨⟨c0, c1, -⟩, ⟨d0, d1, d2, d3, d4⟩, -⟩ := act_cells (RG.out wr TKH.out.below)
      obtain ⟨B1, hB1⟩ : ∃ B, (X.kind.toList == [107, 101, 101, 112]) = B := ⟨_, rfl⟩
      clear ok0 hX hb0 hrg0
      go_upto_if 90 with fail
      go_cut [9, 12, 14, 15, 16] (fun v9 v12 _ _ _ wx => ∃ (K' : Nat) (k' : Kp) (s' : St) (x' : Option Addr) (y' : Nat) (ep' : Int), v9 = .pointer (some ⟨K', 0, none⟩) ∧ v12 = .int .i64 ep' ∧ k'.ep = ep' ∧ KG n k' ∧ Live k'.d ∧ 0 ≤ k'.num ∧ k'.num ≤ 2 + j ∧ k'.s = s' ∧ KS n w A D K' k' s' x' y' wx)
      case first =>
        cases B1
        · have OPEN := Lib.hid (openI n w wr _ D K k k.num k.ep k.s TKH.out.ki KGH.out.kd KGH.out.sz TT.out)
          go_wp2_with fail
          refine OPEN.out.mono ?_
          rintro e w4 ⟨M, rfl, ki, b4⟩
          have T4 := Lib.hid (show KS n w A D M k s x y w4 from TKH.out.next ki (fun b hb => b4.block b (TKH.out.ki.lt b hb)))
          clear ki b4 OPEN
          go_wp2
          go_meet
          exact ⟨M, k, s, x, y, ep, rfl, rfl, HEP.out, KGH.out, LVH.out, HNM.out.1, by have := HNM.out.2; omega, HS.out, T4.out⟩
        · have RF := Lib.hid (rfault_any X.st X.ra X.rc wr (OK0.out.str.below TKH.out.below))
          go_wp2_with fail
          refine RF.out.mono ?_
          rintro e w4 ⟨rfl, b4⟩
          have T4 := Lib.hid (TKH.out.over b4)
          obtain ⟨⟨-, m1, -⟩, ⟨m5, m6, m7, m8, m9⟩, -⟩ := act_cells (RG.out w4 T4.out.below)
          obtain ⟨BD, hBD⟩ : ∃ BD, decide (X.a < 1 ∨ 1000000 < X.a) = BD := ⟨_, rfl⟩
          have HBD := Lib.hid hBD
          clear c0 c1 d0 d1 d2 d3 d4 b4 RF TKH hBD
          obtain ⟨sf, hsf⟩ : ∃ sf, stateFault X.st = sf := ⟨_, rfl⟩
          rw [hsf]
          have HSF := Lib.hid hsf
          clear hsf
          go_upto_region 25 with fail
          go_cut [110] (fun v wx => v = .bool BD ∧ wx = w4)
          case first =>
            by_cases e1 : X.a < 1
            · obtain rfl : true = BD := by rw [← HBD.out]; simp [e1]
              go_wp2
              go_meet
              exact ⟨rfl, rfl⟩
            · obtain rfl : decide (1000000 < X.a) = BD := by rw [← HBD.out]; simp [e1]
              go_wp2
              go_meet
              exact ⟨rfl, rfl⟩
          case rest =>
            obtain ⟨rfl, rfl⟩ := hcut
            obtain ⟨F, hF⟩ : ∃ F, keepF X.a X.st = F := ⟨_, rfl⟩
            have HF := Lib.hid hF
            clear hF
            go_upto_if 110 with fail
            go_cut [14] (fun v wx => v = .int .i64 F ∧ wx = wc)
            case first =>
              cases BD
              · obtain rfl : sf = F := by rw [← HF.out, ← HSF.out]; unfold keepF; rw [if_neg (of_decide_eq_false HBD.out)]
                go_wp2
                go_meet
                exact ⟨rfl, rfl⟩
              · obtain rfl : 1 = F := by rw [← HF.out]; unfold keepF; rw [if_pos (of_decide_eq_true HBD.out)]
                go_wp2
                go_meet
                exact ⟨rfl, rfl⟩
            case rest =>
              obtain ⟨rfl, rfl⟩ := hcut
              have F0 := Lib.hid (show 0 ≤ F from by
                rw [← HF.out]; unfold keepF
                split
                · omega
                · exact stateFault_nonneg _)
              have KF := Lib.hid (keep_f KGH.out LVH.out (by have := HNM.out.2; omega) X.a X.st)
              rw [HF.out] at KF
              have KP := Lib.hid (show Calls Tryz.prog 12 #[.pointer (some ⟨K, 0, none⟩), .int .i64 X.a, .agg #[.int .i64 X.st.gen, .slice X.ra X.st.regs.length X.rc, .int .i64 X.st.typ, .int .i64 X.st.holder, .bool X.st.stays]] wc.drew fun e w' => e = .returned (errV (k.keep n X.a X.st).2) ∧ KI n w (fun b => b = A) D K (k.keep n X.a X.st).1 w' ∧ Same (fun b => b = A) wc.drew w' from
                keepI n w wc.drew _ D K k X.ra X.rc X.a X.st T4.out.ki.drew KGH.out.kd.ok (by rw [KGH.out.kd.wait]; simp) N6.out HNM.out.1 (by have := HNM.out.2; omega) (OK0.out.str.below T4.out.ki.drew.below) TT.out)
              have SAME := Lib.hid (fun w' => same_any F F w' F0.out F0.out)
              obtain ⟨r, hr⟩ : ∃ r, k.keep n X.a X.st = r := ⟨_, rfl⟩
              rw [hr] at KF KP
              clear hr HBD HSF
              go_upto_region 27 with fail
              have M6 := Lib.hid (show wc.drew.cell? ⟨b, o + j * 19 + 1, none⟩ = some (.int .i64 X.a) ∧ wc.drew.cell? ⟨b, o + j * 19 + 5, none⟩ = some (.int .i64 X.st.gen) ∧ wc.drew.cell? ⟨b, o + j * 19 + 6, none⟩ = some (.slice X.ra X.st.regs.length X.rc) ∧ wc.drew.cell? ⟨b, o + j * 19 + 7, none⟩ = some (.int .i64 X.st.typ) ∧ wc.drew.cell? ⟨b, o + j * 19 + 8, none⟩ = some (.int .i64 X.st.holder) ∧ wc.drew.cell? ⟨b, o + j * 19 + 9, none⟩ = some (.bool X.st.stays) from ⟨m1, m5, m6, m7, m8, m9⟩)
              go_region_held3 (fun w' => w'.cell? ⟨b, o + j * 19 + 1, none⟩ = some (.int .i64 X.a) ∧ w'.cell? ⟨b, o + j * 19 + 5, none⟩ = some (.int .i64 X.st.gen) ∧ w'.cell? ⟨b, o + j * 19 + 6, none⟩ = some (.slice X.ra X.st.regs.length X.rc) ∧ w'.cell? ⟨b, o + j * 19 + 7, none⟩ = some (.int .i64 X.st.typ) ∧ w'.cell? ⟨b, o + j * 19 + 8, none⟩ = some (.int .i64 X.st.holder) ∧ w'.cell? ⟨b, o + j * 19 + 9, none⟩ = some (.bool X.st.stays))
                (first | exact M6.out | assumption)
                (first | ((with_reducible refine KP.out.mono ?_); rintro e w5 ⟨rfl, ki, sm⟩; rw [KF.out.1]; have c6 := act6 (RG.out w5 ki.below)) | ((with_reducible refine (SAME.out _).mono ?_); rintro e w6 ⟨rfl, b6⟩; have c7 := act6 (RG.out w6 (ki.below.trans (b6.mono ki.below.size)))))
              have T6 := Lib.hid (((T4.out.over (Below.refl _ _).drew).next ki sm).over b6)
              clear c6 ki sm b6 KP SAME M6 T4 m1 m5 m6 m7 m8 m9
              obtain ⟨x1, x5, x6, x7, x8, x9⟩ := c7
              obtain ⟨⟨p0, p1, p2, p3, p4⟩, g0, g1, g2, g3, g4⟩ := T6.out.cells
              by_cases hF0 : F = 0
              · have R := Lib.hid (KF.out.2.1 hF0)
                subst hF0
                clear KF
                go_upto_region 31 with fail
                obtain ⟨w7, hw7⟩ : ∃ w7, w7 = fiveS w6 A X.st X.ra X.rc := ⟨_, rfl⟩
                have T7 : KS n w A D K r.1 X.st X.ra X.rc w7 := hw7 ▸ T6.out.set X.rc OK0.out.str
                have y1 : w7.cell? ⟨b, o + j * 19 + 1, none⟩ = some (.int .i64 X.a) := by
                  have hne : b ≠ A := by have := T6.out.la; have := HB0.out; omega
                  rw [hw7]
                  exact (World.cell?_of_block (a := ⟨b, _, none⟩) (five_ne hne _ _ _ _ _)).trans x1
                unfold fiveS five at hw7
                rw [← hw7]
                clear hw7 x1 x5 x6 x7 x8 x9 p0 p1 p2 p3 p4 g0 g1 g2 g3 g4 T6
                go_wp2
                go_meet
                exact ⟨K, r.1, X.st, X.ra, X.rc, X.a, rfl, rfl, R.out.2.2.2.1, R.out.1, R.out.2.1, by have := HNM.out.1; have := R.out.2.2.1; omega, by have := HNM.out.2; have := R.out.2.2.1; omega, R.out.2.2.2.2, T7⟩
              · have R := Lib.hid (KF.out.2.2 hF0)
                have q : (F == 0) = false := by simpa using hF0
                clear KF hF0
                go_wp2
                go_meet
                have T7 := T6.out
                rw [R.out] at T7
                exact ⟨K, k, s, x, y, ep, rfl, rfl, HEP.out, KGH.out, LVH.out, HNM.out.1, by have := HNM.out.2; omega, HS.out, T7⟩
      case rest =>
        obtain ⟨M, k', s', x', y', ep', rfl, rfl, hep', kg', lv', hn0', hn', hs', tk'⟩ := hcut
        subst hs'
        subst hep'
        have T5 := Lib.hid tk'
        have KG5 := Lib.hid kg'
        have LV5 := Lib.hid lv'
        have HN5 := Lib.hid (show 0 ≤ k'.num ∧ k'.num ≤ 2 + j from ⟨hn0', hn'⟩)
        have STATE := Lib.hid (stateI n w wc.drew _ D M k' tk'.ki.drew (by have := kg'.kd.place.k.g.regs_len; omega))
        clear tk' kg' lv' hn0' hn' c0 c1 d0 d1 d2 d3 d4 TKH KGH LVH HS HNM HEP
        go_upto_region 36 with fail
        obtain ⟨⟨p0, p1, p2, p3, p4⟩, -⟩ := T5.out.cells
        have LA := T5.out.ki.lt A rfl
        have KEEP := Lib.hid (show ∀ w', Below wc.heap.size wc w' → Below wc.heap.size wc w' ∧ w'.cell? ⟨A, 0, none⟩ = some (.int .i64 k'.s.gen) ∧ w'.cell? ⟨A, 1, none⟩ = some (.slice x' k'.s.regs.length y') ∧ w'.cell? ⟨A, 2, none⟩ = some (.int .i64 k'.s.typ) ∧ w'.cell? ⟨A, 3, none⟩ = some (.int .i64 k'.s.holder) ∧ w'.cell? ⟨A, 4, none⟩ = some (.bool k'.s.stays) from fun w' h =>
          ⟨h, (h.cell (p := ⟨A, 0, none⟩) LA).trans p0, (h.cell (p := ⟨A, 1, none⟩) LA).trans p1, (h.cell (p := ⟨A, 2, none⟩) LA).trans p2, (h.cell (p := ⟨A, 3, none⟩) LA).trans p3, (h.cell (p := ⟨A, 4, none⟩) LA).trans p4⟩)
        clear p0 p1 p2 p3 p4 LA
        go_region_held3 (fun w' => Below wc.heap.size wc w' ∧ w'.cell? ⟨A, 0, none⟩ = some (.int .i64 k'.s.gen) ∧ w'.cell? ⟨A, 1, none⟩ = some (.slice x' k'.s.regs.length y') ∧ w'.cell? ⟨A, 2, none⟩ = some (.int .i64 k'.s.typ) ∧ w'.cell? ⟨A, 3, none⟩ = some (.int .i64 k'.s.holder) ∧ w'.cell? ⟨A, 4, none⟩ = some (.bool k'.s.stays))
          (first | (refine KEEP.out _ ?_; first | (with_reducible exact (Below.refl _ _).drew) | (with_reducible assumption)))
          (first | ((with_reducible refine STATE.out.mono ?_); rintro e w6 ⟨a6, c6, rfl, hs6, b6⟩; have b6' : Below wc.heap.size wc w6 := (Below.refl _ _).drew.trans b6; have SM := ks_same k'.s a6 x' c6 y' w6 hs6 (T5.out.ra.below (T5.out.below.trans (b6'.mono T5.out.below.size)))) | ((with_reducible refine SM.out.mono ?_); rintro e w7 ⟨rfl, b7⟩; have b7' : Below wc.heap.size wc w7 := b6'.trans (b7.mono b6'.size); have EP := Lib.hid (epochI n w w7 _ D M k' (T5.out.ki.over b7'))) | ((with_reducible refine EP.out.mono ?_); rintro e w8 ⟨rfl, rfl⟩))
        have T6 := Lib.hid (T5.out.over b7')
        go_wp2
        go_roundw
        case rel => exact ⟨j + 1, M, k', k'.s, x', y', by omega, rfl, by go_num, rfl, KG5.out, LV5.out, HN5.out.1, by have := HN5.out.2; omega, rfl, T6.out⟩
        case measure => simp [intOf]; omega
    · go_wp2
      go_ret
      exact ⟨rfl, TKH.out.below⟩
end Go.Proofs.YtkedmlkbepjnfaaGreatDoor
