/-
  TopKeeper: the walk.
-/
import Derived.Test.YtkedmlkbepjnfaaGreatDoorTkKit
import Derived.Test.YtkedmlkbepjnfaaGreatDoorLightActs
import Derived.Test.YtkedmlkbepjnfaaGreatDoorKpSame
import Derived.Deep.CutBlock
import Derived.Deep.DeepCutAuto
import Derived.Deep.RegionHeld3
namespace Go.Proofs.YtkedmlkbepjnfaaGreatDoor
open Go.RowKit Go.Sort

def SameB (P : Prop) (w : World) (e : Ending) (w' : World) : Prop := (∃ b : Bool, (P → b = true) ∧ e = .returned (.bool b)) ∧ Below w.heap.size w w'
theorem samestate_b (s s2 : St) (a b : Option Addr) (c d : Nat) (w : World) (ha : StR w s a) (hb : StR w s2 b) :
    Calls Tryz.prog 13 #[stV s a c, stV s2 b d] w fun e w' => SameB (s = s2) w e w' := by
  by_cases h : s = s2
  · subst h
    exact (samestate_true s a b c d w ha hb).mono fun e w' ⟨he, hb⟩ => ⟨⟨true, fun _ => rfl, he⟩, hb⟩
  · exact (samestate_some s s2 a b c d w ha hb).mono fun e w' ⟨⟨q, he⟩, hb⟩ => ⟨⟨q, fun e => absurd e h, he⟩, hb⟩

set_option maxRecDepth 100000 in
set_option maxHeartbeats 40000000 in
theorem topkeeper_walk (l : List Ac) (a : Option Addr) (cap : Nat) (fuse keep : Int) (w : World) (hl : l.length ≤ maxLen) (hr : ActsAt w a l) (t : Tabs w) :
    Calls Tryz.prog 4 #[.slice a l.length cap, .int .i64 fuse, .int .u64 keep] w fun e w' => e = .returned (.bool true) ∧ Below w.heap.size w w' := by
  have TT := Lib.hid t
  have HR := Lib.hid hr
  have HL := Lib.hid hl
  have KEPT := Lib.hid (kept_any w t)
  clear t hr hl
  go_enter Tryz.func4, Tryz.ntmps4
  go_wp2_with fail
  refine KEPT.out.mono ?_
  rintro e w1 ⟨D, K, d, rfl, ki, kg, lv⟩
  have KL := Lib.hid (keep_live kg lv (by show (1 : Int) < _; omega) (ep := 2) (s := s9) (by omega) fault9)
  have KE := Lib.hid (keepI 10 w w1 _ D K ⟨d, 1, 1, sNone⟩ none 0 2 s9 ki kg.kd.ok (by rw [show (⟨d, 1, 1, sNone⟩ : Kp).d.wait = [] from kg.kd.wait]; simp) (by omega) (by show (0 : Int) ≤ 1; omega) (by show (1 : Int) < _; omega) (str_nil _ 9) TT.out)
  clear ki kg lv KEPT
  go_wp2_with fail
  refine KE.out.mono ?_
  rintro e w2 ⟨rfl, ki, -⟩
  obtain ⟨k2, hk2⟩ : ∃ k2, (Kp.keep 10 ⟨d, 1, 1, sNone⟩ 2 s9).1 = k2 := ⟨_, rfl⟩
  rw [KL.out.1, errV_nil]
  rw [hk2] at ki KL
  have K2 := Lib.hid ki
  have F2 := Lib.hid (show KG 10 k2 ∧ k2.num = 2 ∧ k2.ep = 2 ∧ k2.s = s9 ∧ Live k2.d from ⟨KL.out.2.1, KL.out.2.2.1, KL.out.2.2.2.1, KL.out.2.2.2.2.1, KL.out.2.2.2.2.2⟩)
  clear ki hk2 KL KE
  have LA := Lib.hid (lightacts_any l a cap 20 w2 HL.out (HR.out.below K2.out.below))
  go_wp2_with fail
  refine LA.out.mono ?_
  rintro e w3 ⟨b, rfl, hb, b3⟩
  have K3 := Lib.hid (K2.out.over b3)
  have HB := Lib.hid hb
  clear LA hb b3 K2
  cases b
  · clear HB
    go_wp2
    go_ret
    exact ⟨rfl, K3.out.below⟩
  have L20 := Lib.hid (HB.out rfl).1
  clear HB
  obtain ⟨fz, hfz⟩ : ∃ fz, min (max fuse (-1)) 500 = fz := ⟨_, rfl⟩
  have FZ := Lib.hid (show -1 ≤ fz ∧ fz ≤ 500 from by omega)
  have ARM := Lib.hid (armI 10 w w3 _ D K k2 fz K3.out)
  go_wp2_with fail
  clear hfz
  refine ARM.out.mono ?_
  rintro e w4 ⟨rfl, ki, -⟩
  have K4 := Lib.hid ki
  clear ki ARM K3
  go_upto_block 0 with fail
  obtain ⟨k3, hk3⟩ : ∃ k3, ({ k2 with d := { k2.d with fuse := max fz (-1) } } : Kp) = k3 := ⟨_, rfl⟩
  have F3 := Lib.hid (show KG 10 k3 ∧ k3.num = 2 ∧ k3.ep = 2 ∧ k3.s = s9 from by
    rw [← hk3]
    obtain ⟨h1, h2, h3, h4, -⟩ := F2.out
    have h5 := FZ.out
    exact ⟨⟨h1.kd.arm (by omega) (by omega), ⟨h1.sz.kept, h1.sz.now, h1.sz.wait⟩⟩, h2, h3, h4⟩)
  rw [hk3] at K4
  clear hk3
  obtain ⟨w6, hw6⟩ : ∃ w6, w6 = (w4.alloc (.cells #[.int .i64 9, .slice none 0 0, .int .i64 0, .int .i64 0, .bool false] 37)).alloc (.cells #[.int .i64 9, .slice none 0 0, .int .i64 0, .int .i64 0, .bool false] 37) := ⟨_, rfl⟩
  have T6 := Lib.hid (show TK w w4.heap.size (w4.heap.size + 1) D K k3 s9 s9 none none 0 0 w6 from by
    have e1 : (w4.alloc (.cells #[.int .i64 9, .slice none 0 0, .int .i64 0, .int .i64 0, .bool false] 37)).heap.size = w4.heap.size + 1 := by simp
    have k5 := (K4.out.more (.cells #[.int .i64 9, .slice none 0 0, .int .i64 0, .int .i64 0, .bool false] 37)).more (.cells #[.int .i64 9, .slice none 0 0, .int .i64 0, .int .i64 0, .bool false] 37)
    rw [← hw6, e1] at k5
    refine ⟨k5.weak (fun b e => ?_), hw6 ▸ heap_alloc2_old w4 _ _, hw6 ▸ heap_alloc2_new w4 _ _, str_nil _ 9, str_nil _ 9, by omega, K4.out.below.size, Nat.le_succ_of_le K4.out.below.size⟩
    rcases e with e | e
    · exact .inl (.inr e)
    · exact .inr e)
  rw [← hw6]
  obtain ⟨A, hA⟩ : ∃ A, w4.heap.size = A := ⟨_, rfl⟩
  obtain ⟨B, hB⟩ : ∃ B, A + 1 = B := ⟨_, rfl⟩
  rw [hA, hB] at T6
  rw [hA, hB]
  clear hw6 hA hB K4 F2 FZ
  go_cut [12, 13] (fun e f wx => TKEnd w A B D K keep e f wx)
  case first =>
    go_wp2_with fail
    go_loopw [12, 13, 14, 15, 42] (fun e f i _ _ wr => ∃ (j : Nat) (k : Kp) (s : St) (x : Option Addr) (y : Nat), j ≤ l.length ∧ i = .int .i64 j ∧ e = .int .i64 k.ep ∧ f = .int .i64 k.ep ∧ KG 10 k ∧ 0 ≤ k.num ∧ k.num ≤ 2 + j ∧ k.s = s ∧ TK w A B D K k s s x x y y wr) (fun _ _ i _ _ _ => l.length - (intOf i).toNat)
    case atStart =>
      obtain ⟨h1, h2, h3, h4⟩ := F3.out
      exact ⟨0, k3, s9, none, 0, by omega, rfl, by rw [h3], by rw [h3], h1, by omega, by omega, h4, T6.out⟩
    case round =>
      obtain ⟨j, k, s, x, y, hj, rfl, rfl, rfl, kg, hn0, hn, hs, tk⟩ := hrel
      have l20 := L20.out
      have TKH := Lib.hid tk
      have KGH := Lib.hid kg
      have HS := Lib.hid hs
      have HN := Lib.hid (show 0 ≤ k.num ∧ k.num ≤ 2 + j from ⟨hn0, hn⟩)
      obtain ⟨ep, hep⟩ : ∃ ep, k.ep = ep := ⟨_, rfl⟩
      rw [hep]
      have HEP := Lib.hid hep
      clear tk kg hs hn0 hn hep T6 F3
      by_cases hlt : j < l.length
      · have AT0 := HR.out j hlt
        obtain ⟨X, hX⟩ : ∃ X, l[j] = X := ⟨_, rfl⟩
        rw [hX] at AT0
        obtain ⟨ok0, b, o, rfl, hb0, hrg0⟩ := AT0
        have ok := ok0.below TKH.out.below
        have hbl : b < wr.heap.size := Nat.lt_of_lt_of_le hb0 TKH.out.below.size
        have hrg : wr.rangeAt b (o + j * 19) X.cells := fun i v hv => (TKH.out.below.cell (p := ⟨b, _, none⟩) hb0).trans (hrg0 i v hv)
        have OK0 := Lib.hid ok0
        have HRG := Lib.hid hrg
        have HBL := Lib.hid hbl
        have HB0 := Lib.hid hb0
        obtain ⟨⟨c0, c1, c2, c3, c4⟩, ⟨d0, d1, d2, d3, d4⟩, -⟩ := act_cells hrg
        have CHK := Lib.hid (check_any X.st X.ra X.rc wr ok.str)
        have hji : (j : Int) < (l.length : Int) := by omega
        have hj0 : (0 : Int) ≤ (j : Int) := by omega
        clear ok ok0 hX hrg hbl hb0 hrg0
        go_wp2_with fail
        refine CHK.out.mono ?_
        rintro e w7 ⟨rfl, b7⟩
        have T7 := Lib.hid (TKH.out.over b7)
        obtain ⟨⟨-, m1, -, -, -⟩, ⟨m5, m6, m7, m8, m9⟩, -⟩ := act_cells (show w7.rangeAt b (o + j * 19) X.cells from fun i v hv => (b7.cell (p := ⟨b, _, none⟩) HBL.out).trans (HRG.out i v hv))
        clear c0 c1 c2 c3 c4 d0 d1 d2 d3 d4 b7 TKH CHK
        by_cases hf : stateFault X.st = 0
        · rw [hf, errV_nil]
          have HF := Lib.hid hf
          clear hf
          by_cases e1 : X.a < 1
          · go_wp2
            go_roundw
            case rel => exact ⟨j + 1, k, s, x, y, by omega, by go_num, by rw [HEP.out], by rw [HEP.out], KGH.out, HN.out.1, by have := HN.out.2; omega, HS.out, T7.out⟩
            case measure => simp [intOf]; omega
          · by_cases e2 : 1000000 < X.a
            · go_wp2
              go_roundw
              case rel => exact ⟨j + 1, k, s, x, y, by omega, by go_num, by rw [HEP.out], by rw [HEP.out], KGH.out, HN.out.1, by have := HN.out.2; omega, HS.out, T7.out⟩
              case measure => simp [intOf]; omega
            · have EP := Lib.hid (show 1 ≤ X.a ∧ X.a ≤ 1000000 from by omega)
              obtain ⟨-, g0, g1, g2, g3, g4⟩ := T7.out.cellsB
              obtain ⟨n0, n1, n2, n3, n4⟩ := T7.out.cellsB.1
              go_upto_region 16 with fail
              obtain ⟨w8, hw8⟩ : ∃ w8, w8 = fiveS w7 B X.st X.ra X.rc := ⟨_, rfl⟩
              have T8 := Lib.hid (show TK w A B D K k s X.st x X.ra y X.rc w8 from hw8 ▸ T7.out.setB X.rc OK0.out.str)
              have hw8' := hw8
              unfold fiveS five at hw8'
              rw [← hw8']
              have m1' : w8.cell? ⟨b, o + j * 19 + 1, none⟩ = some (.int .i64 X.a) := by
                have hne : b ≠ B := by have := T7.out.lb; have := HB0.out; omega
                rw [hw8]
                exact (World.cell?_of_block (a := ⟨b, _, none⟩) (five_ne hne _ _ _ _ _)).trans m1
              clear m1 m5 m6 m7 m8 m9 n0 n1 n2 n3 n4 g0 g1 g2 g3 g4 hw8 hw8' T7
              have KP := Lib.hid (keepI 10 w w8 _ D K k X.ra X.rc X.a X.st T8.out.ki KGH.out.kd.ok (by rw [KGH.out.kd.wait]; simp) (by omega) HN.out.1 (by have := HN.out.2; omega) (OK0.out.str.below T8.out.below) TT.out)
              have LAW := Lib.hid (keep_law KGH.out (by have := HN.out.2; omega) EP.out HF.out)
              obtain ⟨n0, n1, n2, n3, n4⟩ := T8.out.cellsB.1
              go_wp2_with fail
              refine KP.out.mono ?_
              rintro e w9 ⟨rfl, ki, sm⟩
              have T9 := Lib.hid (T8.out.next ki sm)
              obtain ⟨r, hr⟩ : ∃ r, k.keep 10 X.a X.st = r := ⟨_, rfl⟩
              rw [hr] at T9 LAW ⊢
              clear ki sm KP T8 n0 n1 n2 n3 n4 m1' hr
              rcases LAW.out with ⟨h1, h2, h3, h4, h5⟩ | ⟨h1, h2, h3, h4⟩
              · have R := Lib.hid (show KG 10 r.1 ∧ r.1.num = k.num + 1 ∧ r.1.ep = X.a ∧ r.1.s = X.st from ⟨h2, h3, h4, h5⟩)
                rw [h1, errV_nil]
                clear h1 h2 h3 h4 h5 LAW
                go_wp2_with fail
                refine (number_nil w9).mono ?_
                rintro e w10 ⟨rfl, b10⟩
                have T10 := Lib.hid (T9.out.over b10)
                clear b10 T9
                obtain ⟨n0, n1, n2, n3, n4⟩ := T10.out.cellsB.1
                obtain ⟨⟨p0, p1, p2, p3, p4⟩, g0, g1, g2, g3, g4⟩ := T10.out.cellsA
                go_wp2
                have T11 := T10.out.setA
                unfold fiveS five at T11
                go_roundw
                case rel => exact ⟨j + 1, r.1, X.st, X.ra, X.rc, by omega, by go_num, by rw [R.out.2.2.1], by rw [R.out.2.2.1], R.out.1, by have := HN.out.1; have := R.out.2.1; omega, by have := HN.out.2; have := R.out.2.1; omega, R.out.2.2.2, T11⟩
                case measure => simp [intOf]; omega
              · have R := Lib.hid (show Fell 10 r.1.d k.num k.ep k.s X.a X.st ∧ Sz r.1.d ∧ r.1.d.wait.length ≤ 3 from ⟨h2, h3, h4⟩)
                rw [h1, errV_some (show (10 : Int) ≠ 0 by omega)]
                clear h1 h2 h3 h4 LAW
                go_wp2_with fail
                refine (number_down w9).mono ?_
                rintro e w10 ⟨rfl, b10⟩
                have T10 := Lib.hid (T9.out.over b10)
                clear b10 T9
                go_wp2
                go_meet
                have hk := R.out.1.2 keep
                rw [HEP.out, HS.out] at hk
                exact ⟨r.1, s, X.st, x, X.ra, y, X.rc, ep, X.a, k.num, rfl, rfl, T10.out, R.out.1.1, R.out.2.1, by have := R.out.2.2; omega, HN.out.1, by have := HN.out.2; omega, hk⟩
        · rw [errV_some hf]
          clear hf
          go_wp2
          go_roundw
          case rel => exact ⟨j + 1, k, s, x, y, by omega, by go_num, by rw [HEP.out], by rw [HEP.out], KGH.out, HN.out.1, by have := HN.out.2; omega, HS.out, T7.out⟩
          case measure => simp [intOf]; omega
      · go_wp2
        go_meet
        have hk := KGH.out.kd
        rw [HEP.out, HS.out] at hk
        exact ⟨k, s, s, x, x, y, y, ep, ep, k.num, rfl, rfl, TKH.out, KGH.out.kd.ok, KGH.out.sz, by rw [KGH.out.kd.wait]; simp, HN.out.1, by have := HN.out.2; have := L20.out; omega, .inl (hk.restart keep)⟩
  case rest =>
    obtain ⟨k, s, s2, x, x2, y, y2, ep, ep2, num, rfl, rfl, tk, ok, sz, wl, hn0, hn1, hkd⟩ := hcut
    have RES := Lib.hid (restartI 10 w wc _ D K k keep tk.ki ok wl)
    have T1 := Lib.hid tk
    have SZ := Lib.hid (sz.restart keep)
    obtain ⟨num', ep', s', hk, hlo, hhi, hor⟩ : ∃ num' ep' s', KD 10 (k.d.restart keep) num' ep' s' ∧ 0 ≤ num' ∧ num' ≤ 1001 ∧ ((ep' = ep ∧ s' = s) ∨ (ep' = ep2 ∧ s' = s2)) := by
      rcases hkd with h | h
      · exact ⟨_, _, _, h, by omega, by omega, .inl ⟨rfl, rfl⟩⟩
      · exact ⟨_, _, _, h, by omega, by omega, .inr ⟨rfl, rfl⟩⟩
    have HK := Lib.hid hk
    have HN := Lib.hid (show 0 ≤ num' ∧ num' ≤ 1001 from ⟨hlo, hhi⟩)
    have HOR := Lib.hid hor
    have LV := Lib.hid (live_restart k.d keep)
    clear tk ok sz wl hn0 hn1 hkd hk hlo hhi hor T6 F3 HR HL L20
    go_wp2_with fail
    refine RES.out.mono ?_
    rintro e w2 ⟨rfl, ki, sm⟩
    have T2 := Lib.hid (T1.out.next ki sm)
    obtain ⟨d2, hd2⟩ : ∃ d2, k.d.restart keep = d2 := ⟨_, rfl⟩
    rw [hd2] at T2 HK SZ LV
    clear ki sm hd2 T1 RES
    have OPEN := Lib.hid (openI 10 w w2 _ D K _ num' ep' s' T2.out.ki HK.out SZ.out TT.out)
    go_wp2_with fail
    refine OPEN.out.mono ?_
    rintro e w3 ⟨M, rfl, ki, b3⟩
    have T3 := Lib.hid (show TK w A B D M ⟨d2, num', ep', s'⟩ s s2 x x2 y y2 w3 from T2.out.next ki (fun b hb => b3.block b (T2.out.ki.lt b hb)))
    clear ki b3 OPEN T2
    go_upto_region 27 with fail
    go_cut [129] (fun v wx => v = .bool false ∧ Below w3.heap.size w3 wx)
    case first =>
      -- R27
      have SECOND := Lib.hid (show (¬ s' = s) ∨ (¬ ep' = ep) → Hid ((ep' == ep2) = true) ∧ Hid (∀ w' a7 c7, Below w3.heap.size w3 w' → StR w' s' a7 → Calls Tryz.prog 13 #[stV s' a7 c7, stV s2 x2 y2] w' fun e w'' => e = .returned (.bool true) ∧ Below w'.heap.size w' w'') from fun hne => by
        rcases HOR.out with ⟨h1, h2⟩ | ⟨h1, h2⟩
        · rcases hne with hne | hne
          · exact absurd h2 hne
          · exact absurd h1 hne
        · subst h2; subst h1
          refine ⟨Lib.hid (by simp), Lib.hid (fun w' a7 c7 hb h => ?_)⟩
          exact samestate_true s' a7 x2 c7 y2 w' h ((T3.out.rb.below T3.out.below).below hb))
      have HQ : ep' = ep ∨ ¬ ep' = ep := by omega
      obtain ⟨q, hq⟩ : ∃ q, (ep' == ep) = q := ⟨_, rfl⟩
      have Q1 := Lib.hid hq
      clear hq HQ
      have SA0 := T3.out.cellsA.1
      have SB0 := T3.out.cellsB.1
      have LA := T3.out.ki.lt A (.inl rfl)
      have LB := T3.out.ki.lt B (.inr rfl)
      have SAME1a := Lib.hid (fun w' (a5 : Option Addr) (c5 : Nat) (hb : Below w3.heap.size w3 w') (h : StR w' s' a5) => samestate_b s' s a5 x c5 y w' h ((T3.out.ra.below T3.out.below).below hb))
      have STATEa := Lib.hid (fun w' (hb : Below w3.heap.size w3 w') => stateI 10 w w' _ D M ⟨d2, num', ep', s'⟩ (T3.out.ki.over hb) (by have := HK.out.place.k.g.regs_len; show s'.regs.length ≤ 1000; omega))
      have EPOCHa := Lib.hid (fun w' (hb : Below w3.heap.size w3 w') => epochI 10 w w' _ D M ⟨d2, num', ep', s'⟩ (T3.out.ki.over hb))
      obtain ⟨S, hS⟩ : ∃ S : World → Prop, S = fun w' => Below w3.heap.size w3 w' := ⟨_, rfl⟩
      have S3 : ∀ w', Below w3.heap.size w3 w' → S w' := fun w' h => by rw [hS]; exact h
      have S4 : ∀ w', S w' → Below w3.heap.size w3 w' := fun w' h => by rw [hS] at h; exact h
      have SA : ∀ w', S w' → w'.cell? ⟨A, 0, none⟩ = some (.int .i64 s.gen) ∧ w'.cell? ⟨A, 1, none⟩ = some (.slice x s.regs.length y) ∧ w'.cell? ⟨A, 2, none⟩ = some (.int .i64 s.typ) ∧ w'.cell? ⟨A, 3, none⟩ = some (.int .i64 s.holder) ∧ w'.cell? ⟨A, 4, none⟩ = some (.bool s.stays) := fun w' h =>
        ⟨((S4 w' h).cell (p := ⟨A, 0, none⟩) LA).trans SA0.1, ((S4 w' h).cell (p := ⟨A, 1, none⟩) LA).trans SA0.2.1, ((S4 w' h).cell (p := ⟨A, 2, none⟩) LA).trans SA0.2.2.1, ((S4 w' h).cell (p := ⟨A, 3, none⟩) LA).trans SA0.2.2.2.1, ((S4 w' h).cell (p := ⟨A, 4, none⟩) LA).trans SA0.2.2.2.2⟩
      have SB : ∀ w', S w' → w'.cell? ⟨B, 0, none⟩ = some (.int .i64 s2.gen) ∧ w'.cell? ⟨B, 1, none⟩ = some (.slice x2 s2.regs.length y2) ∧ w'.cell? ⟨B, 2, none⟩ = some (.int .i64 s2.typ) ∧ w'.cell? ⟨B, 3, none⟩ = some (.int .i64 s2.holder) ∧ w'.cell? ⟨B, 4, none⟩ = some (.bool s2.stays) := fun w' h =>
        ⟨((S4 w' h).cell (p := ⟨B, 0, none⟩) LB).trans SB0.1, ((S4 w' h).cell (p := ⟨B, 1, none⟩) LB).trans SB0.2.1, ((S4 w' h).cell (p := ⟨B, 2, none⟩) LB).trans SB0.2.2.1, ((S4 w' h).cell (p := ⟨B, 3, none⟩) LB).trans SB0.2.2.2.1, ((S4 w' h).cell (p := ⟨B, 4, none⟩) LB).trans SB0.2.2.2.2⟩
      have STATE := Lib.hid (fun w' (h : S w') => STATEa.out w' (S4 w' h))
      have EPOCH := Lib.hid (fun w' (h : S w') => EPOCHa.out w' (S4 w' h))
      have SAME1 := Lib.hid (fun w' (a5 : Option Addr) (c5 : Nat) (h : S w') (hs : StR w' s' a5) => SAME1a.out w' a5 c5 (S4 w' h) hs)
      clear hS SA0 SB0 LA LB STATEa EPOCHa SAME1a
      refine wp_region_held_drew (S := S) (by kernel_rfl) (S3 _ (Below.refl _ _).drew) (fun hHeld => ?_)
      refine wpAnyH_take (i := 0) (oi := _) (v := .pointer (some ⟨M, 0, none⟩)) rfl (by kernel_rfl) (by kernel_rfl) (by kernel_rfl) (fun _ _ _ h => h) (Or.inl ⟨by rfl, fun w' hSw => by go_simp⟩) hHeld ?_
      simp only [Act.put, List.getElem_toArray, List.getElem_cons_zero, List.setIfInBounds_toArray, List.set_cons_zero, List.set_cons_succ]
      refine wpAnyH_take (i := 2) (oi := _) (v := .agg #[.int .i64 s.gen, .slice x s.regs.length y, .int .i64 s.typ, .int .i64 s.holder, .bool s.stays]) rfl (by kernel_rfl) (by kernel_rfl) (by kernel_rfl) (fun _ _ _ h => h) (Or.inl ⟨by rfl, fun w' hSw => by obtain ⟨m0, m1, m2, m3, m4⟩ := SA w' hSw; go_simp⟩) hHeld ?_
      simp only [Act.put, List.getElem_toArray, List.getElem_cons_zero, List.getElem_cons_succ, List.setIfInBounds_toArray, List.set_cons_zero, List.set_cons_succ]
      refine wpAnyH_ready (rs := [1]) (by kernel_rfl) (by simp) ?_
      refine AllReadyH.cons (o := _) rfl (fun Kx hK => ?_) AllReadyH.nil
      go_simp
      refine (STATE.out _ hHeld).mono ?_
      rintro e w5 ⟨a5, c5, rfl, hs5, b5⟩
      have HH1 := S3 _ ((S4 _ hHeld).trans (b5.mono (S4 _ hHeld).size))
      refine hK.out _ _ HH1 (fun hHeld1 => ?_)
      clear hK Kx HH1
      refine wpAnyH_ready (rs := [3]) (by kernel_rfl) (by simp) ?_
      refine AllReadyH.cons (o := _) rfl (fun Kx hK => ?_) AllReadyH.nil
      go_simp
      refine (SAME1.out _ a5 c5 hHeld1 hs5).mono ?_
      rintro e w6 ⟨⟨bb, hbb, rfl⟩, b6⟩
      have HH2 := S3 _ ((S4 _ hHeld1).trans (b6.mono (S4 _ hHeld1).size))
      refine hK.out _ _ HH2 (fun hHeld2 => ?_)
      clear hK Kx HH2
      have HBB := Lib.hid hbb
      clear hbb b5 b6 hs5
      cases bb
      · as_aux_lemma =>
        obtain ⟨Q2, SAME2⟩ := SECOND.out (.inl (fun e => by have := HBB.out e; cases this))
        refine wpAnyH_take (i := 4) (oi := _) (v := .bool false) rfl (by kernel_rfl) (by kernel_rfl) (by kernel_rfl) (fun _ _ _ h => h) (Or.inl ⟨by rfl, fun w' hSw => by go_simp⟩) hHeld2 ?_
        simp only [Act.put, List.getElem_toArray, List.getElem_cons_zero, List.getElem_cons_succ, List.setIfInBounds_toArray, List.set_cons_zero, List.set_cons_succ]
        refine wpAnyH_take (i := 5) (oi := _) (v := undef) rfl (by kernel_rfl) (by kernel_rfl) (by kernel_rfl) (fun _ _ _ h => h) (Or.inr ⟨by rfl, rfl⟩) hHeld2 ?_
        simp only [Act.put, List.getElem_toArray, List.getElem_cons_zero, List.getElem_cons_succ, List.setIfInBounds_toArray, List.set_cons_zero, List.set_cons_succ]
        refine wpAnyH_take (i := 7) (oi := _) (v := undef) rfl (by kernel_rfl) (by kernel_rfl) (by kernel_rfl) (fun _ _ _ h => h) (Or.inr ⟨by rfl, rfl⟩) hHeld2 ?_
        simp only [Act.put, List.getElem_toArray, List.getElem_cons_zero, List.getElem_cons_succ, List.setIfInBounds_toArray, List.set_cons_zero, List.set_cons_succ]
        refine wpAnyH_take (i := 6) (oi := _) (v := undef) rfl (by kernel_rfl) (by kernel_rfl) (by kernel_rfl) (fun _ _ _ h => h) (Or.inr ⟨by rfl, rfl⟩) hHeld2 ?_
        simp only [Act.put, List.getElem_toArray, List.getElem_cons_zero, List.getElem_cons_succ, List.setIfInBounds_toArray, List.set_cons_zero, List.set_cons_succ]
        refine wpAnyH_take (i := 8) (oi := _) (v := undef) rfl (by kernel_rfl) (by kernel_rfl) (by kernel_rfl) (fun _ _ _ h => h) (Or.inr ⟨by rfl, rfl⟩) hHeld2 ?_
        simp only [Act.put, List.getElem_toArray, List.getElem_cons_zero, List.getElem_cons_succ, List.setIfInBounds_toArray, List.set_cons_zero, List.set_cons_succ]
        refine wpAnyH_take (i := 9) (oi := _) (v := .bool false) rfl (by kernel_rfl) (by kernel_rfl) (by kernel_rfl) (fun _ _ _ h => h) (Or.inl ⟨by rfl, fun w' hSw => by go_simp⟩) hHeld2 ?_
        simp only [Act.put, List.getElem_toArray, List.getElem_cons_zero, List.getElem_cons_succ, List.setIfInBounds_toArray, List.set_cons_zero, List.set_cons_succ]
        refine wpAnyH_take (i := 10) (oi := _) (v := .bool true) rfl (by kernel_rfl) (by kernel_rfl) (by kernel_rfl) (fun _ _ _ h => h) (Or.inl ⟨by rfl, fun w' hSw => by go_simp⟩) hHeld2 ?_
        simp only [Act.put, List.getElem_toArray, List.getElem_cons_zero, List.getElem_cons_succ, List.setIfInBounds_toArray, List.set_cons_zero, List.set_cons_succ]
        refine wpAnyH_take (i := 11) (oi := _) (v := .bool true) rfl (by kernel_rfl) (by kernel_rfl) (by kernel_rfl) (fun _ _ _ h => h) (Or.inl ⟨by rfl, fun w' hSw => by go_simp⟩) hHeld2 ?_
        simp only [Act.put, List.getElem_toArray, List.getElem_cons_zero, List.getElem_cons_succ, List.setIfInBounds_toArray, List.set_cons_zero, List.set_cons_succ]
        refine wpAnyH_take (i := 12) (oi := _) (v := .pointer (some ⟨M, 0, none⟩)) rfl (by kernel_rfl) (by kernel_rfl) (by kernel_rfl) (fun _ _ _ h => h) (Or.inl ⟨by rfl, fun w' hSw => by go_simp⟩) hHeld2 ?_
        simp only [Act.put, List.getElem_toArray, List.getElem_cons_zero, List.getElem_cons_succ, List.setIfInBounds_toArray, List.set_cons_zero, List.set_cons_succ]
        refine wpAnyH_take (i := 14) (oi := _) (v := .agg #[.int .i64 s2.gen, .slice x2 s2.regs.length y2, .int .i64 s2.typ, .int .i64 s2.holder, .bool s2.stays]) rfl (by kernel_rfl) (by kernel_rfl) (by kernel_rfl) (fun _ _ _ h => h) (Or.inl ⟨by rfl, fun w' hSw => by obtain ⟨m0, m1, m2, m3, m4⟩ := SB w' hSw; go_simp⟩) hHeld2 ?_
        simp only [Act.put, List.getElem_toArray, List.getElem_cons_zero, List.getElem_cons_succ, List.setIfInBounds_toArray, List.set_cons_zero, List.set_cons_succ]
        refine wpAnyH_ready (rs := [13]) (by kernel_rfl) (by simp) ?_
        refine AllReadyH.cons (o := _) rfl (fun Kx hK => ?_) AllReadyH.nil
        go_simp
        refine (STATE.out _ hHeld2).mono ?_
        rintro e w7 ⟨a7, c7, rfl, hs7, b7⟩
        have HH3 := S3 _ ((S4 _ hHeld2).trans (b7.mono (S4 _ hHeld2).size))
        refine hK.out _ _ HH3 (fun hHeld3 => ?_)
        clear hK Kx HH3
        refine wpAnyH_ready (rs := [15]) (by kernel_rfl) (by simp) ?_
        refine AllReadyH.cons (o := _) rfl (fun Kx hK => ?_) AllReadyH.nil
        go_simp
        refine (SAME2.out _ a7 c7 (S4 _ hHeld3) hs7).mono ?_
        rintro e w8 ⟨rfl, b8⟩
        have HH4 := S3 _ ((S4 _ hHeld3).trans (b8.mono (S4 _ hHeld3).size))
        refine hK.out _ _ HH4 (fun hHeld4 => ?_)
        clear hK Kx HH4
        refine wpAnyH_take (i := 16) (oi := _) (v := .bool true) rfl (by kernel_rfl) (by kernel_rfl) (by kernel_rfl) (fun _ _ _ h => h) (Or.inl ⟨by rfl, fun w' hSw => by go_simp⟩) hHeld4 ?_
        simp only [Act.put, List.getElem_toArray, List.getElem_cons_zero, List.getElem_cons_succ, List.setIfInBounds_toArray, List.set_cons_zero, List.set_cons_succ]
        refine wpAnyH_take (i := 17) (oi := _) (v := .pointer (some ⟨M, 0, none⟩)) rfl (by kernel_rfl) (by kernel_rfl) (by kernel_rfl) (fun _ _ _ h => h) (Or.inl ⟨by rfl, fun w' hSw => by go_simp⟩) hHeld4 ?_
        simp only [Act.put, List.getElem_toArray, List.getElem_cons_zero, List.getElem_cons_succ, List.setIfInBounds_toArray, List.set_cons_zero, List.set_cons_succ]
        refine wpAnyH_take (i := 19) (oi := _) (v := .int .i64 ep2) rfl (by kernel_rfl) (by kernel_rfl) (by kernel_rfl) (fun _ _ _ h => h) (Or.inl ⟨by rfl, fun w' hSw => by go_simp⟩) hHeld4 ?_
        simp only [Act.put, List.getElem_toArray, List.getElem_cons_zero, List.getElem_cons_succ, List.setIfInBounds_toArray, List.set_cons_zero, List.set_cons_succ]
        refine wpAnyH_ready (rs := [18]) (by kernel_rfl) (by simp) ?_
        refine AllReadyH.cons (o := _) rfl (fun Kx hK => ?_) AllReadyH.nil
        go_simp
        refine (EPOCH.out _ hHeld4).mono ?_
        rintro e w9 ⟨rfl, rfl⟩
        have HH5 := hHeld4
        refine hK.out _ _ HH5 (fun hHeld5 => ?_)
        clear hK Kx HH5
        refine wpAnyH_take (i := 20) (oi := _) (v := .bool true) rfl (by kernel_rfl) (by kernel_rfl) (by kernel_rfl) (fun _ _ _ h => h) (Or.inl ⟨by rfl, fun w' hSw => by have q2 := Q2.out; go_simp⟩) hHeld5 ?_
        simp only [Act.put, List.getElem_toArray, List.getElem_cons_zero, List.getElem_cons_succ, List.setIfInBounds_toArray, List.set_cons_zero, List.set_cons_succ]
        refine wpAnyH_take (i := 21) (oi := _) (v := .bool true) rfl (by kernel_rfl) (by kernel_rfl) (by kernel_rfl) (fun _ _ _ h => h) (Or.inl ⟨by rfl, fun w' hSw => by go_simp⟩) hHeld5 ?_
        simp only [Act.put, List.getElem_toArray, List.getElem_cons_zero, List.getElem_cons_succ, List.setIfInBounds_toArray, List.set_cons_zero, List.set_cons_succ]
        refine wpAnyH_take (i := 22) (oi := _) (v := .bool false) rfl (by kernel_rfl) (by kernel_rfl) (by kernel_rfl) (fun _ _ _ h => h) (Or.inl ⟨by rfl, fun w' hSw => by go_simp⟩) hHeld5 ?_
        simp only [Act.put, List.getElem_toArray, List.getElem_cons_zero, List.getElem_cons_succ, List.setIfInBounds_toArray, List.set_cons_zero, List.set_cons_succ]
        refine wpAnyH_take (i := 23) (oi := _) (v := .bool false) rfl (by kernel_rfl) (by kernel_rfl) (by kernel_rfl) (fun _ _ _ h => h) (Or.inl ⟨by rfl, fun w' hSw => by go_simp⟩) hHeld5 ?_
        simp only [Act.put, List.getElem_toArray, List.getElem_cons_zero, List.getElem_cons_succ, List.setIfInBounds_toArray, List.set_cons_zero, List.set_cons_succ]
        refine wpAnyH_done (by kernel_rfl) ?_ _
        go_wp2_with fail
        go_meet
        exact ⟨rfl, S4 _ hHeld5⟩
      · as_aux_lemma =>
        refine wpAnyH_take (i := 4) (oi := _) (v := .bool true) rfl (by kernel_rfl) (by kernel_rfl) (by kernel_rfl) (fun _ _ _ h => h) (Or.inl ⟨by rfl, fun w' hSw => by go_simp⟩) hHeld2 ?_
        simp only [Act.put, List.getElem_toArray, List.getElem_cons_zero, List.getElem_cons_succ, List.setIfInBounds_toArray, List.set_cons_zero, List.set_cons_succ]
        refine wpAnyH_take (i := 5) (oi := _) (v := .pointer (some ⟨M, 0, none⟩)) rfl (by kernel_rfl) (by kernel_rfl) (by kernel_rfl) (fun _ _ _ h => h) (Or.inl ⟨by rfl, fun w' hSw => by go_simp⟩) hHeld2 ?_
        simp only [Act.put, List.getElem_toArray, List.getElem_cons_zero, List.getElem_cons_succ, List.setIfInBounds_toArray, List.set_cons_zero, List.set_cons_succ]
        refine wpAnyH_take (i := 7) (oi := _) (v := .int .i64 ep) rfl (by kernel_rfl) (by kernel_rfl) (by kernel_rfl) (fun _ _ _ h => h) (Or.inl ⟨by rfl, fun w' hSw => by go_simp⟩) hHeld2 ?_
        simp only [Act.put, List.getElem_toArray, List.getElem_cons_zero, List.getElem_cons_succ, List.setIfInBounds_toArray, List.set_cons_zero, List.set_cons_succ]
        refine wpAnyH_ready (rs := [6]) (by kernel_rfl) (by simp) ?_
        refine AllReadyH.cons (o := _) rfl (fun Kx hK => ?_) AllReadyH.nil
        go_simp
        refine (EPOCH.out _ hHeld2).mono ?_
        rintro e w7 ⟨rfl, rfl⟩
        have HH3 := hHeld2
        refine hK.out _ _ HH3 (fun hHeld3 => ?_)
        clear hK Kx HH3
        refine wpAnyH_take (i := 8) (oi := _) (v := .bool q) rfl (by kernel_rfl) (by kernel_rfl) (by kernel_rfl) (fun _ _ _ h => h) (Or.inl ⟨by rfl, fun w' hSw => by have q1 := Q1.out; go_simp⟩) hHeld3 ?_
        simp only [Act.put, List.getElem_toArray, List.getElem_cons_zero, List.getElem_cons_succ, List.setIfInBounds_toArray, List.set_cons_zero, List.set_cons_succ]
        cases q
        · obtain ⟨Q2, SAME2⟩ := SECOND.out (.inr (fun e => by have := Q1.out; rw [e] at this; simp at this))
          refine wpAnyH_take (i := 9) (oi := _) (v := .bool false) rfl (by kernel_rfl) (by kernel_rfl) (by kernel_rfl) (fun _ _ _ h => h) (Or.inl ⟨by rfl, fun w' hSw => by go_simp⟩) hHeld3 ?_
          simp only [Act.put, List.getElem_toArray, List.getElem_cons_zero, List.getElem_cons_succ, List.setIfInBounds_toArray, List.set_cons_zero, List.set_cons_succ]
          refine wpAnyH_take (i := 10) (oi := _) (v := .bool true) rfl (by kernel_rfl) (by kernel_rfl) (by kernel_rfl) (fun _ _ _ h => h) (Or.inl ⟨by rfl, fun w' hSw => by go_simp⟩) hHeld3 ?_
          simp only [Act.put, List.getElem_toArray, List.getElem_cons_zero, List.getElem_cons_succ, List.setIfInBounds_toArray, List.set_cons_zero, List.set_cons_succ]
          refine wpAnyH_take (i := 11) (oi := _) (v := .bool true) rfl (by kernel_rfl) (by kernel_rfl) (by kernel_rfl) (fun _ _ _ h => h) (Or.inl ⟨by rfl, fun w' hSw => by go_simp⟩) hHeld3 ?_
          simp only [Act.put, List.getElem_toArray, List.getElem_cons_zero, List.getElem_cons_succ, List.setIfInBounds_toArray, List.set_cons_zero, List.set_cons_succ]
          refine wpAnyH_take (i := 12) (oi := _) (v := .pointer (some ⟨M, 0, none⟩)) rfl (by kernel_rfl) (by kernel_rfl) (by kernel_rfl) (fun _ _ _ h => h) (Or.inl ⟨by rfl, fun w' hSw => by go_simp⟩) hHeld3 ?_
          simp only [Act.put, List.getElem_toArray, List.getElem_cons_zero, List.getElem_cons_succ, List.setIfInBounds_toArray, List.set_cons_zero, List.set_cons_succ]
          refine wpAnyH_take (i := 14) (oi := _) (v := .agg #[.int .i64 s2.gen, .slice x2 s2.regs.length y2, .int .i64 s2.typ, .int .i64 s2.holder, .bool s2.stays]) rfl (by kernel_rfl) (by kernel_rfl) (by kernel_rfl) (fun _ _ _ h => h) (Or.inl ⟨by rfl, fun w' hSw => by obtain ⟨m0, m1, m2, m3, m4⟩ := SB w' hSw; go_simp⟩) hHeld3 ?_
          simp only [Act.put, List.getElem_toArray, List.getElem_cons_zero, List.getElem_cons_succ, List.setIfInBounds_toArray, List.set_cons_zero, List.set_cons_succ]
          refine wpAnyH_ready (rs := [13]) (by kernel_rfl) (by simp) ?_
          refine AllReadyH.cons (o := _) rfl (fun Kx hK => ?_) AllReadyH.nil
          go_simp
          refine (STATE.out _ hHeld3).mono ?_
          rintro e w7 ⟨a7, c7, rfl, hs7, b7⟩
          have HH4 := S3 _ ((S4 _ hHeld3).trans (b7.mono (S4 _ hHeld3).size))
          refine hK.out _ _ HH4 (fun hHeld4 => ?_)
          clear hK Kx HH4
          refine wpAnyH_ready (rs := [15]) (by kernel_rfl) (by simp) ?_
          refine AllReadyH.cons (o := _) rfl (fun Kx hK => ?_) AllReadyH.nil
          go_simp
          refine (SAME2.out _ a7 c7 (S4 _ hHeld4) hs7).mono ?_
          rintro e w8 ⟨rfl, b8⟩
          have HH5 := S3 _ ((S4 _ hHeld4).trans (b8.mono (S4 _ hHeld4).size))
          refine hK.out _ _ HH5 (fun hHeld5 => ?_)
          clear hK Kx HH5
          refine wpAnyH_take (i := 16) (oi := _) (v := .bool true) rfl (by kernel_rfl) (by kernel_rfl) (by kernel_rfl) (fun _ _ _ h => h) (Or.inl ⟨by rfl, fun w' hSw => by go_simp⟩) hHeld5 ?_
          simp only [Act.put, List.getElem_toArray, List.getElem_cons_zero, List.getElem_cons_succ, List.setIfInBounds_toArray, List.set_cons_zero, List.set_cons_succ]
          refine wpAnyH_take (i := 17) (oi := _) (v := .pointer (some ⟨M, 0, none⟩)) rfl (by kernel_rfl) (by kernel_rfl) (by kernel_rfl) (fun _ _ _ h => h) (Or.inl ⟨by rfl, fun w' hSw => by go_simp⟩) hHeld5 ?_
          simp only [Act.put, List.getElem_toArray, List.getElem_cons_zero, List.getElem_cons_succ, List.setIfInBounds_toArray, List.set_cons_zero, List.set_cons_succ]
          refine wpAnyH_take (i := 19) (oi := _) (v := .int .i64 ep2) rfl (by kernel_rfl) (by kernel_rfl) (by kernel_rfl) (fun _ _ _ h => h) (Or.inl ⟨by rfl, fun w' hSw => by go_simp⟩) hHeld5 ?_
          simp only [Act.put, List.getElem_toArray, List.getElem_cons_zero, List.getElem_cons_succ, List.setIfInBounds_toArray, List.set_cons_zero, List.set_cons_succ]
          refine wpAnyH_ready (rs := [18]) (by kernel_rfl) (by simp) ?_
          refine AllReadyH.cons (o := _) rfl (fun Kx hK => ?_) AllReadyH.nil
          go_simp
          refine (EPOCH.out _ hHeld5).mono ?_
          rintro e w9 ⟨rfl, rfl⟩
          have HH6 := hHeld5
          refine hK.out _ _ HH6 (fun hHeld6 => ?_)
          clear hK Kx HH6
          refine wpAnyH_take (i := 20) (oi := _) (v := .bool true) rfl (by kernel_rfl) (by kernel_rfl) (by kernel_rfl) (fun _ _ _ h => h) (Or.inl ⟨by rfl, fun w' hSw => by have q2 := Q2.out; go_simp⟩) hHeld6 ?_
          simp only [Act.put, List.getElem_toArray, List.getElem_cons_zero, List.getElem_cons_succ, List.setIfInBounds_toArray, List.set_cons_zero, List.set_cons_succ]
          refine wpAnyH_take (i := 21) (oi := _) (v := .bool true) rfl (by kernel_rfl) (by kernel_rfl) (by kernel_rfl) (fun _ _ _ h => h) (Or.inl ⟨by rfl, fun w' hSw => by go_simp⟩) hHeld6 ?_
          simp only [Act.put, List.getElem_toArray, List.getElem_cons_zero, List.getElem_cons_succ, List.setIfInBounds_toArray, List.set_cons_zero, List.set_cons_succ]
          refine wpAnyH_take (i := 22) (oi := _) (v := .bool false) rfl (by kernel_rfl) (by kernel_rfl) (by kernel_rfl) (fun _ _ _ h => h) (Or.inl ⟨by rfl, fun w' hSw => by go_simp⟩) hHeld6 ?_
          simp only [Act.put, List.getElem_toArray, List.getElem_cons_zero, List.getElem_cons_succ, List.setIfInBounds_toArray, List.set_cons_zero, List.set_cons_succ]
          refine wpAnyH_take (i := 23) (oi := _) (v := .bool false) rfl (by kernel_rfl) (by kernel_rfl) (by kernel_rfl) (fun _ _ _ h => h) (Or.inl ⟨by rfl, fun w' hSw => by go_simp⟩) hHeld6 ?_
          simp only [Act.put, List.getElem_toArray, List.getElem_cons_zero, List.getElem_cons_succ, List.setIfInBounds_toArray, List.set_cons_zero, List.set_cons_succ]
          refine wpAnyH_done (by kernel_rfl) ?_ _
          go_wp2_with fail
          go_meet
          exact ⟨rfl, S4 _ hHeld6⟩
        · refine wpAnyH_take (i := 9) (oi := _) (v := .bool true) rfl (by kernel_rfl) (by kernel_rfl) (by kernel_rfl) (fun _ _ _ h => h) (Or.inl ⟨by rfl, fun w' hSw => by go_simp⟩) hHeld3 ?_
          simp only [Act.put, List.getElem_toArray, List.getElem_cons_zero, List.getElem_cons_succ, List.setIfInBounds_toArray, List.set_cons_zero, List.set_cons_succ]
          refine wpAnyH_take (i := 10) (oi := _) (v := .bool false) rfl (by kernel_rfl) (by kernel_rfl) (by kernel_rfl) (fun _ _ _ h => h) (Or.inl ⟨by rfl, fun w' hSw => by go_simp⟩) hHeld3 ?_
          simp only [Act.put, List.getElem_toArray, List.getElem_cons_zero, List.getElem_cons_succ, List.setIfInBounds_toArray, List.set_cons_zero, List.set_cons_succ]
          refine wpAnyH_take (i := 11) (oi := _) (v := .bool false) rfl (by kernel_rfl) (by kernel_rfl) (by kernel_rfl) (fun _ _ _ h => h) (Or.inl ⟨by rfl, fun w' hSw => by go_simp⟩) hHeld3 ?_
          simp only [Act.put, List.getElem_toArray, List.getElem_cons_zero, List.getElem_cons_succ, List.setIfInBounds_toArray, List.set_cons_zero, List.set_cons_succ]
          refine wpAnyH_take (i := 12) (oi := _) (v := undef) rfl (by kernel_rfl) (by kernel_rfl) (by kernel_rfl) (fun _ _ _ h => h) (Or.inr ⟨by rfl, rfl⟩) hHeld3 ?_
          simp only [Act.put, List.getElem_toArray, List.getElem_cons_zero, List.getElem_cons_succ, List.setIfInBounds_toArray, List.set_cons_zero, List.set_cons_succ]
          refine wpAnyH_take (i := 13) (oi := _) (v := undef) rfl (by kernel_rfl) (by kernel_rfl) (by kernel_rfl) (fun _ _ _ h => h) (Or.inr ⟨by rfl, rfl⟩) hHeld3 ?_
          simp only [Act.put, List.getElem_toArray, List.getElem_cons_zero, List.getElem_cons_succ, List.setIfInBounds_toArray, List.set_cons_zero, List.set_cons_succ]
          refine wpAnyH_take (i := 14) (oi := _) (v := undef) rfl (by kernel_rfl) (by kernel_rfl) (by kernel_rfl) (fun _ _ _ h => h) (Or.inr ⟨by rfl, rfl⟩) hHeld3 ?_
          simp only [Act.put, List.getElem_toArray, List.getElem_cons_zero, List.getElem_cons_succ, List.setIfInBounds_toArray, List.set_cons_zero, List.set_cons_succ]
          refine wpAnyH_take (i := 15) (oi := _) (v := undef) rfl (by kernel_rfl) (by kernel_rfl) (by kernel_rfl) (fun _ _ _ h => h) (Or.inr ⟨by rfl, rfl⟩) hHeld3 ?_
          simp only [Act.put, List.getElem_toArray, List.getElem_cons_zero, List.getElem_cons_succ, List.setIfInBounds_toArray, List.set_cons_zero, List.set_cons_succ]
          refine wpAnyH_take (i := 16) (oi := _) (v := undef) rfl (by kernel_rfl) (by kernel_rfl) (by kernel_rfl) (fun _ _ _ h => h) (Or.inr ⟨by rfl, rfl⟩) hHeld3 ?_
          simp only [Act.put, List.getElem_toArray, List.getElem_cons_zero, List.getElem_cons_succ, List.setIfInBounds_toArray, List.set_cons_zero, List.set_cons_succ]
          refine wpAnyH_take (i := 17) (oi := _) (v := undef) rfl (by kernel_rfl) (by kernel_rfl) (by kernel_rfl) (fun _ _ _ h => h) (Or.inr ⟨by rfl, rfl⟩) hHeld3 ?_
          simp only [Act.put, List.getElem_toArray, List.getElem_cons_zero, List.getElem_cons_succ, List.setIfInBounds_toArray, List.set_cons_zero, List.set_cons_succ]
          refine wpAnyH_take (i := 18) (oi := _) (v := undef) rfl (by kernel_rfl) (by kernel_rfl) (by kernel_rfl) (fun _ _ _ h => h) (Or.inr ⟨by rfl, rfl⟩) hHeld3 ?_
          simp only [Act.put, List.getElem_toArray, List.getElem_cons_zero, List.getElem_cons_succ, List.setIfInBounds_toArray, List.set_cons_zero, List.set_cons_succ]
          refine wpAnyH_take (i := 19) (oi := _) (v := undef) rfl (by kernel_rfl) (by kernel_rfl) (by kernel_rfl) (fun _ _ _ h => h) (Or.inr ⟨by rfl, rfl⟩) hHeld3 ?_
          simp only [Act.put, List.getElem_toArray, List.getElem_cons_zero, List.getElem_cons_succ, List.setIfInBounds_toArray, List.set_cons_zero, List.set_cons_succ]
          refine wpAnyH_take (i := 20) (oi := _) (v := undef) rfl (by kernel_rfl) (by kernel_rfl) (by kernel_rfl) (fun _ _ _ h => h) (Or.inr ⟨by rfl, rfl⟩) hHeld3 ?_
          simp only [Act.put, List.getElem_toArray, List.getElem_cons_zero, List.getElem_cons_succ, List.setIfInBounds_toArray, List.set_cons_zero, List.set_cons_succ]
          refine wpAnyH_take (i := 21) (oi := _) (v := undef) rfl (by kernel_rfl) (by kernel_rfl) (by kernel_rfl) (fun _ _ _ h => h) (Or.inr ⟨by rfl, rfl⟩) hHeld3 ?_
          simp only [Act.put, List.getElem_toArray, List.getElem_cons_zero, List.getElem_cons_succ, List.setIfInBounds_toArray, List.set_cons_zero, List.set_cons_succ]
          refine wpAnyH_take (i := 22) (oi := _) (v := undef) rfl (by kernel_rfl) (by kernel_rfl) (by kernel_rfl) (fun _ _ _ h => h) (Or.inr ⟨by rfl, rfl⟩) hHeld3 ?_
          simp only [Act.put, List.getElem_toArray, List.getElem_cons_zero, List.getElem_cons_succ, List.setIfInBounds_toArray, List.set_cons_zero, List.set_cons_succ]
          refine wpAnyH_take (i := 23) (oi := _) (v := .bool false) rfl (by kernel_rfl) (by kernel_rfl) (by kernel_rfl) (fun _ _ _ h => h) (Or.inl ⟨by rfl, fun w' hSw => by go_simp⟩) hHeld3 ?_
          simp only [Act.put, List.getElem_toArray, List.getElem_cons_zero, List.getElem_cons_succ, List.setIfInBounds_toArray, List.set_cons_zero, List.set_cons_succ]
          refine wpAnyH_done (by kernel_rfl) ?_ _
          go_wp2_with fail
          go_meet
          exact ⟨rfl, S4 _ hHeld3⟩
      -- /R27
    case rest =>
      obtain ⟨rfl, b4⟩ := hcut
      have T4 := Lib.hid (T3.out.over b4)
      have KG2 := Lib.hid (show KG 10 ⟨d2, num', ep', s'⟩ from ⟨HK.out, SZ.out⟩)
      have KL := Lib.hid (keep_live KG2.out LV.out (by have := HN.out.2; show num' < _; omega) (ep := 7) (s := s8) (by omega) fault8)
      obtain ⟨w4, hw4⟩ : ∃ w4 : World, w4 = wc := ⟨_, rfl⟩
      rw [← hw4] at T4 ⊢
      have KE := Lib.hid (keepI 10 w w4 _ D M ⟨d2, num', ep', s'⟩ none 0 7 s8 T4.out.ki HK.out.ok (by rw [show (⟨d2, num', ep', s'⟩ : Kp).d.wait = [] from HK.out.wait]; simp) (by omega) HN.out.1 (by have := HN.out.2; show num' < _; omega) (str_nil _ 8) TT.out)
      clear b4 hw4 T3 HOR HK SZ
      go_wp2_with fail
      refine KE.out.mono ?_
      rintro e w5 ⟨rfl, ki, -⟩
      obtain ⟨k5, hk5⟩ : ∃ k5, (Kp.keep 10 ⟨d2, num', ep', s'⟩ 7 s8).1 = k5 := ⟨_, rfl⟩
      rw [KL.out.1, errV_nil]
      rw [hk5] at ki KL
      have K5 := Lib.hid ki
      have G5 := Lib.hid (show KD 10 k5.d k5.num 7 s8 ∧ Sz k5.d from by
        obtain ⟨-, h2, h3, h4, h5, -⟩ := KL.out
        have := h2.kd
        rw [h4, h5] at this
        exact ⟨this, h2.sz⟩)
      have OPEN := Lib.hid (openI 10 w w5 _ D M k5 k5.num 7 s8 K5.out G5.out.1 G5.out.2 TT.out)
      clear ki hk5 KL KE T4 KG2
      go_wp2_with fail
      refine OPEN.out.mono ?_
      rintro e w6 ⟨M2, rfl, ki, -⟩
      have K6 := Lib.hid ki
      have ST := Lib.hid (stateI 10 w w6 _ D M2 ⟨k5.d, k5.num, 7, s8⟩ ki (by show (0 : Nat) ≤ 1000; omega))
      clear ki OPEN K5
      go_wp2_with fail
      refine ST.out.mono ?_
      rintro e w7 ⟨a7, c7, rfl, -, b7⟩
      have K7 := Lib.hid ((K6.out.over b7).over (bal w7 (.cells #[.int .i64 8, .slice a7 0 c7, .int .i64 0, .int .i64 0, .bool false] 37)))
      clear b7 ST K6
      have EPO := Lib.hid (epochI 10 w _ _ D M2 ⟨k5.d, k5.num, 7, s8⟩ K7.out)
      go_wp2_with fail
      refine EPO.out.mono ?_
      rintro e w8 ⟨rfl, rfl⟩
      go_wp2
      go_ret
      exact ⟨rfl, K7.out.below⟩
end Go.Proofs.YtkedmlkbepjnfaaGreatDoor
