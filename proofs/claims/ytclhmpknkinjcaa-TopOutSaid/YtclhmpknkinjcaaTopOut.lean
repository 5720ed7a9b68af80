/-
  TopOut: the walk.
-/
import Derived.Test.YtclhmpknkinjcaaTopOrd
import Derived.Test.YtclhmpknkinjcaaDoTop
namespace Go.Proofs.Ytclhmpknkinjcaa
open Go.RowKit Go.Sort

theorem all_x (s : St) (a : Option Addr) (cap : Nat) (b : Bool) (hb : allT s.typ = b) (w : World) :
    Calls Try.prog 75 #[stV s a cap] w fun e w' => e = .returned (.bool b) ∧ Below w.heap.size w w' := by
  subst hb; exact all_any s a cap w

set_option maxRecDepth 100000 in
set_option maxHeartbeats 4000000 in
theorem topout_walk (s : St) (a : Option Addr) (cap : Nat) (c : Cmd) (w : World) (hr : StR w s a) (hs : c.data.size ≤ maxLen ∧ c.want.size ≤ maxLen) :
    Calls Try.prog 14 #[stV s a cap, cmdV c] w fun e w' => e = .returned (.bool true) ∧ Below w.heap.size w w' := by
  unfold maxLen at hs
  have HZ := Lib.hid hs
  have HR := Lib.hid hr
  clear hs hr
  obtain ⟨m, hm⟩ : ∃ m, mayB s c = m := ⟨_, rfl⟩
  have HM := Lib.hid hm
  clear hm
  go_enter Try.func14, Try.ntmps14
  go_wp2_with fail
  refine (ordered_any _).mono ?_
  rintro e w1 ⟨rfl, b1⟩
  have HB1 := Lib.hid ((bal2x w _ _).trans (b1.mono (by simp; omega)))
  have hz1 : w.heap.size + 1 < w1.heap.size := by have := b1.size; simp at this; omega
  have hz0 : w.heap.size < w1.heap.size := by omega
  have HS := Lib.hid ((b1.block w.heap.size (by simp <;> omega)).trans (heap_alloc2_old w _ _))
  have HC := Lib.hid ((b1.block (w.heap.size + 1) (by simp <;> omega)).trans (heap_alloc2_new w _ _))
  clear b1
  obtain ⟨s0, s1, s2, s3, s4⟩ := box5' HS.out
  obtain ⟨c0, c1, c2, c3, c4, c5, c6, c7, c8⟩ := box9 HC.out
  go_wp2_with fail
  refine (topmay_any s a cap c _ (HR.out.below HB1.out) HZ.out).mono ?_
  rintro e w2 ⟨rfl, b2⟩
  rw [HM.out]
  have HB2 := Lib.hid (HB1.out.trans (b2.mono HB1.out.size))
  have hy1 : w.heap.size + 1 < w2.heap.size := Nat.lt_of_lt_of_le hz1 b2.size
  have hy0 : w.heap.size < w2.heap.size := by omega
  have HS2 := Lib.hid ((b2.block w.heap.size hz0).trans HS.out)
  have HC2 := Lib.hid ((b2.block (w.heap.size + 1) hz1).trans HC.out)
  clear b2 s0 s1 s2 s3 s4 c0 c1 c2 c3 c4 c5 c6 c7 c8
  obtain ⟨s0, s1, s2, s3, s4⟩ := box5' HS2.out
  obtain ⟨c0, c1, c2, c3, c4, c5, c6, c7, c8⟩ := box9 HC2.out
  cases m
  · go_wp2
    go_ret
    exact ⟨rfl, HB2.out⟩
  by_cases hop : c.op = 6
  case neg =>
    have n4 : (c.op != 6) = true := by rw [bne_iff_ne]; omega
    go_wp2
    go_ret
    exact ⟨rfl, HB2.out⟩
  have hopb : (c.op != 6) = false := by simp [hop]
  have HOP := Lib.hid hop
  clear hop
  have MO := Lib.hid (mayB_ok HM.out)
  obtain ⟨⟨r, lt, f⟩, hP⟩ : ∃ R, pdo s c = R := ⟨_, rfl⟩
  have HP := Lib.hid hP
  clear hP
  go_wp2_with fail
  refine (do_x s a cap c _ (HR.out.below HB2.out) MO.out r lt f HP.out).mono ?_
  rintro e w3 ⟨a3, c3', at3, ct3, rfl, hs3, hp3, b3⟩
  have HB3 := Lib.hid (HB2.out.trans (b3.mono HB2.out.size))
  have hx1 : w.heap.size + 1 < w3.heap.size := Nat.lt_of_lt_of_le hy1 b3.size
  have hx0 : w.heap.size < w3.heap.size := by omega
  have HS3 := Lib.hid ((b3.block w.heap.size hy0).trans HS2.out)
  have HC3 := Lib.hid ((b3.block (w.heap.size + 1) hy1).trans HC2.out)
  have HR3 := Lib.hid hs3
  have HP3 := Lib.hid hp3
  clear b3 hs3 hp3 s0 s1 s2 s3 s4 c0 c1 c2 c3 c4 c5 c6 c7 c8
  by_cases hf : f = 0
  · subst hf
    rw [errV_nil]
    obtain ⟨w4, hw4⟩ : ∃ w4, w4 = w3.alloc (.cells #[.int .i64 r.gen, .slice a3 r.regs.length c3', .int .i64 r.typ, .int .i64 r.holder, .bool r.stays] 47) := ⟨_, rfl⟩
    have HB4 := Lib.hid (show Below w.heap.size w w4 from hw4 ▸ HB3.out.trans ((bal w3 _).mono HB3.out.size))
    have hv1 : w.heap.size + 1 < w4.heap.size := by rw [hw4]; simp; omega
    have hv0 : w.heap.size < w4.heap.size := by omega
    have hv3 : w3.heap.size < w4.heap.size := by rw [hw4]; simp
    have HB34 := Lib.hid (show Below w3.heap.size w3 w4 from hw4 ▸ bal w3 _)
    have HT4 := Lib.hid (show w4.heap[w3.heap.size]? = some (.cells #[.int .i64 r.gen, .slice a3 r.regs.length c3', .int .i64 r.typ, .int .i64 r.holder, .bool r.stays] 47 (0, 0)) from hw4 ▸ heap_alloc_new w3 _)
    have HS4 := Lib.hid ((HB34.out.block _ hx0).trans HS3.out)
    have HC4 := Lib.hid ((HB34.out.block _ hx1).trans HC3.out)
    have HR4 := Lib.hid (HR3.out.below HB34.out)
    have HP4 := Lib.hid ((HP3.out.below HB34.out (Nat.le_refl _)).mono HB34.out.size)
    have HRS4 := Lib.hid (HR.out.below HB4.out)
    go_upto_region 7 with fail
    rw [← hw4]
    clear hw4
    obtain ⟨s0, s1, s2, s3, s4⟩ := box5' HS4.out
    obtain ⟨c0, c1, c2, c3, c4, c5, c6, c7, c8⟩ := box9 HC4.out
    obtain ⟨t0, t1, t2, t3, t4⟩ := box5' HT4.out
    go_wp2_with fail
    have OF := Lib.hid (do_out MO.out.good MO.out.cmd HP.out HOP.out)
    go_loopw [9] (fun i wr => ∃ k : Nat, k ≤ r.regs.length ∧ i = .int .i64 k ∧ Below w4.heap.size w4 wr) (fun i _ => r.regs.length - (intOf i).toNat)
    case atStart => exact ⟨0, by omega, rfl, Below.refl _ _⟩
    case round =>
      obtain ⟨k, hk, rfl, hb⟩ := hrel
      have HB := Lib.hid hb
      have hu1 : w.heap.size + 1 < wr.heap.size := Nat.lt_of_lt_of_le hv1 hb.size
      have hu0 : w.heap.size < wr.heap.size := by omega
      have hu3 : w3.heap.size < wr.heap.size := Nat.lt_of_lt_of_le hv3 hb.size
      have HBW := Lib.hid (HB4.out.trans (hb.mono HB4.out.size))
      have HS5 := Lib.hid ((hb.block _ hv0).trans HS4.out)
      have HC5 := Lib.hid ((hb.block _ hv1).trans HC4.out)
      have HT5 := Lib.hid ((hb.block _ hv3).trans HT4.out)
      have HRS5 := Lib.hid (HRS4.out.below hb)
      have HR5 := Lib.hid (HR4.out.below hb)
      clear hb s0 s1 s2 s3 s4 c0 c1 c2 c3 c4 c5 c6 c7 c8 t0 t1 t2 t3 t4
      obtain ⟨s0, s1, s2, s3, s4⟩ := box5' HS5.out
      obtain ⟨c0, c1, c2, c3, c4, c5, c6, c7, c8⟩ := box9 HC5.out
      obtain ⟨t0, t1, t2, t3, t4⟩ := box5' HT5.out
      have hlen : r.regs.length ≤ 9223372036854775807 := HR5.out.len
      by_cases hlt : k < r.regs.length
      · obtain ⟨b, o, rfl, hbs, h1, h2⟩ := HR5.out.rep k hlt
        obtain ⟨n1, n2⟩ := OF.out.rows _ (List.getElem_mem hlt)
        have N1 := Lib.hid n1
        have e9 : (keyOf s.regs r.regs[k].1 != r.regs[k].2) = false := by rw [n2]; simp
        clear n1 n2
        go_upto_region 13 with fail
        obtain ⟨w5, hw5⟩ : ∃ w5, w5 = wr.alloc (.cells #[.int .i64 r.regs[k].1, .int .i64 r.regs[k].2] 134) := ⟨_, rfl⟩
        rw [← hw5]
        have HB5 := Lib.hid (show Below wr.heap.size wr w5 from hw5 ▸ bal wr _)
        have HN5 := Lib.hid (show w5.heap[wr.heap.size]? = some (.cells #[.int .i64 r.regs[k].1, .int .i64 r.regs[k].2] 134 (0, 0)) from hw5 ▸ heap_alloc_new wr _)
        have hq5 : wr.heap.size < w5.heap.size := by rw [hw5]; simp
        have hq1 : w.heap.size + 1 < w5.heap.size := by omega
        have hq0 : w.heap.size < w5.heap.size := by omega
        clear hw5 h1 h2 s0 s1 s2 s3 s4 c0 c1 c2 c3 c4 c5 c6 c7 c8 t0 t1 t2 t3 t4
        obtain ⟨s0, s1, s2, s3, s4⟩ := box5' ((HB5.out.block _ hu0).trans HS5.out)
        obtain ⟨c0, c1, c2, c3, c4, c5, c6, c7, c8⟩ := box9 ((HB5.out.block _ hu1).trans HC5.out)
        have n0 : w5.cell? ⟨wr.heap.size, 0, none⟩ = some (.int .i64 r.regs[k].1) := by simp [World.cell?, HN5.out]
        have n1 : w5.cell? ⟨wr.heap.size, 1, none⟩ = some (.int .i64 r.regs[k].2) := by simp [World.cell?, HN5.out]
        have HRQ := Lib.hid (fun d os => (HRS5.out.below HB5.out).below (below_regrown w5 d os))
        have BR := Lib.hid (fun (dq : Nat) (osq : Array Obj) => HB.out.trans ((HB5.out.trans ((below_regrown w5 dq osq).mono HB5.out.size)).mono HB.out.size))
        go_cut [69] (fun v wx => v = .bool false ∧ Below w4.heap.size w4 wx)
        case first =>
          have hq := bregrown (Below.refl w5.heap.size w5)
          by_cases hw : r.regs[k].1 = c.who
          · have e1 : (r.regs[k].1 != c.who) = false := by simp [hw]
            clear hw
            refine wp_region_quiet_below (by kernel_rfl) (by kernel_rfl) ?_
            repeat (go_big_quiet_step (exact Calls.regrown_of (key_any s a cap r.regs[k].1 _ (HRQ.out _ _))))
            refine wpQuiet_nil ?_
            rintro w' ⟨⟨dq, osq⟩, rfl⟩
            go_wp2_with fail
            go_meet
            exact ⟨rfl, BR.out _ _⟩
          · have e1 : (r.regs[k].1 != c.who) = true := by simp [hw]
            have e2 : (r.regs[k].2 == c.new) = false := by rw [beq_eq_false_iff_ne]; exact fun e => N1.out ⟨hw, .inl e⟩
            have e3 : (c.new == 0) = false := by rw [beq_eq_false_iff_ne]; exact fun e => N1.out ⟨hw, .inr e⟩
            clear hw
            refine wp_region_quiet_below (by kernel_rfl) (by kernel_rfl) ?_
            repeat (go_big_quiet_step (exact Calls.regrown_of (key_any s a cap r.regs[k].1 _ (HRQ.out _ _))))
            refine wpQuiet_nil ?_
            rintro w' ⟨⟨dq, osq⟩, rfl⟩
            go_wp2_with fail
            go_meet
            exact ⟨rfl, BR.out _ _⟩
        case rest =>
          obtain ⟨rfl, hbc⟩ := hcut
          have HBC := Lib.hid hbc
          clear hbc
          go_wp2
          go_roundw
          case rel => exact ⟨k + 1, by omega, by go_num, HBC.out⟩
          case measure => simp [intOf]; omega
      · have hq := bregrown (Below.refl wr.heap.size wr)
        have HRQ := Lib.hid (fun d os => HR5.out.below (below_regrown wr d os))
        have e1 : (keyOf r.regs c.who != c.key) = false := by rw [OF.out.self]; simp
        clear hk
        go_wp2
        refine wp_region_quiet_below (by kernel_rfl) (by kernel_rfl) ?_
        repeat (go_big_quiet_step (exact Calls.regrown_of (key_any r a3 c3' c.who _ (HRQ.out _ _))))
        refine wpQuiet_nil ?_
        rintro w6 ⟨⟨dq, osq⟩, hw6⟩
        have b6 : Below wr.heap.size wr w6 := hw6 ▸ below_regrown _ dq osq
        clear hw6 hq HRQ
        have HB6 := Lib.hid (HBW.out.trans (b6.mono HBW.out.size))
        have hq1 : w.heap.size + 1 < w6.heap.size := Nat.lt_of_lt_of_le hu1 b6.size
        have hq0 : w.heap.size < w6.heap.size := by omega
        have hq3 : w3.heap.size < w6.heap.size := Nat.lt_of_lt_of_le hu3 b6.size
        have HS6 := Lib.hid ((b6.block _ hu0).trans HS5.out)
        have HC6 := Lib.hid ((b6.block _ hu1).trans HC5.out)
        have HT6 := Lib.hid ((b6.block _ hu3).trans HT5.out)
        have HRS6 := Lib.hid (HRS5.out.below b6)
        have HR6 := Lib.hid (HR5.out.below b6)
        clear b6 s0 s1 s2 s3 s4 c0 c1 c2 c3 c4 c5 c6 c7 c8 t0 t1 t2 t3 t4
        obtain ⟨s0, s1, s2, s3, s4⟩ := box5' HS6.out
        obtain ⟨c0, c1, c2, c3, c4, c5, c6, c7, c8⟩ := box9 HC6.out
        obtain ⟨t0, t1, t2, t3, t4⟩ := box5' HT6.out
        obtain ⟨X, hX⟩ : ∃ X, decide ((0 < s.typ ∧ allT s.typ = false ∧ keyOf s.regs s.holder = c.new) ∨ c.new = 0) = X := ⟨_, rfl⟩
        have HX := Lib.hid hX
        clear hX
        go_upto_region 17 with fail
        go_cut [98] (fun v wx => v = .bool X ∧ Below w6.heap.size w6 wx)
        case first =>
          have hq := bregrown (Below.refl w6.heap.size w6)
          have HRQ := Lib.hid (fun d os => HRS6.out.below (below_regrown w6 d os))
          by_cases hp : 0 < s.typ
          · have p1 : decide (0 < s.typ) = true := by simpa using hp
            cases hA : allT s.typ
            · by_cases hkk : keyOf s.regs s.holder = c.new
              · have p2 : (keyOf s.regs s.holder == c.new) = true := by simp [hkk]
                have HX2 := Lib.hid (show X = true from by rw [← HX.out]; simp [hp, hA, hkk])
                have HAA := Lib.hid hA
                clear hkk hA
                refine wp_region_quiet_below (by kernel_rfl) (by kernel_rfl) ?_
                repeat (go_big_quiet_step (first | exact Calls.regrown_of (key_any s a cap s.holder _ (HRQ.out _ _)) | exact Calls.regrown_of (all_x s a cap false HAA.out _)))
                refine wpQuiet_nil ?_
                rintro w' ⟨⟨dq, osq⟩, rfl⟩
                go_wp2_with fail
                go_meet
                exact ⟨by rw [HX2.out], below_regrown _ dq osq⟩
              · have p2 : (keyOf s.regs s.holder == c.new) = false := by simp [hkk]
                have HX2 := Lib.hid (show X = (c.new == 0) from by rw [← HX.out, Bool.eq_iff_iff]; simp [hkk])
                have HAA := Lib.hid hA
                clear hkk hA
                refine wp_region_quiet_below (by kernel_rfl) (by kernel_rfl) ?_
                repeat (go_big_quiet_step (first | exact Calls.regrown_of (key_any s a cap s.holder _ (HRQ.out _ _)) | exact Calls.regrown_of (all_x s a cap false HAA.out _)))
                refine wpQuiet_nil ?_
                rintro w' ⟨⟨dq, osq⟩, rfl⟩
                go_wp2_with fail
                go_meet
                exact ⟨by rw [HX2.out], below_regrown _ dq osq⟩
            · have HX2 := Lib.hid (show X = (c.new == 0) from by rw [← HX.out, Bool.eq_iff_iff]; simp [hA])
              have HAA := Lib.hid hA
              clear hA
              refine wp_region_quiet_below (by kernel_rfl) (by kernel_rfl) ?_
              repeat (go_big_quiet_step (first | exact Calls.regrown_of (key_any s a cap s.holder _ (HRQ.out _ _)) | exact Calls.regrown_of (all_x s a cap true HAA.out _)))
              refine wpQuiet_nil ?_
              rintro w' ⟨⟨dq, osq⟩, rfl⟩
              go_wp2_with fail
              go_meet
              exact ⟨by rw [HX2.out], below_regrown _ dq osq⟩
          · have p1 : decide (0 < s.typ) = false := by simpa using hp
            have HX2 := Lib.hid (show X = (c.new == 0) from by rw [← HX.out, Bool.eq_iff_iff]; simp [hp])
            refine wp_region_quiet_below (by kernel_rfl) (by kernel_rfl) ?_
            repeat (go_big_quiet_step (fail))
            refine wpQuiet_nil ?_
            rintro w' ⟨⟨dq, osq⟩, rfl⟩
            go_wp2_with fail
            go_meet
            exact ⟨by rw [HX2.out], below_regrown _ dq osq⟩
        case rest =>
          obtain ⟨rfl, b7⟩ := hcut
          have HB7 := Lib.hid (HB6.out.trans (b7.mono HB6.out.size))
          have HS7 := Lib.hid ((b7.block _ hq0).trans HS6.out)
          have HC7 := Lib.hid ((b7.block _ hq1).trans HC6.out)
          have HT7 := Lib.hid ((b7.block _ hq3).trans HT6.out)
          have HR7 := Lib.hid (HR6.out.below b7)
          have hr1 : w.heap.size + 1 < wc.heap.size := Nat.lt_of_lt_of_le hq1 b7.size
          have hr3 : w3.heap.size < wc.heap.size := Nat.lt_of_lt_of_le hq3 b7.size
          clear b7 s0 s1 s2 s3 s4 c0 c1 c2 c3 c4 c5 c6 c7 c8 t0 t1 t2 t3 t4
          obtain ⟨s0, s1, s2, s3, s4⟩ := box5' HS7.out
          obtain ⟨c0, c1, c2, c3, c4, c5, c6, c7, c8⟩ := box9 HC7.out
          obtain ⟨t0, t1, t2, t3, t4⟩ := box5' HT7.out
          cases X
          · obtain ⟨g1, g2⟩ := OF.out.else' (by simpa using HX.out)
            have e2 : (r.typ == s.typ) = true := by rw [beq_iff_eq]; exact g1
            have e3 : (r.holder == s.holder) = true := by rw [beq_iff_eq]; exact g2
            clear g1 g2
            go_wp2
            go_ret
            exact ⟨rfl, HB7.out⟩
          · obtain ⟨g1, g2⟩ := OF.out.took (by simpa using HX.out)
            have e2 : (r.typ == c.typ) = true := by rw [beq_iff_eq]; exact g2
            have G1 := Lib.hid g1
            clear g1 g2
            go_wp2_with fail
            refine (holds_any r a3 c3' c.who _ HR7.out).mono ?_
            rintro e w8 ⟨rfl, b8⟩
            rw [G1.out]
            obtain ⟨d0, d1, d2, d3, d4, d5, d6, d7, d8⟩ := box9 ((b8.block _ hr1).trans HC7.out)
            obtain ⟨x0, x1, x2, x3, x4⟩ := box5' ((b8.block _ hr3).trans HT7.out)
            have HB8 := Lib.hid (HB7.out.trans (b8.mono HB7.out.size))
            clear b8
            go_wp2
            go_ret
            exact ⟨rfl, HB8.out⟩
  · obtain ⟨rfl, rfl⟩ := pdo_bad HP.out hf
    rw [errV_some hf]
    have HFF := Lib.hid hf
    clear hf
    go_wp2
    go_ret
    exact ⟨rfl, HB3.out.trans ((bal w3 _).mono HB3.out.size)⟩
end Go.Proofs.Ytclhmpknkinjcaa
