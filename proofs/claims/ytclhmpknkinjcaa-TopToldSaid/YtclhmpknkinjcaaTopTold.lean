/-
  TopTold: the walk.
-/
import Derived.Test.YtclhmpknkinjcaaTopOrd
import Derived.Test.YtclhmpknkinjcaaDoTop
namespace Go.Proofs.Ytclhmpknkinjcaa
open Go.RowKit Go.Sort

theorem own_len {B : Nat} {w : World} {v : Value} {l : List (Int × Int)} (h : OwnT B w v l) : l.length ≤ maxLen := by
  obtain ⟨h1, h2⟩ := h
  rcases h2 with ⟨_, hn⟩ | ⟨g, cap, cur, _, _, _, hc, hm, _⟩
  · omega
  · exact Nat.le_trans hc hm
theorem do_y (s : St) (a : Option Addr) (cap : Nat) (c : Cmd) (w : World) (hr : StR w s a) (m : MayOk s c) (r : St) (lt : List (Int × Int)) (f : Int) (h : pdo s c = (r, lt, f)) :
    Calls Try.prog 59 #[stV s a cap, cmdV c] w fun e w' => ∃ a' c' at' ct', e = .returned (.tuple #[.agg #[.int .i64 r.gen, .slice a' r.regs.length c', .int .i64 r.typ, .int .i64 r.holder, .bool r.stays], .slice at' lt.length ct', errV f]) ∧ StR w' r a' ∧ Pairs w'.heap.size w' at' lt ∧ Below w.heap.size w w' ∧ lt.length ≤ maxLen := by
  have := do_any s a cap c w hr m.lf (by have := m.cmd.who; omega) m.cmd.op.1 m.good.gen
  rw [h] at this
  refine this.mono ?_
  rintro e w' ⟨a', c', v, rfl, h1, -, h2, h3⟩
  have hl := own_len h2
  obtain ⟨at', ct', rfl, hp⟩ := h2.shape
  exact ⟨a', c', at', ct', rfl, h1, hp, h3, hl⟩

set_option maxRecDepth 100000 in
set_option maxHeartbeats 4000000 in
theorem toptold_walk (s : St) (a : Option Addr) (cap : Nat) (c : Cmd) (w : World) (hr : StR w s a) (hs : c.data.size ≤ maxLen ∧ c.want.size ≤ maxLen) :
    Calls Try.prog 15 #[stV s a cap, cmdV c] w fun e w' => e = .returned (.bool true) ∧ Below w.heap.size w w' := by
  unfold maxLen at hs
  have HZ := Lib.hid hs
  have HR := Lib.hid hr
  clear hs hr
  obtain ⟨m, hm⟩ : ∃ m, mayB s c = m := ⟨_, rfl⟩
  have HM := Lib.hid hm
  clear hm
  go_enter Try.func15, Try.ntmps15
  go_wp2_with fail
  refine (ordered_any _).mono ?_
  rintro e w1 ⟨rfl, b1⟩
  have HB1 := Lib.hid ((bal2x w _ _).trans (b1.mono (by simp; omega)))
  have hz1 : w.heap.size + 1 < w1.heap.size := by have := b1.size; simp at this; omega
  have hz0 : w.heap.size < w1.heap.size := by omega
  have HS := Lib.hid ((b1.block w.heap.size (by simp <;> omega)).trans (heap_alloc2_old w _ _))
  have HC := Lib.hid ((b1.block (w.heap.size + 1) (by simp <;> omega)).trans (heap_alloc2_new w _ _))
  clear b1
  obtain ⟨s0, s1, s2, s3, s4⟩ := box5' HS.out
  obtain ⟨c0, c1, c2, c3, c4, c5, c6, c7, c8⟩ := box9 HC.out
  go_wp2_with fail
  refine (topmay_any s a cap c _ (HR.out.below HB1.out) HZ.out).mono ?_
  rintro e w2 ⟨rfl, b2⟩
  rw [HM.out]
  have HB2 := Lib.hid (HB1.out.trans (b2.mono HB1.out.size))
  have hy1 : w.heap.size + 1 < w2.heap.size := Nat.lt_of_lt_of_le hz1 b2.size
  have hy0 : w.heap.size < w2.heap.size := by omega
  have HS2 := Lib.hid ((b2.block w.heap.size hz0).trans HS.out)
  have HC2 := Lib.hid ((b2.block (w.heap.size + 1) hz1).trans HC.out)
  clear b2 s0 s1 s2 s3 s4 c0 c1 c2 c3 c4 c5 c6 c7 c8
  obtain ⟨s0, s1, s2, s3, s4⟩ := box5' HS2.out
  obtain ⟨c0, c1, c2, c3, c4, c5, c6, c7, c8⟩ := box9 HC2.out
  cases m
  · go_wp2
    go_ret
    exact ⟨rfl, HB2.out⟩
  by_cases h6 : 6 < c.op
  · go_wp2
    go_ret
    exact ⟨rfl, HB2.out⟩
  have MO := Lib.hid (mayB_ok HM.out)
  obtain ⟨⟨r, lt, f⟩, hP⟩ : ∃ R, pdo s c = R := ⟨_, rfl⟩
  have HP := Lib.hid hP
  clear hP
  go_wp2_with fail
  refine (do_y s a cap c _ (HR.out.below HB2.out) MO.out r lt f HP.out).mono ?_
  rintro e w3 ⟨a3, c3', at3, ct3, rfl, hs3, hp3, b3, hl3⟩
  have HB3 := Lib.hid (HB2.out.trans (b3.mono HB2.out.size))
  have hx1 : w.heap.size + 1 < w3.heap.size := Nat.lt_of_lt_of_le hy1 b3.size
  have hx0 : w.heap.size < w3.heap.size := by omega
  have HS3 := Lib.hid ((b3.block w.heap.size hy0).trans HS2.out)
  have HC3 := Lib.hid ((b3.block (w.heap.size + 1) hy1).trans HC2.out)
  have HR3 := Lib.hid hs3
  have HP3 := Lib.hid hp3
  clear b3 hs3 hp3 s0 s1 s2 s3 s4 c0 c1 c2 c3 c4 c5 c6 c7 c8
  by_cases hf : f = 0
  · subst hf
    rw [errV_nil]
    obtain ⟨w4, hw4⟩ : ∃ w4, w4 = w3.alloc (.cells #[.int .i64 r.gen, .slice a3 r.regs.length c3', .int .i64 r.typ, .int .i64 r.holder, .bool r.stays] 47) := ⟨_, rfl⟩
    have HB4 := Lib.hid (show Below w.heap.size w w4 from hw4 ▸ HB3.out.trans ((bal w3 _).mono HB3.out.size))
    have hv1 : w.heap.size + 1 < w4.heap.size := by rw [hw4]; simp; omega
    have hv0 : w.heap.size < w4.heap.size := by omega
    have hv3 : w3.heap.size < w4.heap.size := by rw [hw4]; simp
    have HB34 := Lib.hid (show Below w3.heap.size w3 w4 from hw4 ▸ bal w3 _)
    have HT4 := Lib.hid (show w4.heap[w3.heap.size]? = some (.cells #[.int .i64 r.gen, .slice a3 r.regs.length c3', .int .i64 r.typ, .int .i64 r.holder, .bool r.stays] 47 (0, 0)) from hw4 ▸ heap_alloc_new w3 _)
    have HS4 := Lib.hid ((HB34.out.block _ hx0).trans HS3.out)
    have HC4 := Lib.hid ((HB34.out.block _ hx1).trans HC3.out)
    have HR4 := Lib.hid (HR3.out.below HB34.out)
    have HP4 := Lib.hid ((HP3.out.below HB34.out (Nat.le_refl _)).mono HB34.out.size)
    have HRS4 := Lib.hid (HR.out.below HB4.out)
    go_upto_region 7 with fail
    rw [← hw4]
    clear hw4
    obtain ⟨s0, s1, s2, s3, s4⟩ := box5' HS4.out
    obtain ⟨c0, c1, c2, c3, c4, c5, c6, c7, c8⟩ := box9 HC4.out
    obtain ⟨t0, t1, t2, t3, t4⟩ := box5' HT4.out
    go_wp2_with fail
    have TF := Lib.hid (do_told MO.out.good HP.out MO.out.cmd.op.1)
    have hlt9 : lt.length ≤ 9223372036854775807 := hl3
    go_loopw [9] (fun i wr => ∃ k : Nat, k ≤ lt.length ∧ i = .int .i64 k ∧ Below w4.heap.size w4 wr) (fun i _ => lt.length - (intOf i).toNat)
    case atStart => exact ⟨0, by omega, rfl, Below.refl _ _⟩
    case round =>
      obtain ⟨k, hk, rfl, hb⟩ := hrel
      have HB := Lib.hid hb
      have hu1 : w.heap.size + 1 < wr.heap.size := Nat.lt_of_lt_of_le hv1 hb.size
      have hu0 : w.heap.size < wr.heap.size := by omega
      have hu3 : w3.heap.size < wr.heap.size := Nat.lt_of_lt_of_le hv3 hb.size
      have HBW := Lib.hid (HB4.out.trans (hb.mono HB4.out.size))
      have HS5 := Lib.hid ((hb.block _ hv0).trans HS4.out)
      have HC5 := Lib.hid ((hb.block _ hv1).trans HC4.out)
      have HT5 := Lib.hid ((hb.block _ hv3).trans HT4.out)
      have HRS5 := Lib.hid (HRS4.out.below hb)
      have HR5 := Lib.hid (HR4.out.below hb)
      have HP5 := Lib.hid ((HP4.out.below hb (Nat.le_refl _)).mono hb.size)
      clear hb s0 s1 s2 s3 s4 c0 c1 c2 c3 c4 c5 c6 c7 c8 t0 t1 t2 t3 t4
      obtain ⟨s0, s1, s2, s3, s4⟩ := box5' HS5.out
      obtain ⟨c0, c1, c2, c3, c4, c5, c6, c7, c8⟩ := box9 HC5.out
      obtain ⟨t0, t1, t2, t3, t4⟩ := box5' HT5.out
      by_cases hlt : k < lt.length
      · obtain ⟨b, o, rfl, hbs, h1, h2⟩ := HP5.out k hlt
        obtain ⟨n1, n2⟩ := TF.out.mem _ (List.getElem_mem hlt)
        have e1 : (lt[k].1 == c.who) = false := by rw [beq_eq_false_iff_ne]; exact n1
        have e2 : (keyOf s.regs lt[k].1 == 0) = false := by rw [beq_eq_false_iff_ne]; exact n2
        have hq := bregrown (Below.refl wr.heap.size wr)
        have HRQ := Lib.hid (fun d os => HRS5.out.below (below_regrown wr d os))
        clear n1 n2
        go_wp2_with fail
        refine wp_region_quiet_below (by kernel_rfl) (by kernel_rfl) ?_
        repeat (go_big_quiet_step (exact Calls.regrown_of (key_any s a cap lt[k].1 _ (HRQ.out _ _))))
        refine wpQuiet_nil ?_
        rintro w6 ⟨⟨dq, osq⟩, hw6⟩
        have b6 : Below wr.heap.size wr w6 := hw6 ▸ below_regrown _ dq osq
        have HB6 := Lib.hid (HB.out.trans (b6.mono HB.out.size))
        have HP6 := Lib.hid ((HP5.out.below b6 (Nat.le_refl _)).mono b6.size)
        clear hw6 hq b6 h1 h2 e1 e2 HRQ
        go_wp2
        go_loopw [10] (fun i wz => ∃ m : Nat, m ≤ k ∧ i = .int .i64 m ∧ Below w6.heap.size w6 wz) (fun i _ => k - (intOf i).toNat)
        case atStart => exact ⟨0, by omega, rfl, Below.refl _ _⟩
        case round =>
          obtain ⟨m, hm, rfl, hb⟩ := hrel
          have HBI := Lib.hid hb
          have HP7 := Lib.hid ((HP6.out.below hb (Nat.le_refl _)).mono hb.size)
          clear hb
          by_cases hmk : m < k
          · obtain ⟨bb, oo, e, hbs', h1, -⟩ := HP7.out m (by omega)
            cases e
            obtain ⟨bb, oo, e, hbs', h2, -⟩ := HP7.out k hlt
            cases e
            have e3 : (lt[m].1 == lt[k].1) = false := by rw [beq_eq_false_iff_ne]; exact List.pairwise_iff_getElem.1 TF.out.dist m k (by omega) hlt hmk
            have hml : m < lt.length := by omega
            go_wp2
            go_quiet (fail)
            go_wp2
            go_roundw
            case rel => exact ⟨m + 1, by omega, by go_num, below_drewN HBI.out _⟩
            case measure => simp [intOf]; omega
          · go_wp2
            go_roundw
            case rel => exact ⟨k + 1, by omega, by go_num, HB6.out.trans (HBI.out.mono HB6.out.size)⟩
            case measure => simp [intOf]; omega
      · obtain ⟨w5, rfl⟩ : ∃ w5 : World, w5 = wr := ⟨_, rfl⟩
        clear hk s0 s1 s2 s3 s4 c0 c1 c2 c3 c4 c5 c6 c7 c8 t0 t1 t2 t3 t4
        obtain ⟨s0, s1, s2, s3, s4⟩ := box5' HS5.out
        go_wp2
        clear hlt
        go_loopw [11] (fun i wr => ∃ k : Nat, k ≤ s.regs.length ∧ i = .int .i64 k ∧ Below w5.heap.size w5 wr) (fun i _ => s.regs.length - (intOf i).toNat)
        case atStart => exact ⟨0, by omega, rfl, Below.refl _ _⟩
        case round =>
          obtain ⟨k, hk, rfl, hb⟩ := hrel
          have HBB := Lib.hid hb
          have hq1 : w.heap.size + 1 < wr.heap.size := Nat.lt_of_lt_of_le hu1 hb.size
          have hq0 : w.heap.size < wr.heap.size := by omega
          have hq3 : w3.heap.size < wr.heap.size := Nat.lt_of_lt_of_le hu3 hb.size
          have HS6 := Lib.hid ((hb.block _ hu0).trans HS5.out)
          have HC6 := Lib.hid ((hb.block _ hu1).trans HC5.out)
          have HT6 := Lib.hid ((hb.block _ hu3).trans HT5.out)
          have HRS6 := Lib.hid (HRS5.out.below hb)
          have HR6 := Lib.hid (HR5.out.below hb)
          have HP6 := Lib.hid ((HP5.out.below hb (Nat.le_refl _)).mono hb.size)
          clear hb s0 s1 s2 s3 s4
          obtain ⟨s0, s1, s2, s3, s4⟩ := box5' HS6.out
          obtain ⟨c0, c1, c2, c3, c4, c5, c6, c7, c8⟩ := box9 HC6.out
          obtain ⟨t0, t1, t2, t3, t4⟩ := box5' HT6.out
          have hlen : s.regs.length ≤ 9223372036854775807 := HRS6.out.len
          by_cases hlt : k < s.regs.length
          · obtain ⟨b, o, rfl, hbs, h1, -⟩ := HRS6.out.rep k hlt
            by_cases hw : s.regs[k].1 = c.who
            · have e1 : (s.regs[k].1 == c.who) = true := by simp [hw]
              clear hw
              go_wp2
              go_roundw
              case rel => exact ⟨k + 1, by omega, by go_num, HBB.out⟩
              case measure => simp [intOf]; omega
            · have e1 : (s.regs[k].1 == c.who) = false := by simp [hw]
              have HW := Lib.hid hw
              clear hw
              go_wp2_with fail
              refine (key_any r a3 c3' s.regs[k].1 _ HR6.out).mono ?_
              rintro e w6 ⟨rfl, b6⟩
              have HB6 := Lib.hid (HBB.out.trans (b6.mono HBB.out.size))
              have HP7 := Lib.hid ((HP6.out.below b6 (Nat.le_refl _)).mono b6.size)
              clear b6
              by_cases hkk : 0 < keyOf r.regs s.regs[k].1
              · go_wp2
                go_roundw
                case rel => exact ⟨k + 1, by omega, by go_num, HB6.out⟩
                case measure => simp [intOf]; omega
              · have HTO := Lib.hid (TF.out.lost _ (List.getElem_mem hlt) HW.out hkk)
                clear h1 s0 s1 s2 s3 s4 c0 c1 c2 c3 c4 c5 c6 c7 c8 t0 t1 t2 t3 t4
                go_wp2
                go_loop [13, 14] (fun t i => ∃ m : Nat, m ≤ lt.length ∧ i = .int .i64 m ∧ t = .int .i64 (toldTo (lt.take m) s.regs[k].1)) (fun _ i => lt.length - (intOf i).toNat)
                case atStart => exact ⟨0, by omega, rfl, rfl⟩
                case round =>
                  obtain ⟨m, hm, rfl, rfl⟩ := hrel
                  by_cases hml : m < lt.length
                  · have HN := Lib.hid (toldTo_snoc lt s.regs[k].1 m hml)
                    obtain ⟨b, o, rfl, hbs, h1, h2⟩ := HP7.out m hml
                    by_cases hx : lt[m].1 = s.regs[k].1
                    · have e2 : (lt[m].1 == s.regs[k].1) = true := by simp [hx]
                      have HN2 := Lib.hid (HN.out.trans (if_pos hx))
                      clear hx
                      go_wp2
                      go_round
                      case rel => exact ⟨m + 1, by omega, by go_num, by rw [HN2.out]⟩
                      case measure => simp [intOf]; omega
                    · have e2 : (lt[m].1 == s.regs[k].1) = false := by simp [hx]
                      have HN2 := Lib.hid (HN.out.trans (if_neg hx))
                      clear hx
                      go_wp2
                      go_round
                      case rel => exact ⟨m + 1, by omega, by go_num, by rw [HN2.out]⟩
                      case measure => simp [intOf]; omega
                  · have hT : toldTo (lt.take m) s.regs[k].1 = 1 ∨ toldTo (lt.take m) s.regs[k].1 = 3 := by rw [List.take_of_length_le (by omega)]; exact HTO.out
                    obtain ⟨T, hTT⟩ : ∃ T, toldTo (lt.take m) s.regs[k].1 = T := ⟨_, rfl⟩
                    rw [hTT] at hT ⊢
                    clear hTT
                    rcases hT with rfl | rfl
                    · go_wp2
                      go_roundw
                      case rel => exact ⟨k + 1, by omega, by go_num, HB6.out⟩
                      case measure => simp [intOf]; omega
                    · go_wp2
                      go_roundw
                      case rel => exact ⟨k + 1, by omega, by go_num, HB6.out⟩
                      case measure => simp [intOf]; omega
          · go_wp2
            go_ret
            exact ⟨rfl, HBW.out.trans (HBB.out.mono HBW.out.size)⟩
  · obtain ⟨rfl, rfl⟩ := pdo_bad HP.out hf
    rw [errV_some hf]
    have HFF := Lib.hid hf
    clear hf
    go_wp2
    go_ret
    exact ⟨rfl, HB3.out.trans ((bal w3 _).mono HB3.out.size)⟩
end Go.Proofs.Ytclhmpknkinjcaa
