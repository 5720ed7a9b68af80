/-
  TopOrder: the walk.
-/
import Derived.Test.YtclhmpknkinjcaaTopOrd
import Derived.Test.YtclhmpknkinjcaaLess
namespace Go.Proofs.Ytclhmpknkinjcaa
open Go.RowKit Go.Sort

set_option maxRecDepth 100000 in
set_option maxHeartbeats 4000000 in
theorem toporder_walk (s : St) (a : Option Addr) (cap : Nat) (c : Cmd) (w : World) (hr : StR w s a) (hs : c.data.size ≤ maxLen ∧ c.want.size ≤ maxLen) :
    Calls Try.prog 13 #[stV s a cap, cmdV c] w fun e w' => e = .returned (.bool true) ∧ Below w.heap.size w w' := by
  unfold maxLen at hs
  have HZ := Lib.hid hs
  have HR := Lib.hid hr
  clear hs hr
  obtain ⟨m, hm⟩ : ∃ m, mayB s c = m := ⟨_, rfl⟩
  have HM := Lib.hid hm
  clear hm
  go_enter Try.func13, Try.ntmps13
  go_wp2_with fail
  refine (ordered_any _).mono ?_
  rintro e w1 ⟨rfl, b1⟩
  have HB1 := Lib.hid ((bal2x w _ _).trans (b1.mono (by simp; omega)))
  have hz1 : w.heap.size + 1 < w1.heap.size := by have := b1.size; simp at this; omega
  have hz0 : w.heap.size < w1.heap.size := by omega
  have HS := Lib.hid ((b1.block w.heap.size (by simp <;> omega)).trans (heap_alloc2_old w _ _))
  have HC := Lib.hid ((b1.block (w.heap.size + 1) (by simp <;> omega)).trans (heap_alloc2_new w _ _))
  clear b1
  obtain ⟨s0, s1, s2, s3, s4⟩ := box5' HS.out
  obtain ⟨c0, c1, c2, c3, c4, c5, c6, c7, c8⟩ := box9 HC.out
  go_wp2_with fail
  refine (topmay_any s a cap c _ (HR.out.below HB1.out) HZ.out).mono ?_
  rintro e w2 ⟨rfl, b2⟩
  rw [HM.out]
  have HB2 := Lib.hid (HB1.out.trans (b2.mono HB1.out.size))
  have hy1 : w.heap.size + 1 < w2.heap.size := Nat.lt_of_lt_of_le hz1 b2.size
  have hy0 : w.heap.size < w2.heap.size := by omega
  have HS2 := Lib.hid ((b2.block w.heap.size hz0).trans HS.out)
  have HC2 := Lib.hid ((b2.block (w.heap.size + 1) hz1).trans HC.out)
  clear b2 s0 s1 s2 s3 s4 c0 c1 c2 c3 c4 c5 c6 c7 c8
  obtain ⟨s0, s1, s2, s3, s4⟩ := box5' HS2.out
  obtain ⟨c0, c1, c2, c3, c4, c5, c6, c7, c8⟩ := box9 HC2.out
  cases m
  · go_wp2
    go_ret
    exact ⟨rfl, HB2.out⟩
  by_cases h6 : 6 < c.op
  · go_wp2
    go_ret
    exact ⟨rfl, HB2.out⟩
  have MO := Lib.hid (mayB_ok HM.out)
  obtain ⟨⟨r, lt, f⟩, hP⟩ : ∃ R, pdo s c = R := ⟨_, rfl⟩
  have HP := Lib.hid hP
  clear hP
  go_wp2_with fail
  refine (do_x s a cap c _ (HR.out.below HB2.out) MO.out r lt f HP.out).mono ?_
  rintro e w3 ⟨a3, c3', at3, ct3, rfl, hs3, hp3, b3⟩
  have HB3 := Lib.hid (HB2.out.trans (b3.mono HB2.out.size))
  have hx1 : w.heap.size + 1 < w3.heap.size := Nat.lt_of_lt_of_le hy1 b3.size
  have hx0 : w.heap.size < w3.heap.size := by omega
  have HS3 := Lib.hid ((b3.block w.heap.size hy0).trans HS2.out)
  have HC3 := Lib.hid ((b3.block (w.heap.size + 1) hy1).trans HC2.out)
  have HR3 := Lib.hid hs3
  clear b3 hs3 hp3 s0 s1 s2 s3 s4 c0 c1 c2 c3 c4 c5 c6 c7 c8
  by_cases hf : f = 0
  · subst hf
    obtain ⟨go, hk⟩ := do_order MO.out.good MO.out.cmd HP.out
    have HG := Lib.hid ((good_iff r).2 go)
    have HK := Lib.hid hk
    clear go hk
    rw [errV_nil]
    go_wp2_with fail
    refine (check_good r a3 c3' _ (HR3.out.below (bal w3 _)) HG.out).mono ?_
    rintro e w4 ⟨rfl, b4⟩
    have HB4 := Lib.hid (HB3.out.trans (((bal w3 _).trans (b4.mono (bal w3 _).size)).mono HB3.out.size))
    have hv1 : w.heap.size + 1 < w4.heap.size := by have := b4.size; simp at this; omega
    have hv0 : w.heap.size < w4.heap.size := by omega
    have HS4 := Lib.hid ((b4.block w.heap.size (by simp; omega)).trans (((bal w3 _).block _ hx0).trans HS3.out))
    have HC4 := Lib.hid ((b4.block (w.heap.size + 1) (by simp; omega)).trans (((bal w3 _).block _ hx1).trans HC3.out))
    clear b4
    obtain ⟨s0, s1, s2, s3, s4⟩ := box5' HS4.out
    obtain ⟨c0, c1, c2, c3, c4, c5, c6, c7, c8⟩ := box9 HC4.out
    have hq := bregrown (Below.refl w4.heap.size w4)
    have HRQ := Lib.hid (fun d os => (HR.out.below HB4.out).below (below_regrown w4 d os))
    by_cases h2 : c.op = 2
    · have hb2 : (c.op == 2) = true := by simp [h2]
      clear h2 h6
      go_wp2_with fail
      refine wp_region_quiet_below (by kernel_rfl) (by kernel_rfl) ?_
      repeat (go_big_quiet_step (fail))
      refine wpQuiet_nil ?_
      rintro w' ⟨⟨dq, osq⟩, rfl⟩
      go_wp2
      go_ret
      exact ⟨rfl, HB4.out.trans ((below_regrown _ dq osq).mono HB4.out.size)⟩
    · have hb2 : (c.op == 2) = false := by simp [h2]
      have HKK := Lib.hid (show (keyOf s.regs c.who == c.key) = true from by simpa using HK.out.resolve_left h2)
      clear h2 h6
      go_wp2_with fail
      refine wp_region_quiet_below (by kernel_rfl) (by kernel_rfl) ?_
      repeat (go_big_quiet_step (exact Calls.regrown_of (key_any s a cap c.who _ (HRQ.out _ _))))
      refine wpQuiet_nil ?_
      rintro w' ⟨⟨dq, osq⟩, rfl⟩
      go_wp2
      go_ret
      exact ⟨ret_bool HKK.out, HB4.out.trans ((below_regrown _ dq osq).mono HB4.out.size)⟩
  · obtain ⟨rfl, rfl⟩ := pdo_bad HP.out hf
    rw [errV_some hf]
    have HFF := Lib.hid hf
    clear hf
    go_wp2_with fail
    refine (samestate_true St.zero a3 none c3' 0 _ (HR3.out.below (bal w3 _)) (str_zero _)).mono ?_
    rintro e w4 ⟨rfl, b4⟩
    go_wp2
    go_ret
    exact ⟨rfl, HB3.out.trans (((bal w3 _).trans (b4.mono (bal w3 _).size)).mono HB3.out.size)⟩
end Go.Proofs.Ytclhmpknkinjcaa
