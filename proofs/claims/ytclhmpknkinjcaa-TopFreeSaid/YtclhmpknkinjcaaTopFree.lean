/-
  TopFree: the walk.
-/
import Derived.Test.YtclhmpknkinjcaaTopOrd
import Derived.Test.YtclhmpknkinjcaaDoTop
namespace Go.Proofs.Ytclhmpknkinjcaa
open Go.RowKit Go.Sort

set_option maxRecDepth 100000 in
set_option maxHeartbeats 4000000 in
theorem topfree4 (s : St) (a : Option Addr) (cap : Nat) (c : Cmd) (w : World) (hr : StR w s a) (hs : c.data.size ≤ maxLen ∧ c.want.size ≤ maxLen) (hop0 : c.op = 4) :
    Calls Try.prog 16 #[stV s a cap, cmdV c] w fun e w' => e = .returned (.bool true) ∧ Below w.heap.size w w' := by
  unfold maxLen at hs
  have HOP0 := Lib.hid hop0
  clear hop0
  have HZ := Lib.hid hs
  have HR := Lib.hid hr
  clear hs hr
  obtain ⟨m, hm⟩ : ∃ m, mayB s c = m := ⟨_, rfl⟩
  have HM := Lib.hid hm
  clear hm
  go_enter Try.func16, Try.ntmps16
  go_wp2_with fail
  refine (ordered_any _).mono ?_
  rintro e w1 ⟨rfl, b1⟩
  have HB1 := Lib.hid ((bal2x w _ _).trans (b1.mono (by simp; omega)))
  have hz1 : w.heap.size + 1 < w1.heap.size := by have := b1.size; simp at this; omega
  have hz0 : w.heap.size < w1.heap.size := by omega
  have HS := Lib.hid ((b1.block w.heap.size (by simp <;> omega)).trans (heap_alloc2_old w _ _))
  have HC := Lib.hid ((b1.block (w.heap.size + 1) (by simp <;> omega)).trans (heap_alloc2_new w _ _))
  clear b1
  obtain ⟨s0, s1, s2, s3, s4⟩ := box5' HS.out
  obtain ⟨c0, c1, c2, c3, c4, c5, c6, c7, c8⟩ := box9 HC.out
  go_wp2_with fail
  refine (topmay_any s a cap c _ (HR.out.below HB1.out) HZ.out).mono ?_
  rintro e w2 ⟨rfl, b2⟩
  rw [HM.out]
  have HB2 := Lib.hid (HB1.out.trans (b2.mono HB1.out.size))
  have hy1 : w.heap.size + 1 < w2.heap.size := Nat.lt_of_lt_of_le hz1 b2.size
  have hy0 : w.heap.size < w2.heap.size := by omega
  have HS2 := Lib.hid ((b2.block w.heap.size hz0).trans HS.out)
  have HC2 := Lib.hid ((b2.block (w.heap.size + 1) hz1).trans HC.out)
  clear b2 s0 s1 s2 s3 s4 c0 c1 c2 c3 c4 c5 c6 c7 c8
  obtain ⟨s0, s1, s2, s3, s4⟩ := box5' HS2.out
  obtain ⟨c0, c1, c2, c3, c4, c5, c6, c7, c8⟩ := box9 HC2.out
  cases m
  · go_wp2
    go_ret
    exact ⟨rfl, HB2.out⟩
  have HOP := Lib.hid (show c.op = 4 ∨ c.op = 5 from .inl HOP0.out)
  have hop4 : (c.op != 4) = false := by simp [HOP0.out]
  have MO := Lib.hid (mayB_ok HM.out)
  obtain ⟨⟨r, lt, f⟩, hP⟩ : ∃ R, pdo s c = R := ⟨_, rfl⟩
  have HP := Lib.hid hP
  clear hP
  go_wp2_with fail
  refine (do_x s a cap c _ (HR.out.below HB2.out) MO.out r lt f HP.out).mono ?_
  rintro e w3 ⟨a3, c3', at3, ct3, rfl, hs3, hp3, b3⟩
  have HB3 := Lib.hid (HB2.out.trans (b3.mono HB2.out.size))
  have hx1 : w.heap.size + 1 < w3.heap.size := Nat.lt_of_lt_of_le hy1 b3.size
  have hx0 : w.heap.size < w3.heap.size := by omega
  have HS3 := Lib.hid ((b3.block w.heap.size hy0).trans HS2.out)
  have HC3 := Lib.hid ((b3.block (w.heap.size + 1) hy1).trans HC2.out)
  have HR3 := Lib.hid hs3
  have HP3 := Lib.hid hp3
  clear b3 hs3 hp3 s0 s1 s2 s3 s4 c0 c1 c2 c3 c4 c5 c6 c7 c8
  by_cases hf : f = 0
  · subst hf
    rw [errV_nil]
    obtain ⟨w4, hw4⟩ : ∃ w4, w4 = w3.alloc (.cells #[.int .i64 r.gen, .slice a3 r.regs.length c3', .int .i64 r.typ, .int .i64 r.holder, .bool r.stays] 47) := ⟨_, rfl⟩
    have HB4 := Lib.hid (show Below w.heap.size w w4 from hw4 ▸ HB3.out.trans ((bal w3 _).mono HB3.out.size))
    have hv1 : w.heap.size + 1 < w4.heap.size := by rw [hw4]; simp; omega
    have hv0 : w.heap.size < w4.heap.size := by omega
    have hv3 : w3.heap.size < w4.heap.size := by rw [hw4]; simp
    have HB34 := Lib.hid (show Below w3.heap.size w3 w4 from hw4 ▸ bal w3 _)
    have HT4 := Lib.hid (show w4.heap[w3.heap.size]? = some (.cells #[.int .i64 r.gen, .slice a3 r.regs.length c3', .int .i64 r.typ, .int .i64 r.holder, .bool r.stays] 47 (0, 0)) from hw4 ▸ heap_alloc_new w3 _)
    have HS4 := Lib.hid ((HB34.out.block _ hx0).trans HS3.out)
    have HC4 := Lib.hid ((HB34.out.block _ hx1).trans HC3.out)
    have HR4 := Lib.hid (HR3.out.below HB34.out)
    have HP4 := Lib.hid ((HP3.out.below HB34.out (Nat.le_refl _)).mono HB34.out.size)
    have HRS4 := Lib.hid (HR.out.below HB4.out)
    go_upto_region 7 with fail
    rw [← hw4]
    clear hw4
    obtain ⟨s0, s1, s2, s3, s4⟩ := box5' HS4.out
    obtain ⟨c0, c1, c2, c3, c4, c5, c6, c7, c8⟩ := box9 HC4.out
    obtain ⟨t0, t1, t2, t3, t4⟩ := box5' HT4.out
    go_wp2_with fail
    obtain ⟨fl, f5, f4⟩ := do_free HP.out HOP.out
    have FL := Lib.hid fl
    have F5 := Lib.hid f5
    have F4 := Lib.hid f4
    clear fl f5 f4
    refine (less_any s r a a3 cap c3' _ HRS4.out HR4.out).mono ?_
    rintro e w5 ⟨rfl, b5⟩
    rw [FL.out]
    have HB5 := Lib.hid (HB4.out.trans (b5.mono HB4.out.size))
    have HS5 := Lib.hid ((b5.block _ hv0).trans HS4.out)
    have HC5 := Lib.hid ((b5.block _ hv1).trans HC4.out)
    have HT5 := Lib.hid ((b5.block _ hv3).trans HT4.out)
    have HRS5 := Lib.hid (HRS4.out.below b5)
    clear b5 s0 s1 s2 s3 s4 c0 c1 c2 c3 c4 c5 c6 c7 c8 t0 t1 t2 t3 t4
    obtain ⟨s0, s1, s2, s3, s4⟩ := box5' HS5.out
    obtain ⟨c0, c1, c2, c3, c4, c5, c6, c7, c8⟩ := box9 HC5.out
    obtain ⟨t0, t1, t2, t3, t4⟩ := box5' HT5.out
    by_cases h5 : c.op = 5
    · have hb5 : (c.op == 5) = true := by simp [h5]
      have e1 : ((r.regs.length : Int) == 0) = true := by rw [beq_iff_eq]; have := (F5.out h5).1; omega
      have e2 : (r.typ == 0) = true := by rw [beq_iff_eq]; exact (F5.out h5).2
      clear h5
      go_wp2
      go_ret
      exact ⟨rfl, HB5.out⟩
    · have hb5 : (c.op == 5) = false := by simp [h5]
      obtain ⟨g1, g2⟩ := F4.out (by have := HOP.out; omega)
      have e1 : ((r.regs.length : Int) == (s.regs.length : Int)) = true := by rw [g1]; simp
      have G2 := Lib.hid g2
      clear g1 g2 h5
      by_cases hz : r.typ = 0
      · have e2 : (r.typ == 0) = true := by simp [hz]
        clear hz
        go_wp2
        go_ret
        exact ⟨rfl, HB5.out⟩
      · have e2 : (r.typ == 0) = false := by simp [hz]
        have G3 := Lib.hid (G2.out.resolve_left hz)
        have e3 : (r.typ == s.typ) = true := by rw [beq_iff_eq]; exact G3.out.1
        clear hz
        go_wp2_with fail
        refine (holds_any s a cap c.who _ HRS5.out).mono ?_
        rintro e w6 ⟨rfl, b6⟩
        rw [G3.out.2]
        go_wp2
        go_ret
        exact ⟨rfl, HB5.out.trans (b6.mono HB5.out.size)⟩
  · obtain ⟨rfl, rfl⟩ := pdo_bad HP.out hf
    rw [errV_some hf]
    have HFF := Lib.hid hf
    clear hf
    go_wp2
    go_ret
    exact ⟨rfl, HB3.out.trans ((bal w3 _).mono HB3.out.size)⟩

set_option maxRecDepth 100000 in
set_option maxHeartbeats 4000000 in
theorem topfree5 (s : St) (a : Option Addr) (cap : Nat) (c : Cmd) (w : World) (hr : StR w s a) (hs : c.data.size ≤ maxLen ∧ c.want.size ≤ maxLen) (hop0 : c.op = 5) :
    Calls Try.prog 16 #[stV s a cap, cmdV c] w fun e w' => e = .returned (.bool true) ∧ Below w.heap.size w w' := by
  unfold maxLen at hs
  have HOP0 := Lib.hid hop0
  clear hop0
  have HZ := Lib.hid hs
  have HR := Lib.hid hr
  clear hs hr
  obtain ⟨m, hm⟩ : ∃ m, mayB s c = m := ⟨_, rfl⟩
  have HM := Lib.hid hm
  clear hm
  go_enter Try.func16, Try.ntmps16
  go_wp2_with fail
  refine (ordered_any _).mono ?_
  rintro e w1 ⟨rfl, b1⟩
  have HB1 := Lib.hid ((bal2x w _ _).trans (b1.mono (by simp; omega)))
  have hz1 : w.heap.size + 1 < w1.heap.size := by have := b1.size; simp at this; omega
  have hz0 : w.heap.size < w1.heap.size := by omega
  have HS := Lib.hid ((b1.block w.heap.size (by simp <;> omega)).trans (heap_alloc2_old w _ _))
  have HC := Lib.hid ((b1.block (w.heap.size + 1) (by simp <;> omega)).trans (heap_alloc2_new w _ _))
  clear b1
  obtain ⟨s0, s1, s2, s3, s4⟩ := box5' HS.out
  obtain ⟨c0, c1, c2, c3, c4, c5, c6, c7, c8⟩ := box9 HC.out
  go_wp2_with fail
  refine (topmay_any s a cap c _ (HR.out.below HB1.out) HZ.out).mono ?_
  rintro e w2 ⟨rfl, b2⟩
  rw [HM.out]
  have HB2 := Lib.hid (HB1.out.trans (b2.mono HB1.out.size))
  have hy1 : w.heap.size + 1 < w2.heap.size := Nat.lt_of_lt_of_le hz1 b2.size
  have hy0 : w.heap.size < w2.heap.size := by omega
  have HS2 := Lib.hid ((b2.block w.heap.size hz0).trans HS.out)
  have HC2 := Lib.hid ((b2.block (w.heap.size + 1) hz1).trans HC.out)
  clear b2 s0 s1 s2 s3 s4 c0 c1 c2 c3 c4 c5 c6 c7 c8
  obtain ⟨s0, s1, s2, s3, s4⟩ := box5' HS2.out
  obtain ⟨c0, c1, c2, c3, c4, c5, c6, c7, c8⟩ := box9 HC2.out
  cases m
  · go_wp2
    go_ret
    exact ⟨rfl, HB2.out⟩
  have HOP := Lib.hid (show c.op = 4 ∨ c.op = 5 from .inr HOP0.out)
  have hop4 : (c.op != 4) = true := by simp [HOP0.out]
  have hop5 : (c.op != 5) = false := by simp [HOP0.out]
  have MO := Lib.hid (mayB_ok HM.out)
  obtain ⟨⟨r, lt, f⟩, hP⟩ : ∃ R, pdo s c = R := ⟨_, rfl⟩
  have HP := Lib.hid hP
  clear hP
  go_wp2_with fail
  refine (do_x s a cap c _ (HR.out.below HB2.out) MO.out r lt f HP.out).mono ?_
  rintro e w3 ⟨a3, c3', at3, ct3, rfl, hs3, hp3, b3⟩
  have HB3 := Lib.hid (HB2.out.trans (b3.mono HB2.out.size))
  have hx1 : w.heap.size + 1 < w3.heap.size := Nat.lt_of_lt_of_le hy1 b3.size
  have hx0 : w.heap.size < w3.heap.size := by omega
  have HS3 := Lib.hid ((b3.block w.heap.size hy0).trans HS2.out)
  have HC3 := Lib.hid ((b3.block (w.heap.size + 1) hy1).trans HC2.out)
  have HR3 := Lib.hid hs3
  have HP3 := Lib.hid hp3
  clear b3 hs3 hp3 s0 s1 s2 s3 s4 c0 c1 c2 c3 c4 c5 c6 c7 c8
  by_cases hf : f = 0
  · subst hf
    rw [errV_nil]
    obtain ⟨w4, hw4⟩ : ∃ w4, w4 = w3.alloc (.cells #[.int .i64 r.gen, .slice a3 r.regs.length c3', .int .i64 r.typ, .int .i64 r.holder, .bool r.stays] 47) := ⟨_, rfl⟩
    have HB4 := Lib.hid (show Below w.heap.size w w4 from hw4 ▸ HB3.out.trans ((bal w3 _).mono HB3.out.size))
    have hv1 : w.heap.size + 1 < w4.heap.size := by rw [hw4]; simp; omega
    have hv0 : w.heap.size < w4.heap.size := by omega
    have hv3 : w3.heap.size < w4.heap.size := by rw [hw4]; simp
    have HB34 := Lib.hid (show Below w3.heap.size w3 w4 from hw4 ▸ bal w3 _)
    have HT4 := Lib.hid (show w4.heap[w3.heap.size]? = some (.cells #[.int .i64 r.gen, .slice a3 r.regs.length c3', .int .i64 r.typ, .int .i64 r.holder, .bool r.stays] 47 (0, 0)) from hw4 ▸ heap_alloc_new w3 _)
    have HS4 := Lib.hid ((HB34.out.block _ hx0).trans HS3.out)
    have HC4 := Lib.hid ((HB34.out.block _ hx1).trans HC3.out)
    have HR4 := Lib.hid (HR3.out.below HB34.out)
    have HP4 := Lib.hid ((HP3.out.below HB34.out (Nat.le_refl _)).mono HB34.out.size)
    have HRS4 := Lib.hid (HR.out.below HB4.out)
    go_upto_region 7 with fail
    rw [← hw4]
    clear hw4
    obtain ⟨s0, s1, s2, s3, s4⟩ := box5' HS4.out
    obtain ⟨c0, c1, c2, c3, c4, c5, c6, c7, c8⟩ := box9 HC4.out
    obtain ⟨t0, t1, t2, t3, t4⟩ := box5' HT4.out
    go_wp2_with fail
    obtain ⟨fl, f5, f4⟩ := do_free HP.out HOP.out
    have FL := Lib.hid fl
    have F5 := Lib.hid f5
    have F4 := Lib.hid f4
    clear fl f5 f4
    refine (less_any s r a a3 cap c3' _ HRS4.out HR4.out).mono ?_
    rintro e w5 ⟨rfl, b5⟩
    rw [FL.out]
    have HB5 := Lib.hid (HB4.out.trans (b5.mono HB4.out.size))
    have HS5 := Lib.hid ((b5.block _ hv0).trans HS4.out)
    have HC5 := Lib.hid ((b5.block _ hv1).trans HC4.out)
    have HT5 := Lib.hid ((b5.block _ hv3).trans HT4.out)
    have HRS5 := Lib.hid (HRS4.out.below b5)
    clear b5 s0 s1 s2 s3 s4 c0 c1 c2 c3 c4 c5 c6 c7 c8 t0 t1 t2 t3 t4
    obtain ⟨s0, s1, s2, s3, s4⟩ := box5' HS5.out
    obtain ⟨c0, c1, c2, c3, c4, c5, c6, c7, c8⟩ := box9 HC5.out
    obtain ⟨t0, t1, t2, t3, t4⟩ := box5' HT5.out
    by_cases h5 : c.op = 5
    · have hb5 : (c.op == 5) = true := by simp [h5]
      have e1 : ((r.regs.length : Int) == 0) = true := by rw [beq_iff_eq]; have := (F5.out h5).1; omega
      have e2 : (r.typ == 0) = true := by rw [beq_iff_eq]; exact (F5.out h5).2
      clear h5
      go_wp2
      go_ret
      exact ⟨rfl, HB5.out⟩
    · have hb5 : (c.op == 5) = false := by simp [h5]
      obtain ⟨g1, g2⟩ := F4.out (by have := HOP.out; omega)
      have e1 : ((r.regs.length : Int) == (s.regs.length : Int)) = true := by rw [g1]; simp
      have G2 := Lib.hid g2
      clear g1 g2 h5
      by_cases hz : r.typ = 0
      · have e2 : (r.typ == 0) = true := by simp [hz]
        clear hz
        go_wp2
        go_ret
        exact ⟨rfl, HB5.out⟩
      · have e2 : (r.typ == 0) = false := by simp [hz]
        have G3 := Lib.hid (G2.out.resolve_left hz)
        have e3 : (r.typ == s.typ) = true := by rw [beq_iff_eq]; exact G3.out.1
        clear hz
        go_wp2_with fail
        refine (holds_any s a cap c.who _ HRS5.out).mono ?_
        rintro e w6 ⟨rfl, b6⟩
        rw [G3.out.2]
        go_wp2
        go_ret
        exact ⟨rfl, HB5.out.trans (b6.mono HB5.out.size)⟩
  · obtain ⟨rfl, rfl⟩ := pdo_bad HP.out hf
    rw [errV_some hf]
    have HFF := Lib.hid hf
    clear hf
    go_wp2
    go_ret
    exact ⟨rfl, HB3.out.trans ((bal w3 _).mono HB3.out.size)⟩

set_option maxRecDepth 100000 in
set_option maxHeartbeats 4000000 in
theorem topfree0 (s : St) (a : Option Addr) (cap : Nat) (c : Cmd) (w : World) (hr : StR w s a) (hs : c.data.size ≤ maxLen ∧ c.want.size ≤ maxLen) (hop0 : c.op ≠ 4 ∧ c.op ≠ 5) :
    Calls Try.prog 16 #[stV s a cap, cmdV c] w fun e w' => e = .returned (.bool true) ∧ Below w.heap.size w w' := by
  unfold maxLen at hs
  have HZ := Lib.hid hs
  have HR := Lib.hid hr
  clear hs hr
  obtain ⟨m, hm⟩ : ∃ m, mayB s c = m := ⟨_, rfl⟩
  have HM := Lib.hid hm
  clear hm
  go_enter Try.func16, Try.ntmps16
  go_wp2_with fail
  refine (ordered_any _).mono ?_
  rintro e w1 ⟨rfl, b1⟩
  have HB1 := Lib.hid ((bal2x w _ _).trans (b1.mono (by simp; omega)))
  have hz1 : w.heap.size + 1 < w1.heap.size := by have := b1.size; simp at this; omega
  have hz0 : w.heap.size < w1.heap.size := by omega
  have HS := Lib.hid ((b1.block w.heap.size (by simp <;> omega)).trans (heap_alloc2_old w _ _))
  have HC := Lib.hid ((b1.block (w.heap.size + 1) (by simp <;> omega)).trans (heap_alloc2_new w _ _))
  clear b1
  obtain ⟨s0, s1, s2, s3, s4⟩ := box5' HS.out
  obtain ⟨c0, c1, c2, c3, c4, c5, c6, c7, c8⟩ := box9 HC.out
  go_wp2_with fail
  refine (topmay_any s a cap c _ (HR.out.below HB1.out) HZ.out).mono ?_
  rintro e w2 ⟨rfl, b2⟩
  rw [HM.out]
  have HB2 := Lib.hid (HB1.out.trans (b2.mono HB1.out.size))
  have hy1 : w.heap.size + 1 < w2.heap.size := Nat.lt_of_lt_of_le hz1 b2.size
  have hy0 : w.heap.size < w2.heap.size := by omega
  have HS2 := Lib.hid ((b2.block w.heap.size hz0).trans HS.out)
  have HC2 := Lib.hid ((b2.block (w.heap.size + 1) hz1).trans HC.out)
  clear b2 s0 s1 s2 s3 s4 c0 c1 c2 c3 c4 c5 c6 c7 c8
  obtain ⟨s0, s1, s2, s3, s4⟩ := box5' HS2.out
  obtain ⟨c0, c1, c2, c3, c4, c5, c6, c7, c8⟩ := box9 HC2.out
  cases m
  · go_wp2
    go_ret
    exact ⟨rfl, HB2.out⟩
  have n4 : (c.op != 4) = true := by rw [bne_iff_ne]; exact hop0.1
  have n5 : (c.op != 5) = true := by rw [bne_iff_ne]; exact hop0.2
  go_wp2
  go_ret
  exact ⟨rfl, HB2.out⟩

theorem topfree_walk (s : St) (a : Option Addr) (cap : Nat) (c : Cmd) (w : World) (hr : StR w s a) (hs : c.data.size ≤ maxLen ∧ c.want.size ≤ maxLen) :
    Calls Try.prog 16 #[stV s a cap, cmdV c] w fun e w' => e = .returned (.bool true) ∧ Below w.heap.size w w' := by
  by_cases h4 : c.op = 4
  · exact topfree4 s a cap c w hr hs h4
  · by_cases h5 : c.op = 5
    · exact topfree5 s a cap c w hr hs h5
    · exact topfree0 s a cap c w hr hs ⟨h4, h5⟩
end Go.Proofs.Ytclhmpknkinjcaa
