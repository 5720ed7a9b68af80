/-
  RightsSays: the walk of the law.
-/
import Derived.Test.YtdnkkdpcpbmbmaaFault
namespace Go.Proofs.Ytdnkkdpcpbmbmaa
open Go.RowKit Go.Sort

theorem may_zero (who : Int) (wr : Bool) (w : World) :
    Calls Try.prog 23 #[.agg #[.int .i64 0, .slice none 0 0, .int .i64 0, .int .i64 0, .bool false], .int .i64 who, .bool wr] w fun e w' => e = .returned (.bool true) ∧ Below w.heap.size w w' :=
  (may_any ⟨0, [], 0, 0, false⟩ none 0 who wr w ⟨by simp, Pairs.nil _ _ _⟩).mono fun e w' ⟨h1, h2⟩ => ⟨by rw [h1]; rfl, h2⟩

theorem pairs_new1 (w : World) (u v : Int) (T : TypeId) : Pairs (w.alloc (.cells #[.int .i64 u, .int .i64 v] T)).heap.size (w.alloc (.cells #[.int .i64 u, .int .i64 v] T)) (some ⟨w.heap.size, 0, none⟩) [(u, v)] := by
  intro i hi
  have : i = 0 := by simp at hi; omega
  subst this
  exact ⟨w.heap.size, 0, rfl, by simp, by simp, by simp⟩

theorem rights_walk (s : St) (a : Option Addr) (cap : Nat) (who : Int) (wr : Bool) (w : World) (hr : StR w s a) :
    Calls Try.prog 3 #[stV s a cap, .int .i64 who, .bool wr] w fun e w' => e = .returned (.bool true) ∧ Below w.heap.size w w' := by
  have hr1 : ∀ o, StR (w.alloc o) s a := fun o => hr.below (bal w o)
  have goal1 : ∀ (w0 : World) (T : TypeId), Calls Try.prog 23 #[.agg #[.int .i64 0, .slice (some ⟨w0.heap.size, 0, none⟩) 1 1, .int .i64 3, .int .i64 1, .bool false], .int .i64 2, .bool false] (w0.alloc (.cells #[.int .i64 1, .int .i64 5] T)) fun e w' => e = .returned (.bool false) ∧ Below (w0.alloc (.cells #[.int .i64 1, .int .i64 5] T)).heap.size (w0.alloc (.cells #[.int .i64 1, .int .i64 5] T)) w' :=
    fun w0 T => (may_any ⟨0, [(1, 5)], 3, 1, false⟩ _ 1 2 false _ ⟨by simp [maxLen], pairs_new1 w0 1 5 T⟩).mono fun e w' ⟨h1, h2⟩ => ⟨by rw [h1]; rfl, h2⟩
  have G1 := Lib.hid goal1
  clear goal1
  go_enter Try.func3, Try.ntmps3
  go_wp2_with fail
  refine (may_zero 1 true _).mono ?_
  rintro e w1 ⟨rfl, hb1⟩
  obtain ⟨hc, hf⟩ := bcell hb1
  go_wp2_with fail
  refine (G1.out _ _).mono ?_
  rintro e w2 ⟨rfl, hb2⟩
  have hb12 := hb1.trans ((bover hb2 (by simp)).mono hb1.size)
  obtain ⟨hc', hf'⟩ := bcell hb12
  have hr2 := (hr1 _).below hb12
  clear hc hf
  go_wp2_with fail
  refine (light_any s a cap _).mono ?_
  rintro e w3 ⟨rfl, hb3⟩
  have hb13 := hb12.trans (hb3.mono hb12.size)
  have hr3 := (hr1 _).below hb13
  obtain ⟨hc, hf⟩ := bcell hb13
  clear hc' hf' hr2
  have fin : Below w.heap.size w w3 := bover hb13 (by simp)
  cases hl6 : decide (s.regs.length ≤ 6)
  · go_wp2
    go_ret
    exact ⟨rfl, fin⟩
  go_wp2_with fail
  refine (rfault_any s a cap _ hr3).mono ?_
  rintro e w4 ⟨rfl, hb4⟩
  have hb14 := hb13.trans (hb4.mono hb13.size)
  have hr4 := (hr1 _).below hb14
  obtain ⟨hc', hf'⟩ := bcell hb14
  clear hc hf hr3 fin
  have fin : Below w.heap.size w w4 := bover hb14 (by simp)
  by_cases h0 : 0 < stateFault s
  · go_wp2
    go_ret
    exact ⟨rfl, fin⟩
  by_cases h1 : who < 1
  · go_wp2
    go_ret
    exact ⟨rfl, fin⟩
  by_cases h4 : 4 < who
  · go_wp2
    go_ret
    exact ⟨rfl, fin⟩
  have hq := bregrown hb14
  have hqr : ∀ d os, StR (grow (redrawn w4 d) os) s a := fun d os => (hr1 _).below (bclass hb14 (Nat.le_refl _) d os)
  have good : Good s := (good_iff s).1 (by have := stateFault_nonneg s; omega)
  have EQ := Lib.hid (pmay_eq_rmay s good who wr)
  go_wp2_with fail
  refine wp_region_quiet_below (by kernel_rfl) (by kernel_rfl) ?_
  repeat (go_big_quiet_step (first | exact Calls.regrown_of (may_any s a cap who wr _ (hqr _ _)) | exact Calls.regrown_of (rmay_any s a cap who wr _ (hqr _ _))))
  refine wpQuiet_nil ?_
  rintro w' ⟨⟨dq, osq⟩, rfl⟩
  go_wp2
  go_ret
  exact ⟨ret_bool (by rw [EQ.out]; simp), fin.trans ((below_regrown w4 dq osq).mono fin.size)⟩
end Go.Proofs.Ytdnkkdpcpbmbmaa
