/-
  Contracts: order.known, reserve, release.
-/
import Derived.Test.YtclhmpknkinjcaaTold
import Derived.Test.YtclhmpknkinjcaaOrdKit
import Derived.Test.YtclhmpknkinjcaaWorlds
namespace Go.Proofs.Ytclhmpknkinjcaa
open Go.RowKit Go.Sort

set_option maxRecDepth 100000 in
theorem oknown_any (s : St) (a : Option Addr) (cap : Nat) (c : Cmd) (w : World) (hr : StR w s a) :
    Calls Try.prog 88 #[stV s a cap, cmdV c] w fun e w' => e = .returned (.bool (pknown s c)) ∧ Below w.heap.size w w' := by
  have hq := fun (o p : Obj) => bregrown (Below.refl ((w.alloc o).alloc p).heap.size ((w.alloc o).alloc p))
  have hqr : ∀ o p d os, StR (grow (redrawn ((w.alloc o).alloc p) d) os) s a := fun o p d os => (hr.below ((bal w o).alloc (by simp) p)).below (below_regrown _ d os)
  have PK := Lib.hid (show pknown s c = (decide (0 < c.key) && decide (keyOf s.regs c.who = c.key)) from rfl)
  by_cases hk : 0 < c.key
  · have hkb : decide (0 < c.key) = true := by simpa using hk
    go_enter Try.func88, Try.ntmps88
    go_wp2
    refine wp_region_quiet_below (by kernel_rfl) (by kernel_rfl) ?_
    repeat (go_big_quiet_step (exact Calls.regrown_of (key_any s a cap c.who _ (hqr _ _ _ _))))
    refine wpQuiet_nil ?_
    rintro w' ⟨⟨dq, osq⟩, rfl⟩
    go_wp2
    go_ret
    exact ⟨ret_bool (by rw [PK.out, hkb, Bool.true_and]; rfl), ((bal w _).alloc (by simp) _).trans ((below_regrown _ dq osq).mono (by simp; omega))⟩
  · have hkb : decide (0 < c.key) = false := by simpa using hk
    go_enter Try.func88, Try.ntmps88
    go_wp2
    refine wp_region_quiet_below (by kernel_rfl) (by kernel_rfl) ?_
    repeat (go_big_quiet_step (exact Calls.regrown_of (key_any s a cap c.who _ (hqr _ _ _ _))))
    refine wpQuiet_nil ?_
    rintro w' ⟨⟨dq, osq⟩, rfl⟩
    go_wp2
    go_ret
    exact ⟨ret_bool (by rw [PK.out, hkb]; rfl), ((bal w _).alloc (by simp) _).trans ((below_regrown _ dq osq).mono (by simp; omega))⟩

theorem bal3' (w : World) (o p q : Obj) : Below w.heap.size w (((w.alloc o).alloc p).alloc q) := ((bal w o).alloc (by simp) p).alloc (by simp; omega) q

/-- a state that was turned in type and holder alone, in memory as it was -/
abbrev stT (s : St) (a : Option Addr) (cap : Nat) (t h : Int) : Value := .agg #[.int .i64 s.gen, .slice a s.regs.length cap, .int .i64 t, .int .i64 h, .bool s.stays]

def ResPost (s : St) (a : Option Addr) (cap : Nat) (c : Cmd) (w : World) (e : Ending) (w' : World) : Prop :=
  e = .returned (.tuple #[stT s a cap (preserve s c).1.typ (preserve s c).1.holder, errV (preserve s c).2]) ∧ Below w.heap.size w w'
theorem ResPost.mk {s : St} {a : Option Addr} {cap : Nat} {c : Cmd} {w w' : World} {e : Ending} {t : St} {f : Int} (hp : preserve s c = (t, f)) (he : e = .returned (.tuple #[stT s a cap t.typ t.holder, errV f])) (hb : Below w.heap.size w w') : ResPost s a cap c w e w' := by
  unfold ResPost; rw [hp]; exact ⟨he, hb⟩

set_option maxRecDepth 100000 in
set_option maxHeartbeats 1000000 in
theorem reserve_any (s : St) (a : Option Addr) (cap : Nat) (c : Cmd) (w : World) (hr : StR w s a) :
    Calls Try.prog 90 #[stV s a cap, cmdV c] w (ResPost s a cap c w) := by
  have hr3 : ∀ o p q, StR (((w.alloc o).alloc p).alloc q) s a := fun o p q => ((hr.below (bal w o)).below (bal _ p)).below (bal _ q)
  have HR := Lib.hid hr3
  clear hr3 hr
  by_cases h0 : 0 < s.typ
  · have P0 := Lib.hid (show preserve s c = (if holds s c.who = true ∧ s.typ = c.typ then (s, 0) else (s, 4)) from by unfold preserve; rw [if_pos h0])
    cases hh : holds s c.who
    · have P1 := Lib.hid (P0.out.trans (if_neg (by rw [hh]; simp)))
      clear P0
      go_enter Try.func90, Try.ntmps90
      go_wp2_with fail
      refine (holds_any s a cap c.who _ (HR.out _ _ _)).mono ?_
      rintro e w1 ⟨rfl, b1⟩
      rw [hh]
      clear hh
      obtain ⟨hcc, hf⟩ := bcell b1
      go_wp2
      refine bodyPost_ret (v := .tuple #[.agg #[.int .i64 s.gen, .slice a s.regs.length cap, .int .i64 s.typ, .int .i64 s.holder, .bool s.stays], .iface 138 (.int .i64 4)]) (by simp [results, Try.results90, go_sem, *]) rfl ?_
      refine ResPost.mk P1.out rfl ?_
      repeat (first | with_reducible refine Below.setCell ?_ (by simp <;> omega) _ | exact (bal3' w _ _ _).trans (b1.mono (by simp; omega)))
    · by_cases ht : s.typ = c.typ
      · have P1 := Lib.hid (P0.out.trans (if_pos ⟨hh, ht⟩))
        have htb : (s.typ == c.typ) = true := by simp [ht]
        clear P0 ht
        go_enter Try.func90, Try.ntmps90
        go_wp2_with fail
        refine (holds_any s a cap c.who _ (HR.out _ _ _)).mono ?_
        rintro e w1 ⟨rfl, b1⟩
        rw [hh]
        clear hh
        obtain ⟨hcc, hf⟩ := bcell b1
        go_wp2
        refine bodyPost_ret (v := .tuple #[.agg #[.int .i64 s.gen, .slice a s.regs.length cap, .int .i64 s.typ, .int .i64 s.holder, .bool s.stays], .nilIface]) (by simp [results, Try.results90, go_sem, *]) rfl ?_
        refine ResPost.mk P1.out rfl ?_
        repeat (first | with_reducible refine Below.setCell ?_ (by simp <;> omega) _ | exact (bal3' w _ _ _).trans (b1.mono (by simp; omega)))
      · have P1 := Lib.hid (P0.out.trans (if_neg (fun x => ht x.2)))
        have htb : (s.typ == c.typ) = false := by simp [ht]
        clear P0 ht
        go_enter Try.func90, Try.ntmps90
        go_wp2_with fail
        refine (holds_any s a cap c.who _ (HR.out _ _ _)).mono ?_
        rintro e w1 ⟨rfl, b1⟩
        rw [hh]
        clear hh
        obtain ⟨hcc, hf⟩ := bcell b1
        go_wp2
        refine bodyPost_ret (v := .tuple #[.agg #[.int .i64 s.gen, .slice a s.regs.length cap, .int .i64 s.typ, .int .i64 s.holder, .bool s.stays], .iface 138 (.int .i64 4)]) (by simp [results, Try.results90, go_sem, *]) rfl ?_
        refine ResPost.mk P1.out rfl ?_
        repeat (first | with_reducible refine Below.setCell ?_ (by simp <;> omega) _ | exact (bal3' w _ _ _).trans (b1.mono (by simp; omega)))
  · have P1 := Lib.hid (show preserve s c = (s.take c.typ c.who, 0) from by unfold preserve; rw [if_neg h0])
    have TH := Lib.hid (show (s.take c.typ c.who).holder = if allT c.typ then 0 else c.who from rfl)
    clear HR
    cases hal : allT c.typ
    · have TH1 := Lib.hid (show (s.take c.typ c.who).holder = c.who from by rw [TH.out]; simp [hal])
      clear TH
      go_enter Try.func90, Try.ntmps90
      go_wp2
      go_region
      go_wp2_with fail
      refine (all_any ⟨s.gen, s.regs, c.typ, c.who, s.stays⟩ a cap _).mono ?_
      rintro e w1 ⟨rfl, b1⟩
      dsimp only
      rw [hal]
      clear hal
      obtain ⟨hcc, hf⟩ := bcell b1
      go_wp2
      refine bodyPost_ret (v := .tuple #[.agg #[.int .i64 s.gen, .slice a s.regs.length cap, .int .i64 c.typ, .int .i64 c.who, .bool s.stays], .nilIface]) (by simp [results, Try.results90, go_sem, *]) rfl ?_
      refine ResPost.mk P1.out (by rw [TH1.out]; rfl) ?_
      repeat (first | with_reducible refine Below.setCell ?_ (by simp <;> omega) _ | exact (bal3' w _ _ _).trans ((((Below.refl _ _).drew).trans b1).mono (by simp; omega)))
    · have TH1 := Lib.hid (show (s.take c.typ c.who).holder = 0 from by rw [TH.out]; simp [hal])
      clear TH
      go_enter Try.func90, Try.ntmps90
      go_wp2
      go_region
      go_wp2_with fail
      refine (all_any ⟨s.gen, s.regs, c.typ, c.who, s.stays⟩ a cap _).mono ?_
      rintro e w1 ⟨rfl, b1⟩
      dsimp only
      rw [hal]
      clear hal
      obtain ⟨⟨d0, d1, d2, d3, d4⟩, f0, f1, f2, f3, f4⟩ := box5 b1 (b := w.heap.size) (by simp; omega) (heap3 w _ _ _).1
      obtain ⟨⟨e0, e1, e2, e3, e4⟩, g0, g1, g2, g3, g4⟩ := box5 b1 (b := w.heap.size + 1 + 1) (by simp) (heap3 w _ _ _).2.2
      go_wp2
      refine bodyPost_ret (v := .tuple #[.agg #[.int .i64 s.gen, .slice a s.regs.length cap, .int .i64 c.typ, .int .i64 0, .bool s.stays], .nilIface]) (by simp [results, Try.results90, go_sem, *]) rfl ?_
      refine ResPost.mk P1.out (by rw [TH1.out]; rfl) ?_
      repeat (first | with_reducible refine Below.setCell ?_ (by simp <;> omega) _ | exact (bal3' w _ _ _).trans ((((Below.refl _ _).drew).trans b1).mono (by simp; omega)))
end Go.Proofs.Ytclhmpknkinjcaa
