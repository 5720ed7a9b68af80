/-
  Contracts for the laws on order: a command that may be, may, ordered; order.Do in plain words.
-/
import Derived.Test.YtclhmpknkinjcaaCmd
import Derived.Test.YtclhmpknkinjcaaDo
import Derived.Test.YtclhmpknkinjcaaDoPlain
import Derived.Test.YtclhmpknkinjcaaRef
import Derived.LaidEql
namespace Go.Proofs.Ytclhmpknkinjcaa
open Go.RowKit Go.Sort

theorem bal2x (w : World) (o p : Obj) : Below w.heap.size w ((w.alloc o).alloc p) := (bal w o).alloc (by simp) _

theorem stage_zero {b : Bool} {x m r : Int} (h : stage b x m r = 0) : 0 ≤ x ∧ x ≤ m ∧ (b = false → x = 0) ∧ r = 0 := by
  unfold stage at h
  split at h
  · cases h
  · rename_i h1
    split at h
    · cases h
    · refine ⟨by omega, by omega, fun e => ?_, h⟩
      by_cases hx : x = 0
      · exact hx
      · exact absurd ⟨e, hx⟩ h1
theorem cmd_ok {c : Cmd} (h : cmdFault c = 0) : CmdOk c := by
  unfold cmdFault at h
  split at h
  · cases h
  · rename_i h1
    split at h
    · cases h
    · rename_i h2
      obtain ⟨k1, k2, -, h⟩ := stage_zero h
      obtain ⟨n1, n2, -, h⟩ := stage_zero h
      obtain ⟨a1, a2, -, h⟩ := stage_zero h
      unfold cfP at h
      split at h
      · cases h
      · rename_i h3
        refine ⟨by omega, by omega, ⟨k1, k2⟩, ⟨n1, n2⟩, fun ho => ?_⟩
        cases hm : typeMay c.typ
        · exact absurd (by simp [badParts, ho, hm]) h3
        · rfl
theorem cmd_nonneg (c : Cmd) : 0 ≤ cmdFault c := by
  unfold cmdFault cfK cfN cfA stage cfP cfL cfS
  repeat' split
  all_goals decide

def lightB (c : Cmd) : Bool := decide (c.data.size ≤ 20) && decide (c.want.size ≤ 20)
theorem lightC_any (c : Cmd) (w : World) :
    Calls Try.prog 56 #[cmdV c] w fun e w' => e = .returned (.bool (lightB c)) ∧ Below w.heap.size w w' := by
  obtain ⟨op, who, key, new, typ, at_, stays, data, want⟩ := c
  by_cases h : (data.size : Int) ≤ 20
  · have HB := Lib.hid (show lightB ⟨op, who, key, new, typ, at_, stays, data, want⟩ = decide ((want.size : Int) ≤ 20) from by unfold lightB; rw [decide_eq_true (show (data.size ≤ 20) from by omega), Bool.true_and]; exact decide_eq_decide.2 (by dsimp only; omega))
    go_enter Try.func56, Try.ntmps56
    go_wp2
    go_ret
    exact ⟨ret_bool HB.out.symm, bal w _⟩
  · have HB := Lib.hid (show lightB ⟨op, who, key, new, typ, at_, stays, data, want⟩ = false from by unfold lightB; rw [decide_eq_false (fun e => h (by have e' : data.size ≤ 20 := e; omega))]; rfl)
    go_enter Try.func56, Try.ntmps56
    go_wp2
    go_ret
    exact ⟨ret_bool HB.out.symm, bal w _⟩
theorem light_x (s : St) (a : Option Addr) (cap : Nat) (w : World) (b : Bool) (h : decide (s.regs.length ≤ 6) = b) :
    Calls Try.prog 55 #[stV s a cap] w fun e w' => e = .returned (.bool b) ∧ Below w.heap.size w w' := by
  subst h; exact light_any s a cap w
theorem lightC_x (c : Cmd) (w : World) (b : Bool) (h : lightB c = b) :
    Calls Try.prog 56 #[cmdV c] w fun e w' => e = .returned (.bool b) ∧ Below w.heap.size w w' := by
  subst h; exact lightC_any c w
theorem ccheck_good (c : Cmd) (w : World) (hs : c.data.size ≤ 9223372036854775807 ∧ c.want.size ≤ 9223372036854775807) (h : cmdFault c = 0) :
    Calls Try.prog 106 #[cmdV c] w fun e w' => e = .returned .nilIface ∧ Below w.heap.size w w' :=
  (ccheck_any c w hs).mono fun e w' ⟨h1, h2⟩ => ⟨by rw [h1, h]; rfl, h2⟩
theorem ccheck_bad (c : Cmd) (w : World) (hs : c.data.size ≤ 9223372036854775807 ∧ c.want.size ≤ 9223372036854775807) (h : cmdFault c ≠ 0) :
    Calls Try.prog 106 #[cmdV c] w fun e w' => e = .returned (.iface 138 (.int .i64 (cmdFault c))) ∧ Below w.heap.size w w' :=
  (ccheck_any c w hs).mono fun e w' ⟨h1, h2⟩ => ⟨by rw [h1, errV_some h], h2⟩

/-- may a state and a command be? -/
def mayB (s : St) (c : Cmd) : Bool := decide (s.regs.length ≤ 6) && lightB c && decide (stateFault s = 0) && decide (cmdFault c = 0)
structure MayOk (s : St) (c : Cmd) : Prop where
  len : s.regs.length ≤ 6
  good : Good s
  cmd : CmdOk c
  lf : LF s.regs 40
theorem mayB_ok {s : St} {c : Cmd} (h : mayB s c = true) : MayOk s c := by
  unfold mayB at h
  simp only [Bool.and_eq_true, decide_eq_true_eq] at h
  obtain ⟨⟨⟨h1, _⟩, h3⟩, h4⟩ := h
  have g := (good_iff s).1 h3
  exact ⟨h1, g, cmd_ok h4, ⟨by omega, fun r hr => by have := g.bounds r hr; omega, g.sorted⟩⟩

set_option maxRecDepth 100000 in
set_option maxHeartbeats 2000000 in
theorem topmay_any (s : St) (a : Option Addr) (cap : Nat) (c : Cmd) (w : World) (hr : StR w s a) (hs : c.data.size ≤ 9223372036854775807 ∧ c.want.size ≤ 9223372036854775807) :
    Calls Try.prog 72 #[stV s a cap, cmdV c] w fun e w' => e = .returned (.bool (mayB s c)) ∧ Below w.heap.size w w' := by
  have HR := Lib.hid hr
  have HR2 := Lib.hid (fun o p => hr.below (bal2x w o p))
  clear hr
  by_cases h1 : s.regs.length ≤ 6
  · have HD1 := Lib.hid (decide_eq_true h1)
    cases h2 : lightB c
    · have HM := Lib.hid (show mayB s c = false from by simp [mayB, h2])
      have HD2 := Lib.hid h2
      clear h1 h2
      go_enter Try.func72, Try.ntmps72
      go_wp2_with fail
      refine (light_x s a cap _ true HD1.out).mono ?_
      rintro e w1 ⟨rfl, b1⟩
      obtain ⟨hcc, hf⟩ := bcell b1
      go_wp2_with fail
      refine (lightC_x c _ false HD2.out).mono ?_
      rintro e w2 ⟨rfl, b2⟩
      go_wp2
      go_ret
      exact ⟨ret_bool HM.out.symm, (bal2x w _ _).trans ((b1.trans (b2.mono b1.size)).mono (by simp; omega))⟩
    · have HD2 := Lib.hid h2
      have MB := Lib.hid (show mayB s c = (decide (stateFault s = 0) && decide (cmdFault c = 0)) from by simp [mayB, h1, h2])
      clear h1 h2
      by_cases h3 : stateFault s = 0
      · by_cases h4 : cmdFault c = 0
        · have HM := Lib.hid (show mayB s c = true from by rw [MB.out]; simp [h3, h4])
          have H3 := Lib.hid h3
          have H4 := Lib.hid h4
          clear h3 h4
          go_enter Try.func72, Try.ntmps72
          go_wp2_with fail
          refine (light_x s a cap _ true HD1.out).mono ?_
          rintro e w1 ⟨rfl, b1⟩
          obtain ⟨hcc, hf⟩ := bcell b1
          go_wp2_with fail
          refine (lightC_x c _ true HD2.out).mono ?_
          rintro e w2 ⟨rfl, b2⟩
          have b12 := b1.trans (b2.mono b1.size)
          clear hcc hf
          obtain ⟨hcc, hf⟩ := bcell b12
          go_wp2_with fail
          refine (check_good s a cap _ ((HR2.out _ _).below b12) H3.out).mono ?_
          rintro e w3 ⟨rfl, b3⟩
          have b13 := b12.trans (b3.mono b12.size)
          clear hcc hf
          obtain ⟨hcc, hf⟩ := bcell b13
          go_wp2_with fail
          refine (ccheck_good c _ hs H4.out).mono ?_
          rintro e w4 ⟨rfl, b4⟩
          go_wp2
          go_ret
          exact ⟨ret_bool HM.out.symm, (bal2x w _ _).trans ((b13.trans (b4.mono b13.size)).mono (by simp; omega))⟩
        · have HM := Lib.hid (show mayB s c = false from by rw [MB.out]; simp [h4])
          have H3 := Lib.hid h3
          have H4 := Lib.hid h4
          clear h3 h4
          go_enter Try.func72, Try.ntmps72
          go_wp2_with fail
          refine (light_x s a cap _ true HD1.out).mono ?_
          rintro e w1 ⟨rfl, b1⟩
          obtain ⟨hcc, hf⟩ := bcell b1
          go_wp2_with fail
          refine (lightC_x c _ true HD2.out).mono ?_
          rintro e w2 ⟨rfl, b2⟩
          have b12 := b1.trans (b2.mono b1.size)
          clear hcc hf
          obtain ⟨hcc, hf⟩ := bcell b12
          go_wp2_with fail
          refine (check_good s a cap _ ((HR2.out _ _).below b12) H3.out).mono ?_
          rintro e w3 ⟨rfl, b3⟩
          have b13 := b12.trans (b3.mono b12.size)
          clear hcc hf
          obtain ⟨hcc, hf⟩ := bcell b13
          go_wp2_with fail
          refine (ccheck_bad c _ hs H4.out).mono ?_
          rintro e w4 ⟨rfl, b4⟩
          go_wp2
          go_ret
          exact ⟨ret_bool HM.out.symm, (bal2x w _ _).trans ((b13.trans (b4.mono b13.size)).mono (by simp; omega))⟩
      · have HM := Lib.hid (show mayB s c = false from by rw [MB.out]; simp [h3])
        have H3 := Lib.hid h3
        clear h3
        go_enter Try.func72, Try.ntmps72
        go_wp2_with fail
        refine (light_x s a cap _ true HD1.out).mono ?_
        rintro e w1 ⟨rfl, b1⟩
        obtain ⟨hcc, hf⟩ := bcell b1
        go_wp2_with fail
        refine (lightC_x c _ true HD2.out).mono ?_
        rintro e w2 ⟨rfl, b2⟩
        have b12 := b1.trans (b2.mono b1.size)
        clear hcc hf
        obtain ⟨hcc, hf⟩ := bcell b12
        go_wp2_with fail
        refine (check_bad s a cap _ ((HR2.out _ _).below b12) H3.out).mono ?_
        rintro e w3 ⟨rfl, b3⟩
        go_wp2
        go_ret
        exact ⟨ret_bool HM.out.symm, (bal2x w _ _).trans ((b12.trans (b3.mono b12.size)).mono (by simp; omega))⟩
  · have HM := Lib.hid (show mayB s c = false from by simp [mayB, h1])
    have HD1 := Lib.hid (decide_eq_false h1)
    clear h1
    go_enter Try.func72, Try.ntmps72
    go_wp2_with fail
    refine (light_x s a cap _ false HD1.out).mono ?_
    rintro e w1 ⟨rfl, b1⟩
    go_wp2
    go_ret
    exact ⟨ret_bool HM.out.symm, (bal2x w _ _).trans (b1.mono (by simp; omega))⟩

/-- order.Do, its answer named -/
theorem do_x (s : St) (a : Option Addr) (cap : Nat) (c : Cmd) (w : World) (hr : StR w s a) (m : MayOk s c) (r : St) (lt : List (Int × Int)) (f : Int) (h : pdo s c = (r, lt, f)) :
    Calls Try.prog 59 #[stV s a cap, cmdV c] w fun e w' => ∃ a' c' at' ct', e = .returned (.tuple #[.agg #[.int .i64 r.gen, .slice a' r.regs.length c', .int .i64 r.typ, .int .i64 r.holder, .bool r.stays], .slice at' lt.length ct', errV f]) ∧ StR w' r a' ∧ Pairs w'.heap.size w' at' lt ∧ Below w.heap.size w w' := by
  have := do_any s a cap c w hr m.lf (by have := m.cmd.who; omega) m.cmd.op.1 m.good.gen
  rw [h] at this
  refine this.mono ?_
  rintro e w' ⟨a', c', v, rfl, h1, -, h2, h3⟩
  obtain ⟨at', ct', rfl, hp⟩ := h2.shape
  exact ⟨a', c', at', ct', rfl, h1, hp, h3⟩

/-- the closed fact: 1 is known by 5 -/
theorem pdo_first : pdo St.zero ⟨1, 1, 0, 5, 0, 0, false, ByteArray.empty, ByteArray.empty⟩ = (⟨1, [(1, 5)], 0, 0, false⟩, [], 0) := by kernel_rfl
set_option maxRecDepth 100000 in
theorem ordered_any (w : World) : Calls Try.prog 71 #[] w fun e w' => e = .returned (.bool true) ∧ Below w.heap.size w w' := by
  have HP := Lib.hid pdo_first
  have HM := Lib.hid (show MayOk St.zero ⟨1, 1, 0, 5, 0, 0, false, ByteArray.empty, ByteArray.empty⟩ from mayB_ok (by decide +kernel))
  go_enter Try.func71, Try.ntmps71
  go_wp2_with fail
  refine (do_x St.zero none 0 ⟨1, 1, 0, 5, 0, 0, false, ByteArray.empty, ByteArray.empty⟩ _ (str_zero _) HM.out _ _ _ HP.out).mono ?_
  rintro e w1 ⟨a1, c1, at1, ct1, rfl, hs1, hp1, b1⟩
  have HS := Lib.hid hs1
  have HB := Lib.hid b1
  clear hs1 hp1 b1
  rw [errV_nil]
  go_wp2_with fail
  refine (key_x 1 [(1, 5)] 0 0 false a1 c1 1 5 _ (HS.out.below (bal w1 _)) rfl).mono ?_
  rintro e w2 ⟨rfl, b2⟩
  go_wp2
  go_ret
  exact ⟨rfl, HB.out.trans ((bal w1 _).trans (b2.mono (bal w1 _).size) |>.mono HB.out.size)⟩
end Go.Proofs.Ytclhmpknkinjcaa
