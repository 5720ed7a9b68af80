/-
  OrderSays: the walk, and a closed fact.
-/
import Derived.Test.YtclhmpknkinjcaaDo
import Derived.Test.YtclhmpknkinjcaaROrd
import Derived.Test.YtclhmpknkinjcaaRCmd
import Derived.Test.YtclhmpknkinjcaaFault
import Derived.Test.YtclhmpknkinjcaaLight
import Derived.Test.YtclhmpknkinjcaaSameErr
import Derived.Test.YtclhmpknkinjcaaSameTells
import Derived.Test.YtclhmpknkinjcaaOrdKit
namespace Go.Proofs.Ytclhmpknkinjcaa
open Go.RowKit Go.Sort

theorem do_y (s : St) (a : Option Addr) (cap : Nat) (c : Cmd) (w : World) (hr : StR w s a) (hl : LF s.regs 40) (hw : 0 ≤ c.who ∧ c.who ≤ 1000) (h1 : 1 ≤ c.op) (hg : 0 ≤ s.gen ∧ s.gen ≤ 1000000000) (r : St) (lt : List (Int × Int)) (f : Int) (n m : Nat) (h : pdo s c = (r, lt, f)) (hn : r.regs.length = n) (hm : lt.length = m) :
    Calls Try.prog 59 #[stV s a cap, cmdV c] w fun e w' => ∃ a' c' a2 c2, e = .returned (.tuple #[.agg #[.int .i64 r.gen, .slice a' n c', .int .i64 r.typ, .int .i64 r.holder, .bool r.stays], .slice a2 m c2, errV f]) ∧ StR w' r a' ∧ Pairs w'.heap.size w' a2 lt ∧ Below w.heap.size w w' := by
  subst hn hm
  have := do_any s a cap c w hr hl hw h1 hg
  rw [h] at this
  refine this.mono ?_
  rintro e w' ⟨a', c', v, rfl, h1, -, h3, h4⟩
  obtain ⟨a2, c2, rfl, hp⟩ := h3.shape
  exact ⟨a', c', a2, c2, rfl, h1, hp, h4⟩
theorem rord_y (s : St) (a : Option Addr) (cap : Nat) (c : Cmd) (w : World) (hr : StR w s a) (hl : LF s.regs 40) (hw : 0 ≤ c.who ∧ c.who ≤ 1000) (h1 : 1 ≤ c.op) (hn0 : 0 ≤ c.new) (hg : 0 ≤ s.gen ∧ s.gen ≤ 1000000000) (r : St) (lt : List (Int × Int)) (f : Int) (n m : Nat) (h : rdo s c = (r, lt, f)) (hn : r.regs.length = n) (hm : lt.length = m) :
    Calls Try.prog 60 #[stV s a cap, cmdV c] w fun e w' => ∃ a' c' a2 c2, e = .returned (.tuple #[.agg #[.int .i64 r.gen, .slice a' n c', .int .i64 r.typ, .int .i64 r.holder, .bool r.stays], .slice a2 m c2, .int .i64 f]) ∧ StR w' r a' ∧ Pairs w'.heap.size w' a2 lt ∧ Below w.heap.size w w' := by
  subst hn hm
  have := rordered_any s a cap c w hr hl hw h1 hn0 hg
  rw [h] at this
  refine this.mono ?_
  rintro e w' ⟨a', c', v, rfl, h1, h3, h4⟩
  obtain ⟨a2, c2, rfl, hp⟩ := h3.shape
  exact ⟨a', c', a2, c2, rfl, h1, hp, h4⟩

theorem toldL_len (l : List Int) (what : Int) : (toldL l what).length = l.length := by simp [toldL]
theorem oth_len (who : Int) (l : List (Int × Int)) : (othersL who l).length ≤ l.length := by
  have := others_len who l l.length
  rwa [List.take_length] at this
theorem pacts_f (s : St) (c : Cmd) : 0 ≤ (pacts s c).2.2 := by
  unfold pacts
  split
  · exact Int.le_refl _
  split
  · show 0 ≤ (preserve s c).2
    unfold preserve; (repeat' split) <;> (dsimp only; omega)
  split
  · unfold prelease; (repeat' split) <;> (dsimp only; omega)
  split
  · exact Int.le_refl _
  split
  · unfold ppreempt; dsimp only; (repeat' split) <;> (dsimp only; omega)
  · exact Int.le_refl _
theorem pdo_f (s : St) (c : Cmd) : 0 ≤ (pdo s c).2.2 := by
  have := pacts_f s c
  unfold pdo
  split
  · dsimp only; omega
  split
  · dsimp only; omega
  split
  · exact this
  split <;> (dsimp only; omega)
theorem pacts_len {s : St} (c : Cmd) (h : s.regs.length ≤ 40) : (pacts s c).2.1.length ≤ 100 := by
  unfold pacts
  split
  · show (pregister s c).2.length ≤ 100
    have hw := with_len s.regs c.who c.new
    unfold pregister
    dsimp only
    split
    · simp
    split
    · simp
    split
    · simp only [toldL_len]
      refine Nat.le_trans (oth_len _ _) ?_
      show (withL s.regs c.who c.new).length ≤ 100
      omega
    · simp
  split
  · simp
  split
  · unfold prelease
    split
    · simp
    split
    · simp
    split
    · simp only [toldL_len]
      exact Nat.le_trans (oth_len _ _) (by omega)
    · simp
  split
  · simp only [toldL_len]
    exact Nat.le_trans (oth_len _ _) (by omega)
  split
  · have hg := gone_len c.who c.new s.regs
    have hp := Nat.le_trans (oth_len c.who (putOut s.regs (goneL c.who c.new s.regs))) (putOut_len _ _)
    unfold ppreempt
    split
    · simp
    dsimp only
    split
    · split
      · simp
      · simp only [toldL_len]; omega
    · simp only [List.length_append, toldL_len]
      split
      · simp only [toldL_len]
        have : (othersL c.who (s.withRegs (putOut s.regs (goneL c.who c.new s.regs))).regs).length ≤ s.regs.length := hp
        omega
      · simp only [List.length_nil]; omega
  · simp
theorem pdo_len {s : St} (c : Cmd) (h : s.regs.length ≤ 40) : (pdo s c).2.1.length ≤ 100 := by
  have := pacts_len c h
  unfold pdo
  split
  · simp
  split
  · simp
  split
  · simp
  split <;> exact this

theorem same_y (r : St) (a b : Option Addr) (c d n : Nat) (w : World) (hn : r.regs.length = n) (ha : StR w r a) (hb : StR w r b) :
    Calls Try.prog 61 #[.agg #[.int .i64 r.gen, .slice a n c, .int .i64 r.typ, .int .i64 r.holder, .bool r.stays], .agg #[.int .i64 r.gen, .slice b n d, .int .i64 r.typ, .int .i64 r.holder, .bool r.stays]] w fun e w' => e = .returned (.bool true) ∧ Below w.heap.size w w' := by
  subst hn; exact samestate_true r a b c d w ha hb
theorem tells_y (l : List (Int × Int)) (a b : Option Addr) (c d m : Nat) (w : World) (hm : l.length = m) (hl : l.length ≤ 100) (ha : Pairs w.heap.size w a l) (hb : Pairs w.heap.size w b l) :
    Calls Try.prog 62 #[.slice a m c, .slice b m d] w fun e w' => e = .returned (.bool true) ∧ Below w.heap.size w w' := by
  subst hm; exact sametells_true l a b c d w (by unfold maxLen; omega) ha hb

def cmd0 : Cmd := ⟨1, 1, 0, 5, 0, 0, false, ⟨#[]⟩, ⟨#[]⟩⟩
theorem pdo0 : pdo St.zero cmd0 = (⟨1, [(1, 5)], 0, 0, false⟩, [], 0) := by kernel_rfl
set_option maxRecDepth 100000 in
set_option maxHeartbeats 1000000 in
theorem orders_any (w : World) : Calls Try.prog 54 #[] w fun e w' => e = .returned (.bool true) ∧ Below w.heap.size w w' := by
  go_enter Try.func54, Try.ntmps54
  go_wp2_with fail
  refine (do_y St.zero none 0 cmd0 _ ⟨by simp [St.zero], Pairs.nil _ _ _⟩ ⟨by simp [St.zero], fun r hr => by simp [St.zero] at hr, by simp [St.zero]⟩ (by simp [cmd0]) (by simp [cmd0]) (by simp [St.zero]) _ _ _ 1 0 pdo0 rfl rfl).mono ?_
  rintro e w1 ⟨a1, c1, a2, c2, rfl, -, -, b1⟩
  rw [errV_nil]
  dsimp only
  have B1 := Lib.hid b1
  have SM := Lib.hid (fun w => same_any 0 0 w (by omega) (by omega))
  rw [errV_nil] at SM
  clear b1
  go_upto_region 2 with fail
  obtain ⟨w2, hw2⟩ : ∃ w2, w2 = w1.alloc (.cells #[.int .i64 1, .slice a1 1 c1, .int .i64 0, .int .i64 0, .bool false] 47) := ⟨_, rfl⟩
  rw [← hw2]
  have B2 := Lib.hid (show Below w.heap.size w w2 from hw2 ▸ B1.out.trans ((bal w1 _).mono B1.out.size))
  have H2 := Lib.hid (show w2.heap[w1.heap.size]? = some (.cells #[.int .i64 1, .slice a1 1 c1, .int .i64 0, .int .i64 0, .bool false] 47 (0, 0)) from hw2 ▸ heap_alloc_new _ _)
  clear hw2
  go_wp2_with fail
  refine (SM.out _).mono ?_
  rintro e w3 ⟨rfl, b3⟩
  have B3 := Lib.hid (B2.out.trans (b3.mono B2.out.size))
  have H3 := (b3.block _ (Array.getElem?_eq_some_iff.1 H2.out).1).trans H2.out
  have g0 : w3.cell? ⟨w1.heap.size, 0, none⟩ = some (.int .i64 1) := by simp [World.cell?, H3]
  have g1 : w3.cell? ⟨w1.heap.size, 1, none⟩ = some (.slice a1 1 c1) := by simp [World.cell?, H3]
  simp only [decide_true]
  clear b3 H3 SM
  go_wp2
  go_ret
  exact ⟨rfl, B3.out⟩

structure O3 (w : World) (s t : St) (a b : Option Addr) (cap cbp : Nat) (c : Cmd) (wx : World) : Prop where
  below : Below w.heap.size w wx
  hS : wx.heap[w.heap.size]? = some (.cells #[.int .i64 s.gen, .slice a s.regs.length cap, .int .i64 s.typ, .int .i64 s.holder, .bool s.stays] 47 (0, 0))
  hT : wx.heap[w.heap.size + 1]? = some (.cells #[.int .i64 t.gen, .slice b t.regs.length cbp, .int .i64 t.typ, .int .i64 t.holder, .bool t.stays] 47 (0, 0))
  hC : wx.heap[w.heap.size + 1 + 1]? = some (.cells #[.int .i64 c.op, .int .i64 c.who, .int .i64 c.key, .int .i64 c.new, .int .i64 c.typ, .int .i64 c.at', .bool c.stays, .string c.data, .string c.want] 49 (0, 0))
section
variable {w wx w' : World} {s t : St} {a b : Option Addr} {cap cbp : Nat} {c : Cmd}
theorem O3.lt (f : O3 w s t a b cap cbp c wx) : w.heap.size + 1 + 1 < wx.heap.size := (Array.getElem?_eq_some_iff.1 f.hC).1
theorem O3.over (f : O3 w s t a b cap cbp c wx) (k : Below wx.heap.size wx w') : O3 w s t a b cap cbp c w' := by
  have h := f.lt
  exact ⟨f.below.trans (k.mono f.below.size), (k.block _ (by omega)).trans f.hS, (k.block _ (by omega)).trans f.hT, (k.block _ h).trans f.hC⟩
theorem O3.s5 (f : O3 w s t a b cap cbp c wx) : wx.cell? ⟨w.heap.size, 0, none⟩ = some (.int .i64 s.gen) ∧ wx.cell? ⟨w.heap.size, 1, none⟩ = some (.slice a s.regs.length cap) ∧ wx.cell? ⟨w.heap.size, 2, none⟩ = some (.int .i64 s.typ) ∧ wx.cell? ⟨w.heap.size, 3, none⟩ = some (.int .i64 s.holder) ∧ wx.cell? ⟨w.heap.size, 4, none⟩ = some (.bool s.stays) := by
  have := f.hS; simp [World.cell?, this]
theorem O3.t5 (f : O3 w s t a b cap cbp c wx) : wx.cell? ⟨w.heap.size + 1, 0, none⟩ = some (.int .i64 t.gen) ∧ wx.cell? ⟨w.heap.size + 1, 1, none⟩ = some (.slice b t.regs.length cbp) ∧ wx.cell? ⟨w.heap.size + 1, 2, none⟩ = some (.int .i64 t.typ) ∧ wx.cell? ⟨w.heap.size + 1, 3, none⟩ = some (.int .i64 t.holder) ∧ wx.cell? ⟨w.heap.size + 1, 4, none⟩ = some (.bool t.stays) := by
  have := f.hT; simp [World.cell?, this]
theorem O3.c9 (f : O3 w s t a b cap cbp c wx) : wx.cell? ⟨w.heap.size + 1 + 1, 0, none⟩ = some (.int .i64 c.op) ∧ wx.cell? ⟨w.heap.size + 1 + 1, 1, none⟩ = some (.int .i64 c.who) ∧ wx.cell? ⟨w.heap.size + 1 + 1, 2, none⟩ = some (.int .i64 c.key) ∧ wx.cell? ⟨w.heap.size + 1 + 1, 3, none⟩ = some (.int .i64 c.new) ∧ wx.cell? ⟨w.heap.size + 1 + 1, 4, none⟩ = some (.int .i64 c.typ) ∧ wx.cell? ⟨w.heap.size + 1 + 1, 5, none⟩ = some (.int .i64 c.at') ∧ wx.cell? ⟨w.heap.size + 1 + 1, 6, none⟩ = some (.bool c.stays) ∧ wx.cell? ⟨w.heap.size + 1 + 1, 7, none⟩ = some (.string c.data) ∧ wx.cell? ⟨w.heap.size + 1 + 1, 8, none⟩ = some (.string c.want) := by
  have := f.hC; simp [World.cell?, this]
end

set_option maxRecDepth 100000 in
set_option maxHeartbeats 4000000 in
theorem ordersays_walk (s t : St) (a b : Option Addr) (cap cbp : Nat) (c : Cmd) (w : World) (hs : StR w s a) (ht : StR w t b) :
    Calls Try.prog 6 #[stV s a cap, stV t b cbp, cmdV c] w fun e w' => e = .returned (.bool true) ∧ Below w.heap.size w w' := by
  have HS := Lib.hid hs
  have HT := Lib.hid ht
  clear hs ht
  go_enter Try.func6, Try.ntmps6
  go_upto_region 1 with fail
  obtain ⟨w1, hw1⟩ : ∃ w1, w1 = ((w.alloc (.cells #[.int .i64 s.gen, .slice a s.regs.length cap, .int .i64 s.typ, .int .i64 s.holder, .bool s.stays] 47)).alloc (.cells #[.int .i64 t.gen, .slice b t.regs.length cbp, .int .i64 t.typ, .int .i64 t.holder, .bool t.stays] 47)).alloc (.cells #[.int .i64 c.op, .int .i64 c.who, .int .i64 c.key, .int .i64 c.new, .int .i64 c.typ, .int .i64 c.at', .bool c.stays, .string c.data, .string c.want] 49) := ⟨_, rfl⟩
  rw [← hw1]
  have B1 := Lib.hid (show O3 w s t a b cap cbp c w1 from hw1 ▸ ⟨bal3' w _ _ _, (heap3 w _ _ _).1, (heap3 w _ _ _).2.1, (heap3 w _ _ _).2.2⟩)
  clear hw1
  go_wp2_with fail
  refine (orders_any _).mono ?_
  rintro e w2 ⟨rfl, b2⟩
  have B2 := Lib.hid (B1.out.over b2)
  clear b2 B1
  obtain ⟨d0, d1, d2, d3, d4⟩ := B2.out.s5
  obtain ⟨L1, hL1⟩ : ∃ L, decide (s.regs.length ≤ 6) = L := ⟨_, rfl⟩
  go_wp2_with fail
  refine (light_x s a cap _ L1 hL1).mono ?_
  rintro e w3 ⟨rfl, b3⟩
  have B3 := Lib.hid (B2.out.over b3)
  clear b3 B2 d0 d1 d2 d3 d4
  cases L1
  · go_wp2
    go_ret
    exact ⟨rfl, B3.out.below⟩
  have HL1 := Lib.hid (of_decide_eq_true hL1)
  clear hL1
  obtain ⟨e0, e1, e2, e3, e4⟩ := B3.out.t5
  obtain ⟨L2, hL2⟩ : ∃ L, decide (t.regs.length ≤ 6) = L := ⟨_, rfl⟩
  go_wp2_with fail
  refine (light_x t b cbp _ L2 hL2).mono ?_
  rintro e w4 ⟨rfl, b4⟩
  have B4 := Lib.hid (B3.out.over b4)
  clear b4 B3 e0 e1 e2 e3 e4 hL2
  cases L2
  · go_wp2
    go_ret
    exact ⟨rfl, B4.out.below⟩
  obtain ⟨k0, k1, k2, k3, k4, k5, k6, k7, k8⟩ := B4.out.c9
  obtain ⟨L3, hL3⟩ : ∃ L, lightB c = L := ⟨_, rfl⟩
  go_wp2_with fail
  refine (lightC_x c _ L3 hL3).mono ?_
  rintro e w5 ⟨rfl, b5⟩
  have B5 := Lib.hid (B4.out.over b5)
  clear b5 B4 k0 k1 k2 k3 k4 k5 k6 k7 k8
  cases L3
  · go_wp2
    go_ret
    exact ⟨rfl, B5.out.below⟩
  have HL3 := Lib.hid (show c.data.size ≤ 1000 ∧ c.want.size ≤ 1000 from by
    unfold lightB at hL3
    simp only [Bool.and_eq_true, decide_eq_true_eq] at hL3
    omega)
  clear hL3
  obtain ⟨d0, d1, d2, d3, d4⟩ := B5.out.s5
  obtain ⟨f1, hf1⟩ : ∃ f, stateFault s = f := ⟨_, rfl⟩
  have RF1 := Lib.hid (rfault_any s a cap _ (HS.out.below B5.out.below))
  rw [hf1] at RF1
  go_wp2_with fail
  refine RF1.out.mono ?_
  rintro e w6 ⟨rfl, b6⟩
  have B6 := Lib.hid (B5.out.over b6)
  clear b6 B5 d0 d1 d2 d3 d4 RF1
  by_cases p1 : 0 < f1
  · go_wp2
    go_ret
    exact ⟨rfl, B6.out.below⟩
  have G1 := Lib.hid ((good_iff s).1 (by have := stateFault_nonneg s; omega))
  clear hf1
  obtain ⟨e0, e1, e2, e3, e4⟩ := B6.out.t5
  obtain ⟨f2, hf2⟩ : ∃ f, stateFault t = f := ⟨_, rfl⟩
  have RF2 := Lib.hid (rfault_any t b cbp _ (HT.out.below B6.out.below))
  rw [hf2] at RF2
  go_wp2_with fail
  refine RF2.out.mono ?_
  rintro e w7 ⟨rfl, b7⟩
  have B7 := Lib.hid (B6.out.over b7)
  clear b7 B6 e0 e1 e2 e3 e4 RF2
  by_cases p2 : 0 < f2
  · go_wp2
    go_ret
    exact ⟨rfl, B7.out.below⟩
  have G2 := Lib.hid ((good_iff t).1 (by have := stateFault_nonneg t; omega))
  clear hf2
  obtain ⟨k0, k1, k2, k3, k4, k5, k6, k7, k8⟩ := B7.out.c9
  go_wp2_with fail
  refine (rcmd_any c _ HL3.out).mono ?_
  rintro e w8 ⟨f3, rfl, hf0, hok, b8⟩
  have B8 := Lib.hid (B7.out.over b8)
  have HOK := Lib.hid hok
  clear b8 B7 k0 k1 k2 k3 k4 k5 k6 k7 k8 hok
  by_cases p3 : 0 < f3
  · go_wp2
    go_ret
    exact ⟨rfl, B8.out.below⟩
  have CK := Lib.hid (HOK.out (by omega))
  clear HOK hf0
  have LFS := Lib.hid (show LF s.regs 40 from ⟨by have := HL1.out; omega, fun r hr => by have := G1.out.bounds r hr; omega, G1.out.sorted⟩)
  obtain ⟨P, hP⟩ : ∃ P, pdo s c = P := ⟨_, rfl⟩
  obtain ⟨r, lt, f⟩ := P
  have HR := Lib.hid ((pdo_rdo G1.out CK.out).symm.trans hP)
  have HP := Lib.hid hP
  have hff := Lib.hid (show 0 ≤ f from by have := pdo_f s c; rw [hP] at this; exact this)
  have hll := Lib.hid (show lt.length ≤ 100 from by have := pdo_len (s := s) c LFS.out.len; rw [hP] at this; exact this)
  obtain ⟨n, hn⟩ : ∃ n, r.regs.length = n := ⟨_, rfl⟩
  obtain ⟨m, hm⟩ : ∃ m, lt.length = m := ⟨_, rfl⟩
  have DO := Lib.hid (fun w' (h : StR w' s a) => do_y s a cap c w' h LFS.out (by have := CK.out.who; omega) CK.out.op.1 (by have := G1.out.gen; omega) r lt f n m HP.out hn hm)
  have RD := Lib.hid (fun w' (h : StR w' s a) => rord_y s a cap c w' h LFS.out (by have := CK.out.who; omega) CK.out.op.1 CK.out.new.1 (by have := G1.out.gen; omega) r lt f n m HR.out hn hm)
  have HN := Lib.hid hn
  have HM := Lib.hid hm
  clear hP hn hm
  obtain ⟨d0, d1, d2, d3, d4⟩ := B8.out.s5
  obtain ⟨k0, k1, k2, k3, k4, k5, k6, k7, k8⟩ := B8.out.c9
  go_wp2_with fail
  refine (DO.out _ (HS.out.below B8.out.below)).mono ?_
  rintro e w9 ⟨a9, c9, a10, c10, rfl, hs9, hp9, b9⟩
  dsimp only
  have B9 := Lib.hid (B8.out.over b9)
  have S9 := Lib.hid hs9
  have P9 := Lib.hid hp9
  clear hs9 hp9 b9 B8 d0 d1 d2 d3 d4 k0 k1 k2 k3 k4 k5 k6 k7 k8 DO p1 p2 p3
  go_upto_region 5 with fail
  obtain ⟨w11, hw11⟩ : ∃ w11, w11 = w9.alloc (.cells #[.int .i64 r.gen, .slice a9 n c9, .int .i64 r.typ, .int .i64 r.holder, .bool r.stays] 47) := ⟨_, rfl⟩
  rw [← hw11]
  have b11 : Below w9.heap.size w9 w11 := hw11 ▸ bal w9 _
  have B11 := Lib.hid (B9.out.over b11)
  have S11 := Lib.hid (S9.out.below b11)
  have P11 := Lib.hid ((P9.out.below b11 (Nat.le_refl _)).mono b11.size)
  have X11 := Lib.hid (show w11.heap[w9.heap.size]? = some (.cells #[.int .i64 r.gen, .slice a9 n c9, .int .i64 r.typ, .int .i64 r.holder, .bool r.stays] 47 (0, 0)) from hw11 ▸ heap_alloc_new _ _)
  clear hw11 b11 B9 S9 P9
  obtain ⟨X, hX⟩ : ∃ X, w9.heap.size = X := ⟨_, rfl⟩
  rw [hX] at X11
  rw [hX]
  clear hX
  obtain ⟨d0, d1, d2, d3, d4⟩ := B11.out.s5
  obtain ⟨k0, k1, k2, k3, k4, k5, k6, k7, k8⟩ := B11.out.c9
  go_wp2_with fail
  refine (RD.out _ (HS.out.below B11.out.below)).mono ?_
  rintro e w12 ⟨a12, c12, a13, c13, rfl, hs12, hp12, b12⟩
  dsimp only
  have B12 := Lib.hid (B11.out.over b12)
  have S12 := Lib.hid hs12
  have P12 := Lib.hid hp12
  have S11' := Lib.hid (S11.out.below b12)
  have P11' := Lib.hid ((P11.out.below b12 (Nat.le_refl _)).mono b12.size)
  have X12 := Lib.hid ((b12.block _ (Array.getElem?_eq_some_iff.1 X11.out).1).trans X11.out)
  clear hs12 hp12 b12 B11 d0 d1 d2 d3 d4 k0 k1 k2 k3 k4 k5 k6 k7 k8 RD S11 P11 X11
  go_upto_region 6 with fail
  obtain ⟨w14, hw14⟩ : ∃ w14, w14 = w12.alloc (.cells #[.int .i64 r.gen, .slice a12 n c12, .int .i64 r.typ, .int .i64 r.holder, .bool r.stays] 47) := ⟨_, rfl⟩
  rw [← hw14]
  have b14 : Below w12.heap.size w12 w14 := hw14 ▸ bal w12 _
  have B14 := Lib.hid (B12.out.over b14)
  have SA := Lib.hid (S11'.out.below b14)
  have SB := Lib.hid (S12.out.below b14)
  have PA := Lib.hid ((P11'.out.below b14 (Nat.le_refl _)).mono b14.size)
  have PB := Lib.hid ((P12.out.below b14 (Nat.le_refl _)).mono b14.size)
  have X14 := (b14.block _ (Array.getElem?_eq_some_iff.1 X12.out).1).trans X12.out
  have Y14 : w14.heap[w12.heap.size]? = some (.cells #[.int .i64 r.gen, .slice a12 n c12, .int .i64 r.typ, .int .i64 r.holder, .bool r.stays] 47 (0, 0)) := hw14 ▸ heap_alloc_new _ _
  have hvx : X < w14.heap.size := (Array.getElem?_eq_some_iff.1 X14).1
  have hvy : w12.heap.size < w14.heap.size := (Array.getElem?_eq_some_iff.1 Y14).1
  have hvs : w.heap.size < w14.heap.size := by have := B14.out.lt; omega
  have hvt : w.heap.size + 1 < w14.heap.size := by have := B14.out.lt; omega
  clear hw14 b14 B12 S11' S12 P11' P12 X12
  obtain ⟨x0, x1, x2, x3, x4⟩ := box5' X14
  obtain ⟨y0, y1, y2, y3, y4⟩ := box5' Y14
  obtain ⟨d0, d1, d2, d3, d4⟩ := B14.out.s5
  obtain ⟨e0, e1, e2, e3, e4⟩ := B14.out.t5
  clear X14 Y14
  obtain ⟨Z, hZ⟩ : ∃ Z, lessB pmay s t = Z := ⟨_, rfl⟩
  have hZ2 : lessB rmay s t = Z := by rw [← hZ]; exact (less_congr (fun who b => pmay_eq_rmay s G1.out who b) (fun who b => pmay_eq_rmay t G2.out who b)).symm
  have SQ := Lib.hid (fun d os => (HS.out.below B14.out.below).below (below_regrown w14 d os))
  have TQ := Lib.hid (fun d os => (HT.out.below B14.out.below).below (below_regrown w14 d os))
  have C1 := Lib.hid (fun w' => (same_any f f w' hff.out hff.out).mono fun _ _ ⟨h1, h2⟩ => (⟨h1.trans (by simp), h2⟩ : _ = Ending.returned (.bool true) ∧ _))
  have C2 := Lib.hid (fun d os => same_y r a9 a12 c9 c12 n _ HN.out (SA.out.below (below_regrown w14 d os)) (SB.out.below (below_regrown w14 d os)))
  have C3 := Lib.hid (fun d os => tells_y lt a10 a13 c10 c13 m _ HM.out hll.out ((PA.out.below (below_regrown w14 d os) (Nat.le_refl _)).mono (below_regrown w14 d os).size) ((PB.out.below (below_regrown w14 d os) (Nat.le_refl _)).mono (below_regrown w14 d os).size))
  have C4 := Lib.hid (fun d os => less_any s t a b cap cbp _ (SQ.out d os) (TQ.out d os))
  have C5 := Lib.hid (fun d os => rless_any s t a b cap cbp _ (SQ.out d os) (TQ.out d os))
  rw [hZ] at C4
  rw [hZ2] at C5
  have hZZ : (Z == Z) = true := by simp
  have hq := bregrown (Below.refl w14.heap.size w14)
  clear hZ hZ2
  go_cut [6] (fun v wx => v = .bool true ∧ Below w14.heap.size w14 wx)
  case first =>
    refine wp_region_quiet_below (by kernel_rfl) (by kernel_rfl) ?_
    repeat (go_big_quiet_step (first | exact Calls.regrown_of (C1.out _) | exact Calls.regrown_of (C2.out _ _) | exact Calls.regrown_of (C3.out _ _) | exact Calls.regrown_of (C4.out _ _) | exact Calls.regrown_of (C5.out _ _)))
    refine wpQuiet_nil ?_
    rintro w' ⟨⟨dq, osq⟩, rfl⟩
    go_wp2_with fail
    go_meet
    exact ⟨rfl, below_regrown _ dq osq⟩
  case rest =>
    obtain ⟨rfl, b15⟩ := hcut
    go_wp2
    go_ret
    exact ⟨rfl, B14.out.below.trans (b15.mono B14.out.below.size)⟩
end Go.Proofs.Ytclhmpknkinjcaa
