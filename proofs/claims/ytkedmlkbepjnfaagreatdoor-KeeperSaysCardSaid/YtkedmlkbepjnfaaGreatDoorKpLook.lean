/-
  Contract: keeper.look, where nothing was kept.
-/
import Derived.Test.YtkedmlkbepjnfaaGreatDoorKpSplit
import Derived.Test.YtkedmlkbepjnfaaGreatDoorKpSize
import Derived.Test.YtkedmlkbepjnfaaGreatDoorKpFmt
namespace Go.Proofs.YtkedmlkbepjnfaaGreatDoor
open Go.RowKit Go.Lib

theorem results_look {P : Program} {fn : Func} {p q r u : Tmp} {ty : TypeId} (h : fn.results = #[.tmp p, .tmp q, .cell r ty, .tmp u]) (tmps : Array Value) (w : World) (g : Nat) (t : TypeId) (cs : Array Value) (d : TypeDesc) (v1 v2 v3 : Value)
    (hp : tmps.getD p undef = v1) (hq : tmps.getD q undef = v2) (hr : tmps.getD r undef = .pointer (some ⟨g, 0, none⟩)) (hu' : tmps.getD u undef = v3) (hg : w.heap[g]? = some (.cells cs t (0, 0)))
    (hu : P.underlying ty = some d) (hd : (match d with | .struct _ | .array _ _ => true | _ => false) = true) (hi : (P.info? ty).map (·.size) = some cs.size) :
    (results fn tmps).run P w = .ok (.tuple #[v1, v2, .agg cs, v3]) w := by
  have hp' : tmps[p]?.getD undef = v1 := by simpa using hp
  have hq' : tmps[q]?.getD undef = v2 := by simpa using hq
  have hr' : tmps[r]?.getD undef = .pointer (some ⟨g, 0, none⟩) := by simpa using hr
  have hu2 : tmps[u]?.getD undef = v3 := by simpa using hu'
  simp [results, h, hp', hq', hr', hu2, asAddr, run_loadVar_row w g t ty cs (0, 0) d hg hu hd hi]

theorem read_live {S : Nat → Prop} {w : World} {D n : Nat} {d : Dk} (h : DkAt S w 65 78 D n d) (ok : d.ok n) (up : d.down = false) (i : Nat) (hi : i < n) :
    Calls Tryz.prog 38 #[.pointer (some ⟨D, 0, none⟩), .int .i64 (i : Int)] w fun e w' => e = .returned (.tuple #[.string (d.now.getD i ⟨#[]⟩), .nilIface]) ∧ w' = w := by
  have hs : d.readS n (i : Int) = d.now.getD i ⟨#[]⟩ := by
    unfold Dk.readS
    rw [if_neg (by simp [up]), if_neg (by omega)]
    rfl
  have hf : d.readF n (i : Int) = 0 := by
    unfold Dk.readF
    rw [if_neg (by simp [up]), if_neg (by omega)]
  have := dread_any S w D n d (i : Int) h ok
  rw [hs, hf, errV_nil] at this
  exact this

set_option maxRecDepth 100000 in
set_option maxHeartbeats 4000000 in
theorem look_none (S : Nat → Prop) (w : World) (D n : Nat) (d : Dk) (p : Nat) (h : DkAt S w 65 78 D n d) (ok : d.ok n) (up : d.down = false) (sz : Sz d) (hp : 2 * p + 1 < n) (h0 : d.now.getD (2 * p) ⟨#[]⟩ = full0) (t : Tabs w) :
    Calls Tryz.prog 28 #[.pointer (some ⟨D, 0, none⟩), .int .i64 (p : Int)] w fun e w' => e = .returned (.tuple #[.int .i64 0, .int .i64 0, stV sNone none 0, .nilIface]) ∧ Below w.heap.size w w' := by
  have TT := Lib.hid t
  have n40 := ok.n40
  obtain ⟨X0, hX0⟩ : ∃ X, X = d.now.getD (2 * p) ⟨#[]⟩ := ⟨_, rfl⟩
  obtain ⟨X1, hX1⟩ : ∃ X, X = d.now.getD (2 * p + 1) ⟨#[]⟩ := ⟨_, rfl⟩
  have s0 : X0.size = 64 := hX0 ▸ sz.sector ok (by omega)
  have s1 : X1.size = 64 := hX1 ▸ sz.sector ok (by omega)
  obtain ⟨w1, hw1⟩ : ∃ w1, w1 = w.alloc (.cells #[.int .i64 0, .slice none 0 0, .int .i64 0, .int .i64 0, .bool false] 37) := ⟨_, rfl⟩
  have B1 := Lib.hid (show Below w.heap.size w w1 from hw1 ▸ bal w _)
  have R1 := Lib.hid (show w1.heap[w.heap.size]? = some (.cells #[.int .i64 0, .slice none 0 0, .int .i64 0, .int .i64 0, .bool false] 37 (0, 0)) from hw1 ▸ heap_alloc_new w _)
  have D1 := Lib.hid (show DkAt S w1 65 78 D n d from hw1 ▸ h.below (bal w _))
  have RD0 := Lib.hid (show Calls Tryz.prog 38 #[.pointer (some ⟨D, 0, none⟩), .int .i64 (2 * (p : Int))] w1 fun e w' => e = .returned (.tuple #[.string X0, .nilIface]) ∧ w' = w1 from by
    have := read_live D1.out ok up (2 * p) (by omega)
    rw [← hX0, show ((2 * p : Nat) : Int) = 2 * (p : Int) by omega] at this
    exact this)
  have RD1 := Lib.hid (show Calls Tryz.prog 38 #[.pointer (some ⟨D, 0, none⟩), .int .i64 (2 * (p : Int) + 1)] w1 fun e w' => e = .returned (.tuple #[.string X1, .nilIface]) ∧ w' = w1 from by
    have := read_live D1.out ok up (2 * p + 1) hp
    rw [← hX1, show ((2 * p + 1 : Nat) : Int) = 2 * (p : Int) + 1 by omega] at this
    exact this)
  obtain ⟨r, hr⟩ : ∃ r : Bs, (⟨#[]⟩ : ByteArray) ++ X0 ++ X1 = bsB (0 :: r) := by
    refine ⟨List.replicate 63 0 ++ X1.data.toList, ?_⟩
    rw [hX0, h0, ← list_bsB X1, show (⟨#[]⟩ : ByteArray) = bsB [] from rfl, full0, show (⟨#[]⟩ : ByteArray) = bsB [] from rfl, fullB_bs, bsB_append, bsB_append, bsB_list]
    rfl
  have hlen : (0 :: r).length = 128 := by
    have := congrArg ByteArray.size hr
    rw [ByteArray.size_append, ByteArray.size_append, bsB_size, s0, s1] at this
    rw [← this]
    rfl
  obtain ⟨aa, l, hsp⟩ := split_zero 4 r
  have HR := Lib.hid hr
  have HLEN := Lib.hid hlen
  have HSP := Lib.hid hsp
  have hp20 : (p : Int) ≤ 20 := by omega
  have HW1 := Lib.hid hw1
  have a1 := fun w => run_string_add_sum (P := Tryz.prog) w (⟨#[]⟩ : ByteArray) X0 (by rw [s0]; simp [ByteArray.size])
  have a2 := fun w => run_string_add_sum (P := Tryz.prog) w ((⟨#[]⟩ : ByteArray) ++ X0) X1 (by rw [ByteArray.size_append, s0, s1]; simp [ByteArray.size])
  have hp0 : (0 : Int) ≤ (p : Int) := by omega
  clear h ok up sz h0 hX0 hX1 t hw1 hr hlen hsp
  go_enter Tryz.func28, Tryz.ntmps28
  go_wp2
  rw [← HW1.out]
  refine wp_loop_rounds 3 ?_
  rw [rounds_succ]
  go_wp2_with fail
  refine RD0.out.mono ?_
  rintro e w2 ⟨rfl, hw⟩
  obtain rfl := hw
  go_wp2
  rw [rounds_succ]
  go_wp2_with fail
  refine RD1.out.mono ?_
  rintro e w2 ⟨rfl, hw⟩
  obtain rfl := hw
  go_wp2
  rw [rounds_succ]
  go_wp2_with fail
  rw [HR.out]
  refine (split5_any (0 :: r) _ (TT.out.on B1.out) (by rw [HLEN.out]; omega) (by rw [HLEN.out]; omega)).mono ?_
  rintro e w3 ⟨rfl, b3, lt3, cells⟩
  obtain ⟨L, hL⟩ : ∃ L, L = (Lib.splitK [32] 0 4 (0 :: r)).length := ⟨_, rfl⟩
  have L0 : 0 < L := by rw [hL, HSP.out]; simp
  have c0 := cells 0 (0 :: aa) (by rw [HSP.out]; rfl)
  rw [← hL]
  have q0 : ((bsB (0 :: aa)).toList == [107]) = false := by rw [ByteArray.toList_eq, bsB_list]; rfl
  have B3 := Lib.hid (B1.out.trans (b3.mono B1.out.size))
  have R3 := Lib.hid ((b3.block w.heap.size (Array.getElem?_eq_some_iff.1 R1.out).1).trans R1.out)
  obtain ⟨⟨z0, z1, z2, z3, z4⟩, f0, f1, f2, f3, f4⟩ := cells5 R3.out
  clear cells hL b3 a1 a2
  by_cases h5 : (L : Int) < 5
  · go_wp2
    refine bodyPost_ret (v := .tuple #[.int .i64 0, .int .i64 0, stV sNone none 0, .nilIface]) (results_look Tryz.results28 _ _ w.heap.size 37 #[.int .i64 0, .slice none 0 0, .int .i64 0, .int .i64 0, .bool false] _ (.int .i64 0) (.int .i64 0) .nilIface rfl rfl rfl rfl (five_at R3.out _ _ _ _ _) state_row.1 rfl state_row.2) rfl ?_
    exact ⟨rfl, five_below B3.out (Nat.le_refl _) _ _ _ _ _⟩
  · have h5' : ¬ (L : Int) ≤ 0 := by omega
    go_wp2
    refine bodyPost_ret (v := .tuple #[.int .i64 0, .int .i64 0, stV sNone none 0, .nilIface]) (results_look Tryz.results28 _ _ w.heap.size 37 #[.int .i64 0, .slice none 0 0, .int .i64 0, .int .i64 0, .bool false] _ (.int .i64 0) (.int .i64 0) .nilIface rfl rfl rfl rfl (five_at R3.out _ _ _ _ _) state_row.1 rfl state_row.2) rfl ?_
    exact ⟨rfl, five_below B3.out (Nat.le_refl _) _ _ _ _ _⟩
end Go.Proofs.YtkedmlkbepjnfaaGreatDoor
