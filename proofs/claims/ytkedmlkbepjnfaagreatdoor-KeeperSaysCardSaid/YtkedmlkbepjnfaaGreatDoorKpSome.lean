/-
  Contract: keeper.look, where something was kept.
-/
import Derived.Test.YtkedmlkbepjnfaaGreatDoorKpLook
import Derived.Deep.RegionHeld3
import Derived.BigQuiet
namespace Go.Proofs.YtkedmlkbepjnfaaGreatDoor
open Go.RowKit Go.Lib

def LookPost (m e : Int) (s : St) (w : World) (x : Ending) (w' : World) : Prop :=
  ∃ a cap, x = .returned (.tuple #[.int .i64 m, .int .i64 e, stV s a cap, .nilIface]) ∧ StR w' s a ∧ Below w.heap.size w w' ∧ ∀ b o, a = some ⟨b, o, none⟩ → w.heap.size ≤ b

/-- what the walk keeps behind the words -/
structure LK (w : World) (SB AB : Nat) (m e : Int) (s : St) (z : Bs) (v0 v1 v2 : Int) (wx : World) : Prop where
  bl : Below w.heap.size w wx
  c1 : wx.cell? ⟨SB, 1, none⟩ = some (.string (bsB (itoa m)))
  c2 : wx.cell? ⟨SB, 2, none⟩ = some (.string (bsB (itoa e)))
  c3 : wx.cell? ⟨SB, 3, none⟩ = some (.string (bsB (itoa ((stText s).length : Int))))
  c4 : wx.cell? ⟨SB, 4, none⟩ = some (.string (bsB (stText s ++ z)))
  arr : wx.heap[AB]? = some (.cells #[.int .i64 v0, .int .i64 v1, .int .i64 v2] 86 (0, 0))
  res : wx.heap[w.heap.size]? = some (.cells #[.int .i64 0, .slice none 0 0, .int .i64 0, .int .i64 0, .bool false] 37 (0, 0))
  sb : SB < AB
  rs : w.heap.size < SB
section
variable {w wx w' : World} {SB AB : Nat} {m e : Int} {s : St} {z : Bs} {v0 v1 v2 u0 u1 u2 : Int}
theorem LK.lt (f : LK w SB AB m e s z v0 v1 v2 wx) : AB < wx.heap.size := (Array.getElem?_eq_some_iff.1 f.arr).1
theorem LK.upd (f : LK w SB AB m e s z v0 v1 v2 wx) (hb : Below w.heap.size wx w') (same : ∀ k, k ≠ AB → k < wx.heap.size → w'.heap[k]? = wx.heap[k]?) (ha : w'.heap[AB]? = some (.cells #[.int .i64 u0, .int .i64 u1, .int .i64 u2] 86 (0, 0))) : LK w SB AB m e s z u0 u1 u2 w' := by
  have h1 := f.sb; have h2 := f.rs; have h3 := f.lt
  have hs := same SB (by omega) (by omega)
  have c : ∀ i, w'.cell? ⟨SB, i, none⟩ = wx.cell? ⟨SB, i, none⟩ := fun i => World.cell?_of_block (a := ⟨SB, i, none⟩) hs
  exact ⟨f.bl.trans hb, (c 1).trans f.c1, (c 2).trans f.c2, (c 3).trans f.c3, (c 4).trans f.c4, ha, (same _ (by omega) (by omega)).trans f.res, h1, h2⟩
theorem LK.over (f : LK w SB AB m e s z v0 v1 v2 wx) (b : Below wx.heap.size wx w') : LK w SB AB m e s z v0 v1 v2 w' :=
  f.upd (b.mono f.bl.size) (fun k _ hk => b.block k hk) ((b.block _ f.lt).trans f.arr)
theorem LK.set (f : LK w SB AB m e s z v0 v1 v2 wx) (i : Nat) (u : Int) (ha : #[Value.int .i64 v0, .int .i64 v1, .int .i64 v2].setIfInBounds i (.int .i64 u) = #[.int .i64 u0, .int .i64 u1, .int .i64 u2]) : LK w SB AB m e s z u0 u1 u2 (wx.setCell ⟨AB, i, none⟩ (.int .i64 u)) := by
  have h1 := f.sb; have h2 := f.rs
  exact f.upd ((Below.refl _ _).setCell (p := ⟨AB, i, none⟩) (by show w.heap.size ≤ AB; omega) _) (fun k hk _ => Below.heap_setCell _ _ _ _ hk) (by rw [one_setCell f.arr (.int .i64 u), ha])
theorem LK.cells (f : LK w SB AB m e s z v0 v1 v2 wx) : (wx.cell? ⟨AB, 0, none⟩ = some (.int .i64 v0) ∧ wx.cell? ⟨AB, 1, none⟩ = some (.int .i64 v1) ∧ wx.cell? ⟨AB, 2, none⟩ = some (.int .i64 v2)) ∧ wx.frozen? ⟨AB, 0, none⟩ = false ∧ wx.frozen? ⟨AB, 1, none⟩ = false ∧ wx.frozen? ⟨AB, 2, none⟩ = false := by
  have h := f.arr; simp [World.cell?, World.frozen?, h]
theorem lk_res (f : LK w SB AB m e s z v0 v1 v2 wx) : (wx.cell? ⟨w.heap.size, 0, none⟩ = some (.int .i64 0) ∧ wx.cell? ⟨w.heap.size, 1, none⟩ = some (.slice none 0 0) ∧ wx.cell? ⟨w.heap.size, 2, none⟩ = some (.int .i64 0) ∧ wx.cell? ⟨w.heap.size, 3, none⟩ = some (.int .i64 0) ∧ wx.cell? ⟨w.heap.size, 4, none⟩ = some (.bool false)) ∧
    (wx.frozen? ⟨w.heap.size, 0, none⟩ = false ∧ wx.frozen? ⟨w.heap.size, 1, none⟩ = false ∧ wx.frozen? ⟨w.heap.size, 2, none⟩ = false ∧ wx.frozen? ⟨w.heap.size, 3, none⟩ = false ∧ wx.frozen? ⟨w.heap.size, 4, none⟩ = false) := cells5 f.res
end
theorem drew_cell {X : World} {a : Addr} {v : Option Value} (h : X.cell? a = v) : X.drew.cell? a = v := h
theorem look_trim (U : ByteArray) (N : Nat) (s : St) (w : World) (hN : N = (stText s).length) {z : Bs} (hU : U = bsB (stText s ++ z)) (hz : (∀ b ∈ z, b = 0) ∧ z.length ≤ 128) :
    Calls Tryz.prog 42 #[.string (U.extract N U.size), .string ⟨#[0]⟩] w fun e w' => e = .returned (.string ⟨#[]⟩) ∧ Below w.heap.size w w' := by
  have he : U.extract N U.size = bsB z := by
    rw [hU, hN, bsB_size]
    apply ByteArray.ext
    rw [ByteArray.data_extract]
    apply Array.toList_inj.1
    simp [bsB, List.extract_eq_take_drop]
  rw [he]
  exact trim0_any z w (by omega) hz.1
theorem look_parse (U : ByteArray) (N : Nat) (s : St) (w : World) (t : Tabs w) (g : Good s) (hN : N = (stText s).length) {z : Bs} (hU : U = bsB (stText s ++ z)) :
    Calls Tryz.prog 41 #[.string (U.extract 0 N)] w fun q w' => ∃ a cap, q = .returned (.tuple #[stV s a cap, .nilIface]) ∧ StR w' s a ∧ Below w.heap.size w w' ∧ ∀ b o, a = some ⟨b, o, none⟩ → w.heap.size ≤ b := by
  have he : U.extract 0 N = bsB (stText s) := by
    rw [hU, hN]
    apply ByteArray.ext
    rw [ByteArray.data_extract]
    apply Array.toList_inj.1
    simp [bsB, List.extract_eq_take_drop]
  rw [he]
  refine (parse_any (bsB (stText s)) w t (by rw [bsB_size]; have := g.text_len; omega)).mono ?_
  rintro q w' ⟨h5, b5⟩
  rcases h5 with ⟨s', a, cap, hg, ht, rfl, hr, hf⟩ | ⟨h5, -⟩
  · obtain rfl := stText_inj hg g (bsB_inj ht)
    exact ⟨a, cap, rfl, hr, b5, hf⟩
  · exact absurd rfl (h5 s g)

set_option maxRecDepth 100000 in
set_option maxHeartbeats 4000000 in
theorem look_some (S : Nat → Prop) (w : World) (D n : Nat) (d : Dk) (p : Nat) (m e : Int) (s : St) (h : DkAt S w 65 78 D n d) (ok : d.ok n) (up : d.down = false) (sz : Sz d) (hp : 2 * p + 1 < n) (hpl : Place d.now p m e s) (t : Tabs w) :
    Calls Tryz.prog 28 #[.pointer (some ⟨D, 0, none⟩), .int .i64 (p : Int)] w fun x w' => LookPost m e s w x w' := by
  have TT := Lib.hid t
  have KN := Lib.hid hpl.k
  have n40 := ok.n40
  obtain ⟨X0, hX0⟩ : ∃ X, X = d.now.getD (2 * p) ⟨#[]⟩ := ⟨_, rfl⟩
  obtain ⟨X1, hX1⟩ : ∃ X, X = d.now.getD (2 * p + 1) ⟨#[]⟩ := ⟨_, rfl⟩
  have s0 : X0.size = 64 := hX0 ▸ sz.sector ok (by omega)
  have s1 : X1.size = 64 := hX1 ▸ sz.sector ok (by omega)
  obtain ⟨w1, hw1⟩ : ∃ w1, w1 = w.alloc (.cells #[.int .i64 0, .slice none 0 0, .int .i64 0, .int .i64 0, .bool false] 37) := ⟨_, rfl⟩
  have B1 := Lib.hid (show Below w.heap.size w w1 from hw1 ▸ bal w _)
  have R1 := Lib.hid (show w1.heap[w.heap.size]? = some (.cells #[.int .i64 0, .slice none 0 0, .int .i64 0, .int .i64 0, .bool false] 37 (0, 0)) from hw1 ▸ heap_alloc_new w _)
  have D1 := Lib.hid (show DkAt S w1 65 78 D n d from hw1 ▸ h.below (bal w _))
  have RD0 := Lib.hid (show Calls Tryz.prog 38 #[.pointer (some ⟨D, 0, none⟩), .int .i64 (2 * (p : Int))] w1 fun e w' => e = .returned (.tuple #[.string X0, .nilIface]) ∧ w' = w1 from by
    have := read_live D1.out ok up (2 * p) (by omega)
    rw [← hX0, show ((2 * p : Nat) : Int) = 2 * (p : Int) by omega] at this
    exact this)
  have RD1 := Lib.hid (show Calls Tryz.prog 38 #[.pointer (some ⟨D, 0, none⟩), .int .i64 (2 * (p : Int) + 1)] w1 fun e w' => e = .returned (.tuple #[.string X1, .nilIface]) ∧ w' = w1 from by
    have := read_live D1.out ok up (2 * p + 1) hp
    rw [← hX1, show ((2 * p + 1 : Nat) : Int) = 2 * (p : Int) + 1 by omega] at this
    exact this)
  obtain ⟨z, hz⟩ : ∃ z : Bs, z = List.replicate (128 - (kText m e s).length) 0 := ⟨_, rfl⟩
  have hkl := KN.out.len
  have hr : (⟨#[]⟩ : ByteArray) ++ X0 ++ X1 = bsB (kText m e s ++ z) := by
    rw [hX0, hX1, hpl.a, hpl.b, hz, ← two_sectors _ (by omega)]
    unfold kA kB
    rw [show (⟨#[]⟩ : ByteArray) = bsB [] from rfl, ByteArray.append_assoc]
    apply ByteArray.ext
    simp [bsB]
  have hlen : (kText m e s ++ z).length = 128 := by rw [hz]; simp; omega
  have ZZ := Lib.hid (show (∀ b ∈ z, b = 0) ∧ z.length ≤ 128 from ⟨fun b hb => by rw [hz] at hb; exact List.eq_of_mem_replicate hb, by rw [hz]; simp⟩)
  have HR := Lib.hid hr
  have HLEN := Lib.hid hlen
  have HSP := Lib.hid (split4_kText m e s z)
  have hp20 : (p : Int) ≤ 20 := by omega
  have HW1 := Lib.hid hw1
  have a1 := fun w => run_string_add_sum (P := Tryz.prog) w (⟨#[]⟩ : ByteArray) X0 (by rw [s0]; simp [ByteArray.size])
  have a2 := fun w => run_string_add_sum (P := Tryz.prog) w ((⟨#[]⟩ : ByteArray) ++ X0) X1 (by rw [ByteArray.size_append, s0, s1]; simp [ByteArray.size])
  have hp0 : (0 : Int) ≤ (p : Int) := by omega
  clear h ok up sz hX0 hX1 t hw1 hr hlen hpl hz hkl
  go_enter Tryz.func28, Tryz.ntmps28
  go_wp2
  rw [← HW1.out]
  refine wp_loop_rounds 3 ?_
  rw [rounds_succ]
  go_wp2_with fail
  refine RD0.out.mono ?_
  rintro e w2 ⟨rfl, hw⟩
  obtain rfl := hw
  go_wp2
  rw [rounds_succ]
  go_wp2_with fail
  refine RD1.out.mono ?_
  rintro e w2 ⟨rfl, hw⟩
  obtain rfl := hw
  go_wp2
  rw [rounds_succ]
  go_wp2_with fail
  rw [HR.out]
  refine (split5_any (kText m e s ++ z) _ (TT.out.on B1.out) (by rw [HLEN.out]; omega) (by rw [HLEN.out]; omega)).mono ?_
  rintro e' w3 ⟨rfl, b3, lt3, cells⟩
  rw [HSP.out] at cells ⊢
  have c0 := cells 0 [107] rfl
  have CE := Lib.hid (show w3.cell? ⟨w2.heap.size, 1, none⟩ = some (.string (bsB (itoa m))) ∧ w3.cell? ⟨w2.heap.size, 2, none⟩ = some (.string (bsB (itoa e))) ∧ w3.cell? ⟨w2.heap.size, 3, none⟩ = some (.string (bsB (itoa ((stText s).length : Int)))) ∧ w3.cell? ⟨w2.heap.size, 4, none⟩ = some (.string (bsB (stText s ++ z))) from ⟨cells 1 _ rfl, cells 2 _ rfl, cells 3 _ rfl, cells 4 _ rfl⟩)
  have q0 : ((bsB [107]).toList == [107]) = true := by rw [ByteArray.toList_eq, bsB_list]; rfl
  have B3 := Lib.hid (B1.out.trans (b3.mono B1.out.size))
  have R3 := Lib.hid ((b3.block w.heap.size (Array.getElem?_eq_some_iff.1 R1.out).1).trans R1.out)
  have LT3 := Lib.hid lt3
  have LTR := Lib.hid (Array.getElem?_eq_some_iff.1 R1.out).1
  clear cells b3 a1 a2 lt3 s0 s1
  simp only [List.length_cons, List.length_nil, Nat.zero_add, Nat.reduceAdd]
  go_wp2
  have K4 := Lib.hid (show LK w w2.heap.size w3.heap.size m e s z 0 0 0 (w3.alloc (.cells #[.int .i64 0, .int .i64 0, .int .i64 0] 86)) from
    have cc := fun i => (bal w3 (.cells #[.int .i64 0, .int .i64 0, .int .i64 0] 86)).cell (p := ⟨w2.heap.size, i, none⟩) LT3.out
    ⟨B3.out.trans ((bal w3 _).mono B3.out.size), (cc 1).trans CE.out.1, (cc 2).trans CE.out.2.1, (cc 3).trans CE.out.2.2.1, (cc 4).trans CE.out.2.2.2, heap_alloc_new w3 _, ((bal w3 _).block _ (by have := LT3.out; have := LTR.out; omega)).trans R3.out, LT3.out, LTR.out⟩)
  obtain ⟨w4, hw4⟩ : ∃ w4, w3.alloc (.cells #[.int .i64 0, .int .i64 0, .int .i64 0] 86) = w4 := ⟨_, rfl⟩
  rw [hw4] at K4 ⊢
  obtain ⟨AB, hAB⟩ : ∃ AB, AB = w3.heap.size := ⟨_, rfl⟩
  obtain ⟨SB, hSB⟩ : ∃ SB, SB = w2.heap.size := ⟨_, rfl⟩
  rw [← hAB, ← hSB] at K4 ⊢
  clear hw4 hAB hSB CE B3 R3 LT3 LTR
  have hm0 : ¬ m < 0 := by have := KN.out.n0; omega
  have he0 : ¬ e < 0 := by have := KN.out.e0; omega
  have hl0 : ¬ ((stText s).length : Int) < 0 := by omega
  refine wp_loop_rounds 4 ?_
  rw [rounds_succ]
  have x0 := K4.out.c1
  go_wp2_with fail
  refine (atoiP_any m _ (TT.out.on K4.out.bl) (by have := KN.out.n0; omega) (by have := KN.out.n1; omega)).mono ?_
  rintro q w5 ⟨rfl, b5⟩
  have K5 := Lib.hid (K4.out.over b5)
  clear b5 x0
  obtain ⟨⟨y0, y1, y2⟩, f0, f1, f2⟩ := K5.out.cells
  have K6 := Lib.hid (K5.out.set (u0 := m) (u1 := 0) (u2 := 0) 0 m rfl)
  go_wp2
  obtain ⟨w6, hs⟩ : ∃ x, w5.setCell ⟨AB, 0, none⟩ (.int .i64 m) = x := ⟨_, rfl⟩
  rw [hs] at K6 ⊢
  clear hs y0 y1 y2 f0 f1 f2
  rw [rounds_succ]
  have x1 := K6.out.c2
  go_wp2_with fail
  refine (atoiP_any e _ (TT.out.on K6.out.bl) (by have := KN.out.e0; omega) (by have := KN.out.e1; omega)).mono ?_
  rintro q w7 ⟨rfl, b5⟩
  have K7 := Lib.hid (K6.out.over b5)
  clear b5 x1
  obtain ⟨⟨y0, y1, y2⟩, f0, f1, f2⟩ := K7.out.cells
  have K8 := Lib.hid (K7.out.set (u0 := m) (u1 := e) (u2 := 0) 1 e rfl)
  go_wp2
  obtain ⟨w8, hs⟩ : ∃ x, w7.setCell ⟨AB, 1, none⟩ (.int .i64 e) = x := ⟨_, rfl⟩
  rw [hs] at K8 ⊢
  clear hs y0 y1 y2 f0 f1 f2
  rw [rounds_succ]
  have x2 := K8.out.c3
  go_wp2_with fail
  refine (atoiP_any ((stText s).length : Int) _ (TT.out.on K8.out.bl) (by omega) (by have := KN.out.g.text_len; omega)).mono ?_
  rintro q w9 ⟨rfl, b5⟩
  have K9 := Lib.hid (K8.out.over b5)
  clear b5 x2
  obtain ⟨⟨y0, y1, y2⟩, f0, f1, f2⟩ := K9.out.cells
  have K10 := Lib.hid (K9.out.set (u0 := m) (u1 := e) (u2 := ((stText s).length : Int)) 2 ((stText s).length : Int) rfl)
  go_wp2
  obtain ⟨w10, hs⟩ : ∃ x, w9.setCell ⟨AB, 2, none⟩ (.int .i64 ((stText s).length : Int)) = x := ⟨_, rfl⟩
  rw [hs] at K10 ⊢
  clear hs y0 y1 y2 f0 f1 f2
  rw [rounds_succ]
  go_upto_region 22 with fail
  obtain ⟨N, hN⟩ : ∃ N, N = (stText s).length := ⟨_, rfl⟩
  obtain ⟨U, hU⟩ : ∃ U, U = bsB (stText s ++ z) := ⟨_, rfl⟩
  have HN := Lib.hid hN
  have HU := Lib.hid hU
  have US := Lib.hid (show N ≤ U.size ∧ N ≤ 48 ∧ U.size ≤ 300 from by
    have := KN.out.g.text_len
    have := ZZ.out.2
    rw [hU, bsB_size, List.length_append, hN]
    omega)
  have x4 : w10.cell? ⟨SB, 4, none⟩ = some (.string U) := hU ▸ K10.out.c4
  have y2 : w10.cell? ⟨AB, 2, none⟩ = some (.int .i64 (N : Int)) := hN ▸ K10.out.cells.1.2.2
  have hgt : ¬ (U.size : Int) < (N : Int) := by have := US.out; omega
  clear hN hU hm0 he0 hl0
  go_quiet (fail)
  go_upto_region 24 with fail
  obtain ⟨wA, hwA⟩ : ∃ wA, w10.drewN nq = wA := ⟨_, rfl⟩
  have KA := Lib.hid (show LK w SB AB m e s z m e ((stText s).length : Int) wA from hwA ▸ K10.out.over (below_drewN (Below.refl _ _) nq))
  rw [hwA]
  clear hwA x4 y2 hgt
  have x4 : wA.cell? ⟨SB, 4, none⟩ = some (.string U) := HU.out ▸ KA.out.c4
  have y2 : wA.cell? ⟨AB, 2, none⟩ = some (.int .i64 (N : Int)) := HN.out ▸ KA.out.cells.1.2.2
  have RA := Lib.hid (lk_res KA.out)
  have KEEP := Lib.hid (show ∀ w', Keeps (· = w.heap.size) wA w' → Keeps (· = w.heap.size) wA w' ∧ w'.cell? ⟨SB, 4, none⟩ = some (.string U) ∧ w'.cell? ⟨AB, 2, none⟩ = some (.int .i64 (N : Int)) from fun w' kp => by
    have h1 := KA.out.sb; have h2 := KA.out.rs; have h3 := KA.out.lt
    exact ⟨kp, (kp.cell (b := SB) (by show ¬ SB = w.heap.size; omega) (by omega)).trans x4, (kp.cell (b := AB) (by show ¬ AB = w.heap.size; omega) (by omega)).trans y2⟩)
  have PAR := Lib.hid (look_parse U N s wA.drew (TT.out.on (KA.out.over (Below.refl _ _).drew).bl) KN.out.g HN.out (by rw [HU.out]))
  have b0 : (0 : Int) ≤ (N : Int) := by omega
  have b1 : (N : Int) ≤ (U.size : Int) := by have := US.out; omega
  obtain ⟨⟨r0, r1, r2, r3, r4⟩, g0, g1, g2, g3, g4⟩ := RA.out
  go_region_held3 (fun w' => Keeps (· = w.heap.size) wA w' ∧ w'.cell? ⟨SB, 4, none⟩ = some (.string U) ∧ w'.cell? ⟨AB, 2, none⟩ = some (.int .i64 (N : Int)))
    (first | (refine KEEP.out _ ?_; first | (with_reducible exact (Keeps.refl _ _).drew) | (with_reducible exact Keeps.of_below (by assumption)) | (with_reducible exact kset (kset (kset (kset (kset (Keeps.of_below (by assumption)) _ _) _ _) _ _) _ _) _ _)))
    (first | ((with_reducible refine PAR.out.mono ?_); rintro q w11 ⟨a, cap, rfl, ha, bq, fr⟩; have bA : Below wA.heap.size wA w11 := (Below.refl _ _).drew.trans bq; have RB := lk_res (KA.out.over bA); obtain ⟨⟨r0, r1, r2, r3, r4⟩, g0, g1, g2, g3, g4⟩ := RB))
  obtain ⟨w12, hw12⟩ : ∃ w12, w12 = five w11 w.heap.size (.int .i64 s.gen) (.slice a s.regs.length cap) (.int .i64 s.typ) (.int .i64 s.holder) (.bool s.stays) := ⟨_, rfl⟩
  have KB := Lib.hid (KA.out.over bA)
  have HA := Lib.hid ha
  have FR := Lib.hid (show ∀ b o, a = some ⟨b, o, none⟩ → wA.heap.size ≤ b from fr)
  have RL := Lib.hid (show w.heap.size < wA.heap.size from by have h1 := KA.out.sb; have h2 := KA.out.rs; have h3 := KA.out.lt; omega)
  have R12 := Lib.hid (show w12.heap[w.heap.size]? = some (.cells #[.int .i64 s.gen, .slice a s.regs.length cap, .int .i64 s.typ, .int .i64 s.holder, .bool s.stays] 37 (0, 0)) from hw12 ▸ five_at KB.out.res _ _ _ _ _)
  have B12 := Lib.hid (show Below w.heap.size w w12 from hw12 ▸ five_below KB.out.bl (Nat.le_refl _) _ _ _ _ _)
  have S12 := Lib.hid (show StR w12 s a from hw12 ▸ HA.out.five (fun b o e => by have := FR.out b o e; have := RL.out; omega) _ _ _ _ _)
  have C12 := Lib.hid (show w12.cell? ⟨SB, 4, none⟩ = some (.string U) ∧ w12.cell? ⟨AB, 0, none⟩ = some (.int .i64 m) ∧ w12.cell? ⟨AB, 1, none⟩ = some (.int .i64 e) ∧ w12.cell? ⟨AB, 2, none⟩ = some (.int .i64 (N : Int)) ∧ SB < w12.heap.size ∧ AB < w12.heap.size ∧ w.heap.size < w12.heap.size from by
    have h1 := KB.out.sb; have h2 := KB.out.rs; have h3 := KB.out.lt
    have hz : w12.heap.size = w11.heap.size := by rw [hw12]; unfold five; simp [World.setCell]
    have e1 : w12.heap[SB]? = w11.heap[SB]? := hw12 ▸ five_ne (by omega) _ _ _ _ _
    have e2 : w12.heap[AB]? = w11.heap[AB]? := hw12 ▸ five_ne (by omega) _ _ _ _ _
    have cc := KB.out.cells.1
    exact ⟨(World.cell?_of_block (a := ⟨SB, 4, none⟩) e1).trans (HU.out ▸ KB.out.c4), (World.cell?_of_block (a := ⟨AB, 0, none⟩) e2).trans cc.1, (World.cell?_of_block (a := ⟨AB, 1, none⟩) e2).trans cc.2.1, (World.cell?_of_block (a := ⟨AB, 2, none⟩) e2).trans (HN.out ▸ cc.2.2), by omega, by omega, by omega⟩)
  have hw12' : ((((w11.setCell ⟨w.heap.size, 0, none⟩ (.int .i64 s.gen)).setCell ⟨w.heap.size, 1, none⟩ (.slice a s.regs.length cap)).setCell ⟨w.heap.size, 2, none⟩ (.int .i64 s.typ)).setCell ⟨w.heap.size, 3, none⟩ (.int .i64 s.holder)).setCell ⟨w.heap.size, 4, none⟩ (.bool s.stays) = w12 := hw12.symm
  rw [hw12']
  clear hw12 hw12' ha bA bq fr x4 y2 r0 r1 r2 r3 r4 g0 g1 g2 g3 g4 KEEP PAR KA KB RA
  obtain ⟨x4, y0, y1, y2, l1, l2, l3⟩ := C12.out
  have KEEP2 := Lib.hid (show ∀ w', Below w12.heap.size w12 w' → Below w12.heap.size w12 w' ∧ w'.cell? ⟨SB, 4, none⟩ = some (.string U) ∧ w'.cell? ⟨AB, 2, none⟩ = some (.int .i64 (N : Int)) from fun w' b => ⟨b, (b.cell (p := ⟨SB, 4, none⟩) l1).trans x4, (b.cell (p := ⟨AB, 2, none⟩) l2).trans y2⟩)
  have TRIM := Lib.hid (fun w => look_trim U N s w HN.out HU.out ZZ.out)
  go_upto_region 25 with fail
  go_region_held3 (fun w' => Below w12.heap.size w12 w' ∧ w'.cell? ⟨SB, 4, none⟩ = some (.string U) ∧ w'.cell? ⟨AB, 2, none⟩ = some (.int .i64 (N : Int)))
    (first | (refine KEEP2.out _ ?_; first | (with_reducible exact (Below.refl _ _).drew) | (with_reducible assumption)))
    (first | ((with_reducible refine (TRIM.out _).mono ?_); rintro q w13 ⟨rfl, bt⟩; have bt2 : Below w12.heap.size w12 w13 := (Below.refl _ _).drew.trans bt))
  have B13 := Lib.hid (B12.out.trans (bt2.mono B12.out.size))
  have R13 := Lib.hid ((bt2.block _ l3).trans R12.out)
  have S13 := Lib.hid (S12.out.below bt2)
  have z0 := (bt2.cell (p := ⟨AB, 0, none⟩) l2).trans y0
  have z1 := (bt2.cell (p := ⟨AB, 1, none⟩) l2).trans y1
  have hAR : AB ≠ w.heap.size := by have h1 := K10.out.sb; have h2 := K10.out.rs; omega
  clear x4 y0 y1 y2 bt bt2 KEEP2 TRIM
  obtain ⟨⟨r0, r1, r2, r3, r4⟩, g0, g1, g2, g3, g4⟩ := cells5 R13.out
  go_upto_region 27 with fail
  have F5 := five_at R13.out (.int .i64 s.gen) (.slice a s.regs.length cap) (.int .i64 s.typ) (.int .i64 s.holder) (.bool s.stays)
  have FC := (cells5 F5).1
  have FA : ∀ i, (five w13 w.heap.size (.int .i64 s.gen) (.slice a s.regs.length cap) (.int .i64 s.typ) (.int .i64 s.holder) (.bool s.stays)).cell? ⟨AB, i, none⟩ = w13.cell? ⟨AB, i, none⟩ := fun i => World.cell?_of_block (a := ⟨AB, i, none⟩) (five_ne hAR _ _ _ _ _)
  unfold five at FA FC
  have KD1 := Lib.hid (show w13.drew.cell? ⟨AB, 0, none⟩ = some (.int .i64 m) ∧ w13.drew.cell? ⟨AB, 1, none⟩ = some (.int .i64 e) ∧ w13.drew.cell? ⟨w.heap.size, 0, none⟩ = some (.int .i64 s.gen) ∧ w13.drew.cell? ⟨w.heap.size, 1, none⟩ = some (.slice a s.regs.length cap) ∧ w13.drew.cell? ⟨w.heap.size, 2, none⟩ = some (.int .i64 s.typ) ∧ w13.drew.cell? ⟨w.heap.size, 3, none⟩ = some (.int .i64 s.holder) ∧ w13.drew.cell? ⟨w.heap.size, 4, none⟩ = some (.bool s.stays) from ⟨drew_cell z0, drew_cell z1, drew_cell r0, drew_cell r1, drew_cell r2, drew_cell r3, drew_cell r4⟩)
  have KD2 := Lib.hid (show (((((w13.setCell ⟨w.heap.size, 0, none⟩ (.int .i64 s.gen)).setCell ⟨w.heap.size, 1, none⟩ (.slice a s.regs.length cap)).setCell ⟨w.heap.size, 2, none⟩ (.int .i64 s.typ)).setCell ⟨w.heap.size, 3, none⟩ (.int .i64 s.holder)).setCell ⟨w.heap.size, 4, none⟩ (.bool s.stays)).drew.cell? ⟨AB, 0, none⟩ = some (.int .i64 m) ∧ (((((w13.setCell ⟨w.heap.size, 0, none⟩ (.int .i64 s.gen)).setCell ⟨w.heap.size, 1, none⟩ (.slice a s.regs.length cap)).setCell ⟨w.heap.size, 2, none⟩ (.int .i64 s.typ)).setCell ⟨w.heap.size, 3, none⟩ (.int .i64 s.holder)).setCell ⟨w.heap.size, 4, none⟩ (.bool s.stays)).drew.cell? ⟨AB, 1, none⟩ = some (.int .i64 e) ∧ (((((w13.setCell ⟨w.heap.size, 0, none⟩ (.int .i64 s.gen)).setCell ⟨w.heap.size, 1, none⟩ (.slice a s.regs.length cap)).setCell ⟨w.heap.size, 2, none⟩ (.int .i64 s.typ)).setCell ⟨w.heap.size, 3, none⟩ (.int .i64 s.holder)).setCell ⟨w.heap.size, 4, none⟩ (.bool s.stays)).drew.cell? ⟨w.heap.size, 0, none⟩ = some (.int .i64 s.gen) ∧ (((((w13.setCell ⟨w.heap.size, 0, none⟩ (.int .i64 s.gen)).setCell ⟨w.heap.size, 1, none⟩ (.slice a s.regs.length cap)).setCell ⟨w.heap.size, 2, none⟩ (.int .i64 s.typ)).setCell ⟨w.heap.size, 3, none⟩ (.int .i64 s.holder)).setCell ⟨w.heap.size, 4, none⟩ (.bool s.stays)).drew.cell? ⟨w.heap.size, 1, none⟩ = some (.slice a s.regs.length cap) ∧ (((((w13.setCell ⟨w.heap.size, 0, none⟩ (.int .i64 s.gen)).setCell ⟨w.heap.size, 1, none⟩ (.slice a s.regs.length cap)).setCell ⟨w.heap.size, 2, none⟩ (.int .i64 s.typ)).setCell ⟨w.heap.size, 3, none⟩ (.int .i64 s.holder)).setCell ⟨w.heap.size, 4, none⟩ (.bool s.stays)).drew.cell? ⟨w.heap.size, 2, none⟩ = some (.int .i64 s.typ) ∧ (((((w13.setCell ⟨w.heap.size, 0, none⟩ (.int .i64 s.gen)).setCell ⟨w.heap.size, 1, none⟩ (.slice a s.regs.length cap)).setCell ⟨w.heap.size, 2, none⟩ (.int .i64 s.typ)).setCell ⟨w.heap.size, 3, none⟩ (.int .i64 s.holder)).setCell ⟨w.heap.size, 4, none⟩ (.bool s.stays)).drew.cell? ⟨w.heap.size, 3, none⟩ = some (.int .i64 s.holder) ∧ (((((w13.setCell ⟨w.heap.size, 0, none⟩ (.int .i64 s.gen)).setCell ⟨w.heap.size, 1, none⟩ (.slice a s.regs.length cap)).setCell ⟨w.heap.size, 2, none⟩ (.int .i64 s.typ)).setCell ⟨w.heap.size, 3, none⟩ (.int .i64 s.holder)).setCell ⟨w.heap.size, 4, none⟩ (.bool s.stays)).drew.cell? ⟨w.heap.size, 4, none⟩ = some (.bool s.stays) from ⟨drew_cell ((FA 0).trans z0), drew_cell ((FA 1).trans z1), drew_cell FC.1, drew_cell FC.2.1, drew_cell FC.2.2.1, drew_cell FC.2.2.2.1, drew_cell FC.2.2.2.2⟩)
  clear FA FC
  go_region_held3 (fun w' => w'.cell? ⟨AB, 0, none⟩ = some (.int .i64 m) ∧ w'.cell? ⟨AB, 1, none⟩ = some (.int .i64 e) ∧ w'.cell? ⟨w.heap.size, 0, none⟩ = some (.int .i64 s.gen) ∧ w'.cell? ⟨w.heap.size, 1, none⟩ = some (.slice a s.regs.length cap) ∧ w'.cell? ⟨w.heap.size, 2, none⟩ = some (.int .i64 s.typ) ∧ w'.cell? ⟨w.heap.size, 3, none⟩ = some (.int .i64 s.holder) ∧ w'.cell? ⟨w.heap.size, 4, none⟩ = some (.bool s.stays))
    (first | (with_reducible exact KD1.out) | (with_reducible exact KD2.out))
    (fail)
  have S14 := Lib.hid (S13.out.five (T := w.heap.size) (fun b o e => by have := FR.out b o e; have := RL.out; omega) (.int .i64 s.gen) (.slice a s.regs.length cap) (.int .i64 s.typ) (.int .i64 s.holder) (.bool s.stays))
  have B14 := Lib.hid (five_below B13.out (Nat.le_refl _) (.int .i64 s.gen) (.slice a s.regs.length cap) (.int .i64 s.typ) (.int .i64 s.holder) (.bool s.stays))
  unfold five at F5 S14 B14
  obtain ⟨w14, hw14⟩ : ∃ x, (((((w13.setCell ⟨w.heap.size, 0, none⟩ (.int .i64 s.gen)).setCell ⟨w.heap.size, 1, none⟩ (.slice a s.regs.length cap)).setCell ⟨w.heap.size, 2, none⟩ (.int .i64 s.typ)).setCell ⟨w.heap.size, 3, none⟩ (.int .i64 s.holder)).setCell ⟨w.heap.size, 4, none⟩ (.bool s.stays)) = x := ⟨_, rfl⟩
  rw [hw14] at F5 S14 B14 ⊢
  have S15 := Lib.hid (S14.out.below (Below.refl _ _).drew)
  have B15 := Lib.hid (B14.out.drew)
  clear hw14 S14 B14
  go_wp2
  refine bodyPost_ret (v := .tuple #[.int .i64 m, .int .i64 e, stV s a cap, .nilIface]) (results_look Tryz.results28 _ _ w.heap.size 37 #[.int .i64 s.gen, .slice a s.regs.length cap, .int .i64 s.typ, .int .i64 s.holder, .bool s.stays] _ (.int .i64 m) (.int .i64 e) .nilIface rfl rfl rfl rfl F5 state_row.1 rfl state_row.2) rfl ?_
  exact ⟨a, cap, rfl, S15.out, B15.out, fun b o e => by have := FR.out b o e; have := RL.out; omega⟩
end Go.Proofs.YtkedmlkbepjnfaaGreatDoor
