/-
  Names: the walk.
-/
import Derived.Test.YtfoffeejcnlilaaDoorNum
import Derived.Deep.DeepCutAuto
import Derived.Deep.CutBlock
import Derived.OwnWalk
import Derived.WalkSpells
import Derived.Maps.AppendAt
namespace Go.Proofs.YtfoffeejcnlilaaDoor
open Go.RowKit

set_option maxRecDepth 100000 in
set_option maxHeartbeats 4000000 in
theorem err10_any (w : World) : Calls Tryd.prog 7 #[.int .i64 10] w fun e w' => e = .returned (.string ⟨#[107, 105, 115, 115, 105, 110, 103, 103, 97, 116, 101, 58, 32, 101, 114, 114, 111, 114, 32, 49, 48]⟩) ∧ Below w.heap.size w w' := by
  go_enter Tryd.func7, Tryd.ntmps7
  go_wp2
  go_ret
  exact ⟨by rfl, by repeat (first | exact Below.refl _ _ | refine Below.alloc ?_ (by simp) _)⟩

def numsA : List Int := [4, 999, 7, 8, 5, 1000000000, 1000000, 6, 40, 3, 2, 64, 40, 80, 60]
def numsB : List Int := [1, 3, 5, 6, 7, 8, 1, 2, 3, 4, 5, 6, 7, 8, 9, 1, 2, 3, 4]
def errsC : Array Value := #[.iface 23 (.int .i64 1), .iface 23 (.int .i64 2), .iface 23 (.int .i64 3), .iface 23 (.int .i64 4), .iface 23 (.int .i64 5), .iface 23 (.int .i64 6), .iface 23 (.int .i64 7), .iface 23 (.int .i64 8), .iface 23 (.int .i64 9), .iface 23 (.int .i64 10), .iface 23 (.int .i64 11)]
theorem Tryd.infoIntN : (Tryd.prog.info? 3).map (fun i => (i.zero, i.size, i.bytes)) = some (some (.int .i64 0), 1, 8) := by kernel_rfl
theorem own_start {w : World} {B b : Nat} {l : List Int} {T : TypeId} (hB : B ≤ b) (hl : l.length ≤ maxLen) (h : w.heap[b]? = some (.cells (l.map (Value.int .i64)).toArray T (0, 0))) : w.ownsRow B T 1 (.slice (some ⟨b, 0, none⟩) l.length l.length) l.length (l.map (Value.int .i64)) :=
  ⟨by simp, .inr ⟨b, l.length, (l.map (Value.int .i64)).toArray, rfl, hB, h, Nat.le_refl _, hl, by simp, by simp [List.take_of_length_le]⟩⟩
theorem own_ints {w : World} {B : Nat} {v : Value} {l : List Int} {T : TypeId} (h : w.ownsRow B T 1 v l.length (l.map (Value.int .i64))) (h0 : l ≠ []) : ∃ a c, v = .slice a l.length c ∧ Ints w.heap.size w a l := by
  obtain ⟨h1, h2⟩ := h
  rcases h2 with ⟨-, hn⟩ | ⟨g, cap, cur, rfl, hg, hh, hc, hm, hs, ht⟩
  · exact absurd (List.length_eq_zero_iff.1 hn) h0
  · refine ⟨_, cap, rfl, fun i hi => ⟨g, 0, rfl, (Array.getElem?_eq_some_iff.1 hh).1, ?_⟩⟩
    have hcell : w.cell? ⟨g, 0 + i, none⟩ = (l.map (Value.int .i64))[i]? := by
      rw [← ht, List.getElem?_take_of_lt (by omega)]
      simp [World.cell?, hh]
    rw [hcell]; simp [hi]
theorem ints_oneN (l : List Int) : ∀ u ∈ l.map (Value.int .i64), u.oneCell' = true := by
  intro u hu
  simp only [List.mem_map] at hu
  obtain ⟨r, _, h⟩ := hu
  subst h; rfl
theorem row_at {w : World} {b : Nat} {l : List Int} {T : TypeId} (h : w.heap[b]? = some (.cells (l.map (Value.int .i64)).toArray T (0, 0))) : ∀ j u, (l.map (Value.int .i64))[j]? = some u → w.cell? ((⟨b, 0, none⟩ : Addr).add j) = some u := by
  intro j u hj
  have : (⟨b, 0, none⟩ : Addr).add j = ⟨b, j, none⟩ := by unfold Addr.add; split <;> simp_all
  rw [this]
  simp only [World.cell?, h]
  simpa using hj
theorem errs_at : ∀ k : Fin 11, errsC[k.val]? = some (.iface 23 (.int .i64 ((k.val : Int) + 1))) := by
  intro k
  rcases k with ⟨k, hk⟩
  rcases (by omega : k = 0 ∨ k = 1 ∨ k = 2 ∨ k = 3 ∨ k = 4 ∨ k = 5 ∨ k = 6 ∨ k = 7 ∨ k = 8 ∨ k = 9 ∨ k = 10) with rfl | rfl | rfl | rfl | rfl | rfl | rfl | rfl | rfl | rfl | rfl <;> rfl


theorem bal' (w : World) (o : Obj) : Below w.heap.size w (w.alloc o) := (Below.refl _ _).alloc (Nat.le_refl _) _
def sumN : List Int := numsA ++ numsB
set_option maxRecDepth 100000 in
set_option maxHeartbeats 4000000 in
theorem names_walk (w : World) : Calls Tryd.prog 3 #[] w fun e w' => e = .returned (.bool true) ∧ Below w.heap.size w w' := by
  obtain ⟨i0, hi, hz0, hz1, hz2⟩ := info_parts Tryd.infoIntN
  go_enter Tryd.func3, Tryd.ntmps3
  go_upto_region 3 with fail
  obtain ⟨w2, hw2⟩ : ∃ w2, w2 = (w.alloc (.cells (numsA.map (Value.int .i64)).toArray 3)).alloc (.cells (numsA.map (Value.int .i64)).toArray 3) := ⟨_, rfl⟩
  have hA := Lib.hid (show w2.heap[w.heap.size]? = some (.cells (numsA.map (Value.int .i64)).toArray 3 (0, 0)) ∧ w2.heap[w.heap.size + 1]? = some (.cells (numsA.map (Value.int .i64)).toArray 3 (0, 0)) ∧ w2.heap.size = w.heap.size + 2 ∧ Below w.heap.size w w2 from by
    subst hw2
    refine ⟨?_, ?_, by simp, (bal' w _).alloc (by simp) _⟩
    · rw [Below.heap_alloc _ _ _ (by simp)]; exact heap_alloc_new w _
    · have := heap_alloc_new (w.alloc (.cells (numsA.map (Value.int .i64)).toArray 3)) (.cells (numsA.map (Value.int .i64)).toArray 3)
      simpa using this)
  obtain ⟨A, hAe⟩ : ∃ A : Obj, A = .cells (numsA.map (Value.int .i64)).toArray 3 := ⟨_, rfl⟩
  have hl : (Obj.cells #[.int .i64 4, .int .i64 999, .int .i64 7, .int .i64 8, .int .i64 5, .int .i64 1000000000, .int .i64 1000000, .int .i64 6, .int .i64 40, .int .i64 3, .int .i64 2, .int .i64 64, .int .i64 40, .int .i64 80, .int .i64 60] 3) = A := hAe.symm
  rw [← hAe] at hw2
  rw [hl, ← hw2]
  clear hw2 hl hAe
  have hO := Lib.hid (own_start (B := w.heap.size) (Nat.le_refl _) (by decide) hA.out.1)
  have hO' := Lib.hid (own_start (B := w.heap.size) (Nat.le_succ _) (by decide) hA.out.2.1)
  go_wp2_with (at_builtin; refine wpList_append_own_at _ rfl _ _ 22 rfl w.heap.size 3 i0 (.int .i64 0) 1 8 Tryd.underlying22 hi hz0 hz1 hz2 rfl (by decide) _ _ _ rfl (hO.out.alloc _) ⟨w2.heap.size, 0, none⟩ 19 19 (numsB.map (Value.int .i64)) rfl (by decide) (row_at (heap_alloc_new w2 _)) (ints_oneN _) ?c3 ?c4 ?c5 ?_)
  case c3 => decide
  case c4 => decide
  case c5 => have := hA.out.2.2.1; simp; omega
  intro v3 w3 own3 g3 _ loc3
  have B3 := Lib.hid (show Below w.heap.size w w3 from (hA.out.2.2.2.trans ((bal' w2 _).mono (by have := hA.out.2.2.1; omega))).grown g3 (by have := hA.out.2.2.1; simp; omega) (fun k hk => by simp [Value.ownBlock] at hk; omega))
  have O3 := Lib.hid own3
  have O3' := Lib.hid ((hO'.out.alloc _).kept g3 (.inr (by simp [Value.ownBlock])))
  have LO := Lib.hid hA.out.2.2.1
  clear own3 g3 hO hO' hA
  go_wp2_with (at_builtin; refine wpList_append_own _ rfl _ _ 22 rfl w.heap.size 3 i0 (.int .i64 0) 1 8 Tryd.underlying22 hi hz0 hz1 hz2 rfl (by decide) _ _ _ rfl (O3'.out.alloc _) ⟨w3.heap.size, 0, none⟩ 19 19 (numsB.map (Value.int .i64)) rfl (by decide) (row_at (heap_alloc_new w3 _)) (ints_oneN _) ?c3 ?c4 ?c5 ?_)
  case c3 => decide
  case c4 => decide
  case c5 => have := B3.out.size; simp; omega
  intro v4 w4 own4 g4 _
  have B4 := Lib.hid (show Below w.heap.size w w4 from (B3.out.trans ((bal' w3 _).mono B3.out.size)).grown g4 (by have := B3.out.size; simp; omega) (fun k hk => by simp [Value.ownBlock] at hk; omega))
  have O4 := Lib.hid own4
  have ne : v3.ownBlock = none ∨ v3.ownBlock ≠ (Value.slice (some ⟨w.heap.size + 1, 0, none⟩) 15 15).ownBlock := by
    rcases loc3 with e | e
    · rw [e]; right; simp [Value.ownBlock]
    · rw [e]; right; have := LO.out; simp [Value.ownBlock]; omega
  have O4' := Lib.hid ((O3.out.alloc _).kept g4 ne)
  clear own4 g4 O3 O3' ne loc3 LO
  go_wp2_with fail
  obtain ⟨w5, hw5⟩ : ∃ w5, w5 = w4.alloc (.cells errsC 27) := ⟨_, rfl⟩
  have E5 := Lib.hid (show w5.heap[w4.heap.size]? = some (.cells errsC 27 (0, 0)) from by rw [hw5]; exact heap_alloc_new w4 _)
  have B5 := Lib.hid (show Below w.heap.size w w5 from by rw [hw5]; exact B4.out.trans ((bal' w4 _).mono B4.out.size))
  have O5 := Lib.hid (show w5.ownsRow w.heap.size 3 1 v4 sumN.length (sumN.map (Value.int .i64)) from by rw [hw5]; have := O4.out.alloc (.cells errsC 27); simpa [sumN, numsA, numsB] using this)
  have O5' := Lib.hid (show w5.ownsRow w.heap.size 3 1 v3 sumN.length (sumN.map (Value.int .i64)) from by rw [hw5]; have := O4'.out.alloc (.cells errsC 27); simpa [sumN, numsA, numsB] using this)
  have hw5' : w4.alloc (.cells #[.iface 23 (.int .i64 1), .iface 23 (.int .i64 2), .iface 23 (.int .i64 3), .iface 23 (.int .i64 4), .iface 23 (.int .i64 5), .iface 23 (.int .i64 6), .iface 23 (.int .i64 7), .iface 23 (.int .i64 8), .iface 23 (.int .i64 9), .iface 23 (.int .i64 10), .iface 23 (.int .i64 11)] 27) = w5 := hw5.symm
  rw [hw5']
  have LT := Lib.hid (show w4.heap.size < w5.heap.size from by rw [hw5]; simp)
  clear hw5 hw5' O4 O4' B4
  obtain ⟨a4, c4, rfl, i4⟩ := own_ints O5.out (by decide)
  obtain ⟨a3, c3, rfl, i3⟩ := own_ints O5'.out (by decide)
  have I4 := Lib.hid i4
  have I3 := Lib.hid i3
  clear i4 i3 O5 O5'
  obtain ⟨b, hb⟩ : ∃ b, b = w4.heap.size := ⟨_, rfl⟩
  rw [← hb] at E5 LT ⊢
  clear hb
  go_loopw [4] (fun i wr => ∃ k : Nat, k ≤ 11 ∧ i = .int .i64 k ∧ Below w5.heap.size w5 wr) (fun i _ => (11 - intOf i).toNat)
  case atStart => exact ⟨0, by omega, rfl, Below.refl _ _⟩
  case round =>
    obtain ⟨k, hk, rfl, hbw⟩ := hrel
    have HB := Lib.hid hbw
    by_cases hlt : k < 11
    · have c1 : wr.cell? ⟨b, k, none⟩ = some (.iface 23 (.int .i64 ((k : Int) + 1))) := by
        rw [hbw.cell (p := ⟨b, k, none⟩) LT.out]
        simp only [World.cell?, E5.out]
        exact errs_at ⟨k, hlt⟩
      have e1 : errV ((k : Int) + 1) = .iface 23 (.int .i64 ((k : Int) + 1)) := errV_some (by omega)
      have HS := Lib.hid (show ∀ w, Calls Tryd.prog 5 #[.iface 23 (.int .i64 ((k : Int) + 1)), .int .i64 ((k : Int) + 1)] w fun e w' => e = .returned (.bool true) ∧ Below w.heap.size w w' from fun w => (e1 ▸ same_any ((k : Int) + 1) ((k : Int) + 1) w (by omega) (by omega)).mono fun e w' ⟨h1, h2⟩ => ⟨by rw [h1]; simp, h2⟩)
      clear hbw e1
      go_wp2_with ((with_reducible refine (HS.out _).mono ?_); rintro e w6 ⟨rfl, b6⟩)
      have HB6 := Lib.hid (HB.out.trans (b6.mono HB.out.size))
      clear b6 HB
      go_wp2
      go_roundw
      case rel => exact ⟨k + 1, by omega, by go_num, HB6.out⟩
      case measure => simp [intOf]; omega
    · obtain rfl : k = 11 := by omega
      clear hbw
      go_wp2_with fail
      have hS := samenumbers_any sumN sumN a3 a4 c3 c4 wr (by decide) (by decide) ((I3.out.below HB.out (Nat.le_refl _)).mono HB.out.size) ((I4.out.below HB.out (Nat.le_refl _)).mono HB.out.size)
      rw [decide_eq_true (rfl : sumN = sumN)] at hS
      refine hS.mono ?_
      rintro e w6 ⟨rfl, b6⟩
      have HB6 := Lib.hid (HB.out.trans (b6.mono HB.out.size))
      have HE := Lib.hid (fun w => err10_any w)
      clear b6 HB hS
      go_wp2_with ((with_reducible refine (HE.out _).mono ?_); rintro e w7 ⟨rfl, b7⟩)
      go_ret
      have hz := b7.size
      exact ⟨by rfl, B5.out.trans ((HB6.out.trans (b7.mono (by have := HB6.out.size; omega))).mono B5.out.size)⟩
end Go.Proofs.YtfoffeejcnlilaaDoor
