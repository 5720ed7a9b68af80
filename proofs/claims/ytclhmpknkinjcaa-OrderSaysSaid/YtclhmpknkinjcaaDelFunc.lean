/-
  Contract: slices.DeleteFunc at api.Reg with hold.With's first closure, on a slice of the call's own.
-/
import Derived.Test.YtclhmpknkinjcaaDel
import Derived.Test.YtclhmpknkinjcaaDelPlain
namespace Go.Proofs.Ytclhmpknkinjcaa
open Go.RowKit

theorem zeros_reg (n : Nat) : (Builtin.zeroCells #[.int .i64 0, .int .i64 0] n).toList = List.replicate (n * 2) (Value.int .i64 0) := by
  simp [Builtin.zeroCells]
  apply List.ext_getElem
  · simp
  · intro i h1 h2
    simp
    rcases (by omega : i % 2 = 0 ∨ i % 2 = 1) with e | e <;> simp [e]

/-- 'clear(s)' on pairs, in a row that is known -/
theorem run_clear_reg (w : World) (g o n c : Nat) (ty : TypeId) (cur : Array Value) (hn : 0 < n) (hg : w.heap[g]? = some (.cells cur 134 (0, 0))) (ho : o + n * 2 ≤ cur.size) :
    (Builtin.clear_ #[45] ty #[.slice (some ⟨g, o, none⟩) n c]).run Try.prog w = .ok (.tuple #[]) (w.setRow g (cur.toList.take o ++ List.replicate (n * 2) (Value.int .i64 0) ++ cur.toList.drop (o + n * 2)).toArray) := by
  have hv : ∀ w, (zeroValue 134).run Try.prog w = .ok (.agg #[.int .i64 0, .int .i64 0]) w := fun w => by kernel_rfl
  have hst := run_storeCells_at (P := Try.prog) g o 134 (List.replicate (n * 2) (Value.int .i64 0)) 0 cur w hg (by simpa using ho) (fun v hv' => by rw [List.eq_of_mem_replicate hv']; rfl)
  simp only [Nat.add_zero, List.length_replicate] at hst
  obtain ⟨m, rfl⟩ : ∃ m, n = m + 1 := ⟨n - 1, by omega⟩
  have hz := zeros_reg (m + 1)
  simp [Builtin.clear_, run_underlying Try.underlying45, hv, Value.cells, hz, hst]

theorem setCell2_heap (w : World) (g i : Nat) (cur : Array Value) (x y : Value) (hg : w.heap[g]? = some (.cells cur 134 (0, 0))) :
    ((w.setCell ⟨g, i, none⟩ x).setCell ⟨g, i + 1, none⟩ y).heap[g]? = some (.cells ((cur.setIfInBounds i x).setIfInBounds (i + 1) y) 134 (0, 0)) :=
  heap_setCell_same _ _ _ _ _ _ (heap_setCell_same _ _ _ _ _ _ hg)

theorem below_setRow' {B : Nat} {a w : World} (h : Below B a w) {g : Nat} (hg : B ≤ g) (cs : Array Value) : Below B a (w.setRow g cs) :=
  h.trans ⟨rfl, rfl, rfl, by simp, fun k hk => by simp only [World.setRow, Array.getElem?_modify]; rw [if_neg (by omega)]⟩

set_option maxHeartbeats 1000000 in
theorem deletefunc_any (l : List (Int × Int)) (v : Value) (B : Nat) (who : Int) (b o : Nat) (w : World) (hl : l.length ≤ maxLen) (hr : OwnP B w v l) (hp : w.cell? ⟨b, o, none⟩ = some (.int .i64 who)) (hbB : b < B) (hBw : B ≤ w.heap.size) :
    Calls Try.prog 117 #[v, .func (.func 119) #[] #[.pointer (some ⟨b, o, none⟩)]] w fun e w' => ∃ v', e = .returned v' ∧ OwnP B w' v' (without who l) ∧ Below B w w' := by
  have hb : b < w.heap.size := block_lt_of_cell hp
  have hr0 := hr
  obtain ⟨a, cap, hv, hpairs, _⟩ := hr.shape
  by_cases hm : ∀ r ∈ l, r.1 ≠ who
  · have hpl : placeOf who (l.map (·.1)) = -1 := placeOf_none who _ (fun hm' => by
      obtain ⟨r, hr', e⟩ := List.mem_map.1 hm'
      exact hm r hr' e)
    have hw : without who l = l := without_all who l hm
    rw [hw]
    subst hv
    clear hm
    have HP := Lib.hid hpl
    clear hpl hw
    unfold maxLen at hl
    go_enter Try.func117, Try.ntmps117
    go_wp2_with fail
    refine ((indexfunc_any l a cap who b o w (by unfold maxLen; omega) hpairs hp).mono (fun e w' h => (⟨by rw [h.1, HP.out], h.2⟩ : e = .returned (.int .i64 (-1)) ∧ Below w.heap.size w w'))).mono ?_
    rintro e w1 ⟨rfl, hb1⟩
    go_wp2
    go_ret
    refine ⟨_, rfl, ?_, hb1.mono hBw⟩
    obtain ⟨h1, h2⟩ := hr0
    refine ⟨h1, ?_⟩
    rcases h2 with h2 | ⟨g, cap', cur, e1, e2, e3, e4⟩
    · exact .inl h2
    · exact .inr ⟨g, cap', cur, e1, e2, by rw [hb1.block g ((Array.getElem?_eq_some_iff.1 e3).1)]; exact e3, e4⟩
  · obtain ⟨k0, hk0, hk0e, hk0n⟩ : ∃ k, ∃ h : k < l.length, l[k].1 = who ∧ ∀ j (_ : j < k) (hj : j < l.length), l[j].1 ≠ who := by
      clear hr hr0 hpairs hv
      induction l with
      | nil => exact absurd (fun r h => by cases h) hm
      | cons r l ih =>
        by_cases e : r.1 = who
        · exact ⟨0, by simp, e, fun j h => absurd h (by omega)⟩
        · obtain ⟨k, hk, h1, h2⟩ := ih (by simp at hl; omega) (fun h => hm (fun x hx => by
            rcases List.mem_cons.1 hx with rfl | hx
            · exact e
            · exact h x hx))
          refine ⟨k + 1, by simp; omega, by simpa using h1, fun j hj hjl => ?_⟩
          cases j with
          | zero => exact e
          | succ j => simpa using h2 j (by omega) (by simpa using hjl)
    have hpl : placeOf who (l.map (·.1)) = k0 := placeOf_at who _ k0 (by simpa using hk0) (by simpa using hk0e) (fun j hj => by simpa using hk0n j hj (by omega))
    have HP := Lib.hid hpl
    obtain ⟨h1, h2⟩ := hr0
    rcases h2 with ⟨_, h0⟩ | ⟨g, cap', cur, e1, hgB, hgh, hnc, hcm, hcs, htk⟩
    · omega
    · have hst := DInv.start hk0 hk0e hk0n htk (by omega)
      have HST := Lib.hid hst
      obtain rfl : v = .slice (some ⟨g, 0, none⟩) l.length cap' := e1
      obtain ⟨rfl, rfl⟩ : a = some ⟨g, 0, none⟩ ∧ cap = cap' := by simpa [eq_comm] using hv
      clear hpl hst hk0n hm htk h1 hr
      have HK0 := Lib.hid hk0e
      clear hk0e hv
      have hglt : g < w.heap.size := (Array.getElem?_eq_some_iff.1 hgh).1
      unfold maxLen at hl hcm
      go_enter Try.func117, Try.ntmps117
      go_wp2_with fail
      refine ((indexfunc_any l _ cap who b o w (by unfold maxLen; omega) hpairs hp).mono (fun e w' h => (⟨by rw [h.1, HP.out], h.2⟩ : e = .returned (.int .i64 k0) ∧ Below w.heap.size w w'))).mono ?_
      rintro e w1 ⟨rfl, hb1⟩
      have hk0b : ((k0 : Int) == -1) = false := by simp
      go_wp2
      go_loopw [5, 6] (fun i j wr => ∃ (k n : Nat) (cr : Array Value), k ≤ l.length ∧ j = .int .i64 k ∧ i = .int .i64 n ∧ wr.heap[g]? = some (.cells cr 134 (0, 0)) ∧ cr.size = cap * 2 ∧ DInv who l cr k n ∧ Below B w wr ∧ w.heap.size ≤ wr.heap.size) (fun _ j _ => l.length - (intOf j).toNat)
      case atStart => exact ⟨k0 + 1, k0, cur, by omega, by go_num, rfl, by rw [hb1.block g hglt]; exact hgh, hcs, HST.out, hb1.mono hBw, hb1.size⟩
      case round =>
        obtain ⟨k, n, cr, hk, rfl, rfl, hgr, hcr, hD, hbw, hsz⟩ := hrel
        have hDlt := hD.lt
        have HD := Lib.hid hD
        clear hD
        by_cases hlt : k < l.length
        · obtain ⟨r1, r2⟩ := HD.out.rest k hlt (Nat.le_refl _)
          have c1 : wr.cell? ⟨g, k * 2, none⟩ = some (.int .i64 l[k].1) := by simp [World.cell?, hgr, r1]
          have c2 : wr.cell? ⟨g, k * 2 + 1, none⟩ = some (.int .i64 l[k].2) := by simp [World.cell?, hgr, r2]
          have cp := (hbw.cell (p := ⟨b, o, none⟩) hbB).trans hp
          have cpa : ∀ ob, (wr.alloc ob).cell? ⟨b, o, none⟩ = some (.int .i64 who) := fun ob => ((bal wr ob).cell (p := ⟨b, o, none⟩) (by show b < _; omega)).trans cp
          have HG := Lib.hid hgr
          clear hgr r1 r2
          go_wp2_with fail
          refine (with1_any _ _ who b o _ (cpa _)).mono ?_
          rintro e w2 ⟨rfl, hb2⟩
          have hb3 : Below wr.heap.size wr w2 := bover hb2 (by simp)
          have hs2 := bsz hb2
          have hg2 : w2.heap[g]? = some (.cells cr 134 (0, 0)) := by rw [hb3.block g (by omega)]; exact HG.out
          have lc : ∀ j, w2.cell? ⟨wr.heap.size, j, none⟩ = (wr.alloc (.cells #[.int .i64 l[k].1, .int .i64 l[k].2] 134)).cell? ⟨wr.heap.size, j, none⟩ := fun j => hb2.cell (p := ⟨wr.heap.size, j, none⟩) (by simp)
          by_cases he : l[k].1 = who
          · have heb : (l[k].1 == who) = true := by simp [he]
            have HD' := Lib.hid (HD.out.drop hlt he)
            have HG2 := Lib.hid hg2
            clear he hg2
            go_wp2
            go_roundw
            case rel => exact ⟨k + 1, n, cr, by omega, by go_num, rfl, HG2.out, hcr, HD'.out, hbw.trans (hb3.mono (by omega)), by omega⟩
            case measure => simp [intOf]; omega
          · have heb : (l[k].1 == who) = false := by simp [he]
            have HD' := Lib.hid (HD.out.keep hlt he)
            have hcs2 := HD.out.size
            have d1 : (w2.cell? ⟨g, n * 2, none⟩) = some (cr[n * 2]'(by omega)) := by simp [World.cell?, hg2]
            have d2 : (w2.cell? ⟨g, n * 2 + 1, none⟩) = some (cr[n * 2 + 1]'(by omega)) := by simp [World.cell?, hg2]
            have d3 : w2.frozen? ⟨g, n * 2, none⟩ = false := by simp [World.frozen?, hg2]
            have d4 : w2.frozen? ⟨g, n * 2 + 1, none⟩ = false := by simp [World.frozen?, hg2]
            have HG2 := Lib.hid hg2
            clear he hg2
            go_wp2
            go_roundw
            case rel => exact ⟨k + 1, n + 1, _, by omega, by go_num, by go_num, setCell2_heap _ _ _ _ _ _ HG2.out, by simpa using hcr, HD'.out, ((hbw.trans (hb3.mono (by omega))).setCell hgB _).setCell hgB _, by simp [World.setCell]; omega⟩
            case measure => simp [intOf]; omega
        · obtain rfl : k = l.length := by omega
          obtain ⟨f1, f2⟩ := HD.out.fin
          have F1 := Lib.hid f1
          have F2 := Lib.hid f2
          clear f1 f2
          have hn2 : n * 2 + (l.length - n) * 2 ≤ cr.size := by omega
          have hcl := fun ty c => run_clear_reg wr g (n * 2) (l.length - n) c ty cr (by omega) hgr hn2
          go_wp2
          go_ret
          refine ⟨_, rfl, ?_, hbw.trans (below_setRow' (Below.refl _ _) hgB _)⟩
          refine ⟨pcells_length _, .inr ⟨g, cap, _, (by show Value.slice (some ⟨g, 0, none⟩) n cap = _; rw [← F1.out]), hgB, setRow_heap _ _ _ _ _ _ hgr, by rw [← F1.out]; omega, by unfold maxLen; omega, ?_, ?_⟩⟩
          · simp; omega
          · rw [← F1.out]
            have hl2 : (cr.toList.take (n * 2)).length = n * 2 := by simp; omega
            show List.take (n * 2) (cr.toList.take (n * 2) ++ _) = _
            rw [List.take_append_of_le_length (by omega), List.take_of_length_le (by omega)]
            exact F2.out
end Go.Proofs.Ytclhmpknkinjcaa
