/-
  Contract of the document's NewDisk.
-/
import Derived.Test.YtclhmpknkinjcaaRDiskF
namespace Go.Proofs.Ytclhmpknkinjcaa
open Go.RowKit

theorem fullB_nil : fullB ⟨#[]⟩ = zerosB 64 := by decide +kernel
/-- a disk that is being made: i sectors kept, j now -/
structure ND (w : World) (Z : ByteArray) (D i j : Nat) (v1 v2 : Value) (wx : World) : Prop where
  below : Below w.heap.size w wx
  lo : w.heap.size ≤ D
  blk : wx.heap[D]? = some (.cells #[v1, v2, .slice none 0 0, .int .i64 (-1), .bool false] 95 (0, 0))
  o1 : wx.ownsRow (D + 1) 9 1 v1 i (strs (List.replicate i Z))
  o2 : wx.ownsRow (D + 1) 9 1 v2 j (strs (List.replicate j Z))
  ne : ∀ b, v1.ownBlock = some b → v2.ownBlock ≠ some b
theorem ND.lt {w wx : World} {Z : ByteArray} {D i j : Nat} {v1 v2 : Value} (f : ND w Z D i j v1 v2 wx) : D < wx.heap.size := (Array.getElem?_eq_some_iff.1 f.blk).1
theorem ND.over {w wx w' : World} {Z : ByteArray} {D i j : Nat} {v1 v2 : Value} (f : ND w Z D i j v1 v2 wx) (b : Below wx.heap.size wx w') : ND w Z D i j v1 v2 w' :=
  ⟨f.below.trans (b.mono f.below.size), f.lo, (b.block _ f.lt).trans f.blk, own_move f.o1 (fun k hk => b.block k (own_lt f.o1 hk)), own_move f.o2 (fun k hk => b.block k (own_lt f.o2 hk)), f.ne⟩
theorem ND.cells {w wx : World} {Z : ByteArray} {D i j : Nat} {v1 v2 : Value} (f : ND w Z D i j v1 v2 wx) : wx.cell? ⟨D, 0, none⟩ = some v1 ∧ wx.cell? ⟨D, 1, none⟩ = some v2 ∧ wx.frozen? ⟨D, 0, none⟩ = false ∧ wx.frozen? ⟨D, 1, none⟩ = false := by
  simp [World.cell?, World.frozen?, f.blk]
theorem own_ge1 {w : World} {B : Nat} {e : TypeId} {s : Nat} {v : Value} {n : Nat} {xs : List Value} (h : w.ownsRow B e s v n xs) {k : Nat} (hk : v.ownBlock = some k) : B ≤ k := by
  rcases h.2 with ⟨rfl, -⟩ | ⟨g, cap, cur, rfl, hB, -⟩
  · cases hk
  · obtain rfl : g = k := by simpa [Value.ownBlock] using hk
    exact hB
theorem strs_rep (i : Nat) (Z : ByteArray) : strs (List.replicate i Z) ++ [.string Z] = strs (List.replicate (i + 1) Z) := by
  simp [strs, List.replicate_succ']
section
variable {w wx w6 : World} {Z : ByteArray} {D i j g6 cap6 : Nat} {v1 v2 : Value} {o : Obj}
theorem ND.put1 (f : ND w Z D i j v1 v2 wx) (hown : w6.ownsRow (D + 1) 9 1 (.slice (some ⟨g6, 0, none⟩) (i + 1) cap6) (i + 1) (strs (List.replicate i Z) ++ [.string Z]))
    (hg : (wx.alloc o).grownBy w6 v1.ownBlock) (hat : v1.ownBlock = some g6 ∨ g6 = wx.heap.size + 1) :
    ND w Z D (i + 1) j (.slice (some ⟨g6, 0, none⟩) (i + 1) cap6) v2 (w6.setCell ⟨D, 0, none⟩ (.slice (some ⟨g6, 0, none⟩) (i + 1) cap6)) := by
  have hD := f.lt
  rw [strs_rep] at hown
  have k6 : Keeps (fun b => v1.ownBlock = some b) wx w6 := ⟨hg.os, hg.tape, hg.output, Nat.le_trans (by simp) hg.size, fun b hb hl => (hg.block b (by simp; omega) (Ne.symm hb)).trans (Below.heap_alloc _ _ _ hl)⟩
  have v1D : v1.ownBlock ≠ some D := fun e => by have := own_ge1 f.o1 e; omega
  have ob : ∀ b, b ≠ D → (w6.setCell ⟨D, 0, none⟩ (.slice (some ⟨g6, 0, none⟩) (i + 1) cap6)).heap[b]? = w6.heap[b]? := fun b hb => Below.heap_setCell _ _ _ _ hb
  have gD : D + 1 ≤ g6 := own_ge1 hown rfl
  refine ⟨?_, f.lo, block_setCell ((k6.block D v1D hD).trans f.blk) _, own_move hown (fun b hb => ob b ?_), own_move f.o2 (fun b hb => ?_), ?_⟩
  · refine f.below.trans ((k6.mono (T := fun b => w.heap.size ≤ b) (fun b hb => ?_)).setCell (p := ⟨D, 0, none⟩) f.lo _ |>.below f.below.size (fun b hb => hb))
    have := own_ge1 f.o1 hb
    have := f.lo
    omega
  · obtain rfl : g6 = b := by simpa [Value.ownBlock] using hb
    omega
  · have h1 := own_ge1 f.o2 hb
    exact (ob b (by omega)).trans (k6.block b (fun e => f.ne b e hb) (own_lt f.o2 hb))
  · intro b hb e
    obtain rfl : g6 = b := by simpa [Value.ownBlock] using hb
    rcases hat with h | h
    · exact f.ne _ h e
    · have := own_lt f.o2 e; omega
theorem ND.put2 (f : ND w Z D i j v1 v2 wx) (hown : w6.ownsRow (D + 1) 9 1 (.slice (some ⟨g6, 0, none⟩) (j + 1) cap6) (j + 1) (strs (List.replicate j Z) ++ [.string Z]))
    (hg : (wx.alloc o).grownBy w6 v2.ownBlock) (hat : v2.ownBlock = some g6 ∨ g6 = wx.heap.size + 1) :
    ND w Z D i (j + 1) v1 (.slice (some ⟨g6, 0, none⟩) (j + 1) cap6) (w6.setCell ⟨D, 1, none⟩ (.slice (some ⟨g6, 0, none⟩) (j + 1) cap6)) := by
  have hD := f.lt
  rw [strs_rep] at hown
  have k6 : Keeps (fun b => v2.ownBlock = some b) wx w6 := ⟨hg.os, hg.tape, hg.output, Nat.le_trans (by simp) hg.size, fun b hb hl => (hg.block b (by simp; omega) (Ne.symm hb)).trans (Below.heap_alloc _ _ _ hl)⟩
  have v1D : v2.ownBlock ≠ some D := fun e => by have := own_ge1 f.o2 e; omega
  have ob : ∀ b, b ≠ D → (w6.setCell ⟨D, 1, none⟩ (.slice (some ⟨g6, 0, none⟩) (j + 1) cap6)).heap[b]? = w6.heap[b]? := fun b hb => Below.heap_setCell _ _ _ _ hb
  have gD : D + 1 ≤ g6 := own_ge1 hown rfl
  refine ⟨?_, f.lo, block_setCell ((k6.block D v1D hD).trans f.blk) _, own_move f.o1 (fun b hb => ?_), own_move hown (fun b hb => ob b ?_), ?_⟩
  · refine f.below.trans ((k6.mono (T := fun b => w.heap.size ≤ b) (fun b hb => ?_)).setCell (p := ⟨D, 1, none⟩) f.lo _ |>.below f.below.size (fun b hb => hb))
    have := own_ge1 f.o2 hb
    have := f.lo
    omega
  · have h1 := own_ge1 f.o1 hb
    exact (ob b (by omega)).trans (k6.block b (fun e => f.ne b hb e) (own_lt f.o1 hb))
  · obtain rfl : g6 = b := by simpa [Value.ownBlock] using hb
    omega
  · intro b hb e
    obtain rfl : g6 = b := by simpa [Value.ownBlock] using e
    rcases hat with h | h
    · exact f.ne _ hb h
    · have := own_lt f.o1 hb; omega
theorem ND.done {n : Nat} (f : ND w Z D n n v1 v2 wx) (hn : 1 ≤ n) (hZ : Z = fullB ⟨#[]⟩) : DkAt (made w wx) wx 95 150 D n (Dk.new n) := by
  obtain ⟨K, ck, rfl, hK, hck, rk⟩ := own_rowS f.o1 hn
  obtain ⟨N, cn, rfl, hN, hcn, rn⟩ := own_rowS f.o2 hn
  have := f.lo
  have := f.lt
  subst hZ
  exact ⟨K, N, ck, cn, .slice none 0 0, ⟨f.blk, rk, rn, World.ownsRow_nil _ _ _ _, by omega, by omega, fun e => f.ne K rfl (e ▸ rfl), (fun e => by cases e), (fun e => by cases e), (fun e => by cases e), hck, hcn⟩, ⟨f.lo, f.lt⟩, ⟨by omega, rk.lt⟩, ⟨by omega, rn.lt⟩, fun b hb => by cases hb⟩
end

set_option maxRecDepth 100000 in
theorem rnew_bad (n : Int) (w : World) (hn : n < 1 ∨ 40 < n) :
    Calls Try.prog 41 #[.int .i64 n] w fun e w' => e = .returned (.tuple #[.pointer none, .int .i64 1]) ∧ w' = w := by
  by_cases h1 : n < 1
  · clear hn
    go_enter Try.func41, Try.ntmps41
    go_wp2
    exact bodyPost_ret (v := .tuple #[.pointer none, .int .i64 1]) (by simp [results, Try.results41, go_sem]) rfl ⟨rfl, rfl⟩
  · have h2 : 40 < n := by omega
    clear hn
    go_enter Try.func41, Try.ntmps41
    go_wp2
    exact bodyPost_ret (v := .tuple #[.pointer none, .int .i64 1]) (by simp [results, Try.results41, go_sem]) rfl ⟨rfl, rfl⟩

set_option maxRecDepth 100000 in
set_option maxHeartbeats 1000000 in
theorem rnew_any (n : Nat) (w : World) (hn : 1 ≤ n ∧ n ≤ 40) :
    Calls Try.prog 41 #[.int .i64 n] w fun e w' => ∃ D, e = .returned (.tuple #[.pointer (some ⟨D, 0, none⟩), .int .i64 0]) ∧ DkAt (made w w') w' 95 150 D n (Dk.new n) ∧ Below w.heap.size w w' := by
  have HN := Lib.hid hn
  have q1 : decide ((n : Int) < 1) = false := by rw [decide_eq_false_iff_not]; omega
  have q2 : decide ((40 : Int) < (n : Int)) = false := by rw [decide_eq_false_iff_not]; omega
  obtain ⟨Z, hZ⟩ : ∃ Z, zerosB 64 = Z := ⟨_, rfl⟩
  have NO := Lib.hid (show ∀ w, Calls Try.prog 81 #[.int .i64 64] w fun e w' => e = .returned (.string Z) ∧ Below w.heap.size w w' from fun w => hZ ▸ noughts_any 64 w (Nat.le_refl _))
  have HZ := Lib.hid (show Z = fullB ⟨#[]⟩ from by rw [fullB_nil]; exact hZ.symm)
  obtain ⟨i0, hi, hz0, hz1, hz2⟩ := info_parts infoStr
  have N0 := Lib.hid (show ND w Z w.heap.size 0 0 (.slice none 0 0) (.slice none 0 0) (w.alloc (.cells #[.slice none 0 0, .slice none 0 0, .slice none 0 0, .int .i64 (-1), .bool false] 95)) from
    ⟨bal w _, Nat.le_refl _, heap_alloc_new w _, World.ownsRow_nil _ _ _ _, World.ownsRow_nil _ _ _ _, fun b hb => by cases hb⟩)
  clear hn hZ
  go_enter Try.func41, Try.ntmps41
  go_wp2
  go_loopw [5, 14] (fun i _ wr => ∃ (k : Nat) (v1 v2 : Value), k ≤ n ∧ i = .int .i64 k ∧ ND w Z w.heap.size k k v1 v2 wr) (fun i _ _ => n - (intOf i).toNat)
  case atStart => exact ⟨0, _, _, by omega, rfl, N0.out⟩
  case round =>
    obtain ⟨k, v1, v2, hk, rfl, nd⟩ := hrel
    have NN := Lib.hid nd
    obtain ⟨c0, -, f0, -⟩ := nd.cells
    clear nd N0
    by_cases hlt : k < n
    · have hn40 : n ≤ 40 := HN.out.2
      go_upto_region 7 with fail
      go_cut [19] (fun _ wx => ∃ v1', ND w Z w.heap.size (k + 1) k v1' v2 wx)
      case first =>
        have CF := Lib.hid (show ∀ w3, Below wr.drew.heap.size wr.drew w3 → ND w Z w.heap.size k k v1 v2 w3 ∧ w3.cell? ⟨w.heap.size, 0, none⟩ = some v1 ∧ ∀ o, (w3.alloc o).cell? ⟨w.heap.size, 0, none⟩ = some v1 from fun w3 b3 => by
          have f := NN.out.over ((Below.refl _ _).drew.trans b3)
          exact ⟨f, f.cells.1, fun o => (World.cell?_alloc_some _ _ _ (by rw [f.cells.1]; rfl)).trans f.cells.1⟩)
        have AT6 := Lib.hid (show ∀ (w3 : World) (o : Obj) (w6 : World), ND w Z w.heap.size k k v1 v2 w3 → (w3.alloc o).grownBy w6 v1.ownBlock → w6.cell? ⟨w.heap.size, 0, none⟩ = some v1 ∧ w6.frozen? ⟨w.heap.size, 0, none⟩ = false from fun w3 o w6 f hg => by
          have hb : w6.heap[w.heap.size]? = w3.heap[w.heap.size]? := (hg.block w.heap.size (by have := f.lt; simp; omega) (fun e => by have := own_ge1 f.o1 e.symm; omega)).trans (Below.heap_alloc _ _ _ f.lt)
          simp [World.cell?, World.frozen?, hb, f.blk])
        go_region_law (first
          | (refine step_append_lies _ (by rfl) _ _ _ (by rfl) (w.heap.size + 1) 9 i0 _ 1 16 Try.underlying92 hi hz0 hz1 hz2 rfl (by omega) v1 k (strs (List.replicate k Z)) (by rfl) (World.ownsRow.alloc N3.out.o1 _) ⟨w3.heap.size, 0, none⟩ 1 1 [.string Z] (by rfl) (by rfl) (World.news_of_block (heap_alloc_new _ _)) (strs_one [Z]) (by omega) (by unfold maxLen; omega) (by omega) (by have := N3.out.lt; simp; omega) _ rfl ?_; intro g6 cap6 w6 hown6 hgrow6 hat6 hlt6; have kd6 := (AT6.out _ _ _ N3.out hgrow6).1; have fd6 := (AT6.out _ _ _ N3.out hgrow6).2)
          | (go_simp; go_at_call 81; (with_reducible refine (NO.out _).mono ?_); rintro e w3 ⟨rfl, b3⟩; have N3 := Lib.hid (CF.out w3 b3).1; have x3 := (CF.out w3 b3).2.1; have y3 := (CF.out w3 b3).2.2))
        all_goals
          have FIN := Lib.hid (N3.out.put1 hown6 hgrow6 (hat6.imp id (fun h => h.trans (by simp))))
          clear hown6 hgrow6 hat6 hlt6 x3 y3
          go_wp2
          go_meet
          exact ⟨_, FIN.out⟩
      case rest =>
        obtain ⟨v1', nd⟩ := hcut
        obtain ⟨w7, rfl⟩ : ∃ w7 : World, w7 = wc := ⟨_, rfl⟩
        clear c0 f0 NN
        have N7 := Lib.hid nd
        obtain ⟨-, c1, -, f1⟩ := nd.cells
        clear nd
        go_wp2
        have CF := Lib.hid (show ∀ w3, Below w7.drew.heap.size w7.drew w3 → ND w Z w.heap.size (k + 1) k v1' v2 w3 ∧ w3.cell? ⟨w.heap.size, 1, none⟩ = some v2 ∧ ∀ o, (w3.alloc o).cell? ⟨w.heap.size, 1, none⟩ = some v2 from fun w3 b3 => by
          have f := N7.out.over ((Below.refl _ _).drew.trans b3)
          exact ⟨f, f.cells.2.1, fun o => (World.cell?_alloc_some _ _ _ (by rw [f.cells.2.1]; rfl)).trans f.cells.2.1⟩)
        have AT6 := Lib.hid (show ∀ (w3 : World) (o : Obj) (w6 : World), ND w Z w.heap.size (k + 1) k v1' v2 w3 → (w3.alloc o).grownBy w6 v2.ownBlock → w6.cell? ⟨w.heap.size, 1, none⟩ = some v2 ∧ w6.frozen? ⟨w.heap.size, 1, none⟩ = false from fun w3 o w6 f hg => by
          have hb : w6.heap[w.heap.size]? = w3.heap[w.heap.size]? := (hg.block w.heap.size (by have := f.lt; simp; omega) (fun e => by have := own_ge1 f.o2 e.symm; omega)).trans (Below.heap_alloc _ _ _ f.lt)
          simp [World.cell?, World.frozen?, hb, f.blk])
        go_region_law (first
          | (refine step_append_lies _ (by rfl) _ _ _ (by rfl) (w.heap.size + 1) 9 i0 _ 1 16 Try.underlying92 hi hz0 hz1 hz2 rfl (by omega) v2 k (strs (List.replicate k Z)) (by rfl) (World.ownsRow.alloc N3.out.o2 _) ⟨w3.heap.size, 0, none⟩ 1 1 [.string Z] (by rfl) (by rfl) (World.news_of_block (heap_alloc_new _ _)) (strs_one [Z]) (by omega) (by unfold maxLen; omega) (by omega) (by have := N3.out.lt; simp; omega) _ rfl ?_; intro g6 cap6 w6 hown6 hgrow6 hat6 hlt6; have kd6 := (AT6.out _ _ _ N3.out hgrow6).1; have fd6 := (AT6.out _ _ _ N3.out hgrow6).2)
          | (go_simp; go_at_call 81; (with_reducible refine (NO.out _).mono ?_); rintro e w3 ⟨rfl, b3⟩; have N3 := Lib.hid (CF.out w3 b3).1; have x3 := (CF.out w3 b3).2.1; have y3 := (CF.out w3 b3).2.2))
        all_goals
          have FIN := Lib.hid (N3.out.put2 hown6 hgrow6 (hat6.imp id (fun h => h.trans (by simp))))
          clear hown6 hgrow6 hat6 hlt6 x3 y3
          go_wp2
          go_roundw
          case rel => exact ⟨k + 1, v1', _, by omega, by go_num, FIN.out⟩
          case measure => simp [intOf]; omega
    · obtain rfl : k = n := by omega
      clear hlt hk
      have FIN := Lib.hid (NN.out.done HN.out.1 HZ.out)
      go_wp2
      exact bodyPost_ret (v := .tuple #[.pointer (some ⟨w.heap.size, 0, none⟩), .int .i64 0]) (by simp [results, Try.results41, go_sem]) rfl ⟨_, rfl, FIN.out, NN.out.below⟩
end Go.Proofs.Ytclhmpknkinjcaa
