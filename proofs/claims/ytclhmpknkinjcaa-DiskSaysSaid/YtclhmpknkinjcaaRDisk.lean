/-
  Contracts of the document's disk: Read, Write, Flush.
-/
import Derived.Test.YtclhmpknkinjcaaDiskN
import Derived.Deep.CutBlock
namespace Go.Proofs.Ytclhmpknkinjcaa
open Go.RowKit

set_option maxRecDepth 100000 in
theorem rread_any (S : Nat → Prop) (w : World) (D n : Nat) (d : Dk) (p : Int) (h : DkAt S w 95 150 D n d) (ok : d.ok n) :
    Calls Try.prog 47 #[.pointer (some ⟨D, 0, none⟩), .int .i64 p] w fun e w' => e = .returned (.tuple #[.string (d.readS n p), .int .i64 (d.readF n p)]) ∧ w' = w := by
  obtain ⟨K, N, ck, cn, wv, r, -⟩ := h
  have R := Lib.hid r
  obtain ⟨⟨c0, c1, c2, c3, c4⟩, f0, f1, f2, f3, f4⟩ := r.cells
  have NL := Lib.hid ok.nl
  clear r ok
  obtain ⟨kept, now, wait, f, b⟩ := d
  dsimp only at c3 c4
  cases b
  · by_cases h1 : p < 0
    · rw [show Dk.readF n ⟨kept, now, wait, f, false⟩ p = 1 from (if_neg (by simp)).trans (if_pos (.inl h1)), show Dk.readS n ⟨kept, now, wait, f, false⟩ p = ⟨#[]⟩ from (if_neg (by simp)).trans (if_pos (.inl h1))]
      go_enter Try.func47, Try.ntmps47
      go_wp2
      exact bodyPost_ret (v := .tuple #[.string ⟨#[]⟩, .int .i64 1]) (by simp [results, Try.results47, go_sem]) rfl ⟨rfl, rfl⟩
    by_cases h2 : (n : Int) ≤ p
    · rw [show Dk.readF n ⟨kept, now, wait, f, false⟩ p = 1 from (if_neg (by simp)).trans (if_pos (.inr h2)), show Dk.readS n ⟨kept, now, wait, f, false⟩ p = ⟨#[]⟩ from (if_neg (by simp)).trans (if_pos (.inr h2))]
      go_enter Try.func47, Try.ntmps47
      go_wp2
      exact bodyPost_ret (v := .tuple #[.string ⟨#[]⟩, .int .i64 1]) (by simp [results, Try.results47, go_sem]) rfl ⟨rfl, rfl⟩
    obtain ⟨k, rfl⟩ : ∃ k : Nat, p = k := ⟨p.toNat, by omega⟩
    have hk : k < now.length := by have : now.length = n := NL.out; omega
    obtain ⟨X, hX⟩ : ∃ X, now[k] = X := ⟨_, rfl⟩
    have kn : w.cell? ⟨N, k, none⟩ = some (.string X) := hX ▸ (R.out.now.cell (i := k) hk).1
    rw [show Dk.readF n ⟨kept, now, wait, f, false⟩ k = 0 from (if_neg (by simp)).trans (if_neg (by omega)), show Dk.readS n ⟨kept, now, wait, f, false⟩ k = X from (if_neg (by simp)).trans ((if_neg (by omega)).trans (by rw [← hX]; simp [hk]))]
    have q1 : decide ((k : Int) < 0) = false := by rw [decide_eq_false_iff_not]; omega
    have q2 : decide (n ≤ k) = false := by rw [decide_eq_false_iff_not]; omega
    have hkn : (k : Int) < (n : Int) := by omega
    have hk0 : (0 : Int) ≤ (k : Int) := by omega
    clear h1 h2 hX hk
    go_enter Try.func47, Try.ntmps47
    go_wp2
    exact bodyPost_ret (v := .tuple #[.string X, .int .i64 0]) (by simp [results, Try.results47, go_sem]) rfl ⟨rfl, rfl⟩
  · go_enter Try.func47, Try.ntmps47
    go_wp2
    exact bodyPost_ret (v := .tuple #[.string ⟨#[]⟩, .int .i64 10]) (by simp [results, Try.results47, go_sem]) rfl ⟨rfl, rfl⟩

theorem rwrite_fin {S : Nat → Prop} {w w5 w6 : World} {T Tt : TypeId} {D K N ck cn n k g6 cap6 : Nat} {wv : Value} {d5 : Dk} {F : ByteArray} {o : Obj} (r : DkR w5 T Tt D K N ck cn wv n d5) (k5 : Keeps S w w5)
    (s1 : S D) (s2 : S K) (s3 : S N) (s4 : ∀ k, wv.ownBlock = some k → S k)
    (hown : w6.ownsRow 0 Tt 2 (.slice (some ⟨g6, 0, none⟩) (d5.wait.length + 1) cap6) (d5.wait.length + 1) (wcells d5.wait ++ [.int .i64 k, .string F]))
    (hg : (w5.alloc o).grownBy w6 wv.ownBlock) (hat : wv.ownBlock = some g6 ∨ g6 = (w5.alloc o).heap.size) (hlt : g6 < w6.heap.size) (w' : World) (hw : w' = w6.setCell ⟨D, 2, none⟩ (.slice (some ⟨g6, 0, none⟩) (d5.wait.length + 1) cap6)) :
    DkAt (grow S w w') w' T Tt D n { d5 with wait := d5.wait ++ [(k, F)] } ∧ Keeps S w w' := by
  subst hw
  have e : wcells d5.wait ++ [.int .i64 k, .string F] = wcells (d5.wait ++ [(k, F)]) := by rw [wcells_append]; rfl
  rw [e] at hown
  have k6 : Keeps (fun b => wv.ownBlock = some b) w5 w6 := ⟨hg.os, hg.tape, hg.output, Nat.le_trans (by simp) hg.size, fun b hb hl => (hg.block b (by simp; omega) (Ne.symm hb)).trans (Below.heap_alloc _ _ _ hl)⟩
  have kk : Keeps S w (w6.setCell ⟨D, 2, none⟩ (.slice (some ⟨g6, 0, none⟩) (d5.wait.length + 1) cap6)) := (k5.trans (k6.mono s4)).setCell (p := ⟨D, 2, none⟩) s1 _
  refine ⟨⟨K, N, ck, cn, _, r.setW (by simp) hown k6 ?_, .inl s1, .inl s2, .inl s3, ?_⟩, kk⟩
  · intro b hb
    obtain rfl : g6 = b := by simpa [Value.ownBlock] using hb
    rcases hat with h | h
    · exact .inl h
    · right; rw [h]; simp
  · intro b hb
    obtain rfl : g6 = b := by simpa [Value.ownBlock] using hb
    rcases hat with h | h
    · exact .inl (s4 _ h)
    · right
      refine ⟨?_, by simpa [World.setCell] using hlt⟩
      rw [h]
      have := k5.size
      simp
      omega

theorem infoRTurn : (Try.prog.info? 150).map (fun i => (i.zero, i.size, i.bytes)) = some (some (.agg #[.int .i64 0, .string ByteArray.empty]), 2, 24) := by kernel_rfl

set_option maxRecDepth 100000 in
set_option maxHeartbeats 1000000 in
theorem rwrite_any (S : Nat → Prop) (w : World) (D n : Nat) (d : Dk) (p : Int) (s : ByteArray) (h : DkAt S w 95 150 D n d) (ok : d.ok n) (hwl : d.wait.length ≤ 1000) :
    Calls Try.prog 45 #[.pointer (some ⟨D, 0, none⟩), .int .i64 p, .string s] w fun e w' => e = .returned (.int .i64 (d.writeF n p s)) ∧ DkAt (grow S w w') w' 95 150 D n (d.write n p s) ∧ Keeps S w w' := by
  obtain ⟨K, N, ck, cn, wv, r, s1, s2, s3, s4⟩ := h
  have R := Lib.hid r
  obtain ⟨⟨c0, c1, c2, c3, c4⟩, f0, f1, f2, f3, f4⟩ := r.cells
  have OK := Lib.hid ok
  have S1 := Lib.hid s1
  have S2 := Lib.hid s2
  have S3 := Lib.hid s3
  have S4 := Lib.hid s4
  have same : ∀ (w' : World), Below w.heap.size w w' → DkAt (grow S w w') w' 95 150 D n d := fun w' b => ⟨K, N, ck, cn, wv, R.out.below b, .inl S1.out, .inl S2.out, .inl S3.out, fun k hk => .inl (S4.out k hk)⟩
  have SAME := Lib.hid same
  clear r s1 s2 s3 s4 same ok
  by_cases h1 : p < 0
  · have e1 : d.writeF n p s = 1 := if_pos (.inl h1)
    have e2 : d.write n p s = d := if_pos (.inl h1)
    rw [e1, e2]
    clear e1 e2
    go_enter Try.func45, Try.ntmps45
    go_wp2
    go_ret
    exact ⟨rfl, SAME.out _ (Below.refl _ _), Keeps.refl _ _⟩
  by_cases h2 : (n : Int) ≤ p
  · have e1 : d.writeF n p s = 1 := if_pos (.inr (.inl h2))
    have e2 : d.write n p s = d := if_pos (.inr (.inl h2))
    rw [e1, e2]
    clear e1 e2
    go_enter Try.func45, Try.ntmps45
    go_wp2
    go_ret
    exact ⟨rfl, SAME.out _ (Below.refl _ _), Keeps.refl _ _⟩
  by_cases h3 : (64 : Int) < s.size
  · have e1 : d.writeF n p s = 1 := if_pos (.inr (.inr (by omega)))
    have e2 : d.write n p s = d := if_pos (.inr (.inr (by omega)))
    rw [e1, e2]
    clear e1 e2
    go_enter Try.func45, Try.ntmps45
    go_wp2
    go_ret
    exact ⟨rfl, SAME.out _ (Below.refl _ _), Keeps.refl _ _⟩
  have hno : ¬ (p < 0 ∨ n ≤ p ∨ 64 < s.size) := by omega
  have e1 : d.writeF n p s = if d.steps then 0 else 10 := if_neg hno
  have e2 : d.write n p s = if d.steps then { d.step with now := d.now.set p.toNat (fullB s), wait := d.wait ++ [(p.toNat, fullB s)] } else d.step := if_neg hno
  rw [e1, e2]
  clear e1 e2 hno
  obtain ⟨m, hm⟩ : ∃ m, 64 - s.size = m := ⟨_, rfl⟩
  have HM := Lib.hid (show m ≤ 64 by omega)
  have HF := Lib.hid (show s ++ zerosB m = fullB s from by rw [← hm]; rfl)
  have q0 : IntKind.i64.wrap (64 - (s.size : Int)) = (m : Int) := by rw [IntWalk.i64_in _ (by omega)]; omega
  have q9 : 64 - (s.size : Int) = (m : Int) := by omega
  have hadd := fun w => run_string_add_sum (P := Try.prog) w s (zerosB m) (by rw [zerosB_size]; omega)
  obtain ⟨k, rfl⟩ : ∃ k : Nat, p = k := ⟨p.toNat, by omega⟩
  have HK := Lib.hid (show k < n by omega)
  have STEP := Lib.hid (rstep_any w D K N ck cn n wv d R.out ⟨OK.out.fu, OK.out.fm⟩)
  obtain ⟨W, hW⟩ : ∃ W, d.wait.length = W := ⟨_, rfl⟩
  have HWL := Lib.hid (show W ≤ 1000 by omega)
  have HW := Lib.hid hW
  have q1 : decide ((k : Int) < 0) = false := by rw [decide_eq_false_iff_not]; omega
  have q2 : decide (n ≤ k) = false := by rw [decide_eq_false_iff_not]; omega
  have q3 : decide ((64 : Int) < (s.size : Int)) = false := by rw [decide_eq_false_iff_not]; omega
  have hkn : (k : Int) < (n : Int) := by omega
  have hk0 : (0 : Int) ≤ (k : Int) := by omega
  clear h1 h2 h3 hwl hW hm
  obtain ⟨B, hB⟩ : ∃ B, d.steps = B := ⟨_, rfl⟩
  rw [hB] at STEP ⊢
  clear hB
  go_enter Try.func45, Try.ntmps45
  go_wp2_with fail
  refine STEP.out.mono ?_
  clear STEP c0 c1 c2 c3 c4 f0 f1 f2 f3 f4
  rintro e w1 ⟨he, r1, k1⟩
  have R1 := Lib.hid r1
  have K1 := Lib.hid k1
  cases B
  · obtain rfl : e = .returned (.int .i64 10) := he
    clear r1 k1
    go_wp2
    go_ret
    exact ⟨rfl, ⟨K, N, ck, cn, wv, R1.out, .inl S1.out, .inl S2.out, .inl S3.out, fun b hb => .inl (S4.out b hb)⟩, K1.out.mono (fun b hb => hb ▸ S1.out)⟩
  obtain rfl : e = .returned (.int .i64 0) := he
  have DW := Lib.hid (show { d.step with now := d.step.now.set k (fullB s), wait := d.step.wait ++ [(k, fullB s)] } = (if true = true then { d.step with now := d.now.set (k : Int).toNat (fullB s), wait := d.wait ++ [((k : Int).toNat, fullB s)] } else d.step) from by rw [if_pos rfl, (Dk.step_lists d).2.1, (Dk.step_lists d).2.2]; rfl)
  clear r1 k1
  go_wp2_with fail
  refine (noughts_any m _ HM.out).mono ?_
  rintro e w3 ⟨rfl, b3⟩
  have R3 := Lib.hid (R1.out.below b3)
  have K3 := Lib.hid ((K1.out.mono (T := S) (fun b hb => hb ▸ S1.out)).trans (Keeps.of_below b3))
  clear b3 R1 K1
  obtain ⟨⟨-, c1, -, -, -⟩, -⟩ := R3.out.cells
  obtain ⟨kn1, fn1⟩ := R3.out.now.cell (i := k) (by rw [(Dk.step_lists d).2.1, OK.out.nl]; exact HK.out)
  rw [HF.out] at hadd
  have R5 := Lib.hid (R3.out.setN k (fullB s))
  have K5 := Lib.hid (K3.out.setCell (p := ⟨N, k, none⟩) S3.out (.string (fullB s)))
  clear HF
  go_upto_region 8 with fail
  clear c1 kn1 fn1 R3 K3
  obtain ⟨w5, hw5⟩ : ∃ w5, w5 = w3.setCell ⟨N, k, none⟩ (.string (fullB s)) := ⟨_, rfl⟩
  rw [← hw5] at R5 K5 ⊢
  clear hw5
  obtain ⟨⟨-, -, c2, -, -⟩, -, -, f2, -⟩ := R5.out.cells
  obtain ⟨i0, hi, hz0, hz1, hz2⟩ := info_parts infoRTurn
  go_wp2_with (at_builtin; refine wpList_append_lies _ rfl _ _ 93 rfl 0 150 i0 _ 2 24 Try.underlying93 hi hz0 hz1 hz2 rfl (by omega) wv d.step.wait.length (wcells d.step.wait) rfl (World.ownsRow.alloc R5.out.wait _) ⟨w5.heap.size, 0, none⟩ 1 1 [.int .i64 k, .string (fullB s)] rfl rfl (World.news_of_block (heap_alloc_new _ _)) (wcells_one [(k, fullB s)]) (by omega) (by rw [(Dk.step_lists d).2.2, HW.out]; have := HWL.out; unfold maxLen; omega) (by rw [(Dk.step_lists d).2.2, HW.out]; have := HWL.out; omega) (by omega) _ rfl ?_)
  intro g6 cap6 w6 hown6 hgrow6 hat6 hlt6
  have hb6 : w6.heap[D]? = w5.heap[D]? := (hgrow6.block D (by have := R5.out.lt; simp; omega) (Ne.symm R5.out.wd)).trans (Below.heap_alloc _ _ _ R5.out.lt)
  have kd6 : w6.cell? ⟨D, 2, none⟩ = some wv := by simp [World.cell?, hb6, R5.out.blk]
  have fd6 : w6.frozen? ⟨D, 2, none⟩ = false := by simp [World.frozen?, hb6, R5.out.blk]
  have FIN := Lib.hid (rwrite_fin R5.out K5.out S1.out S2.out S3.out S4.out hown6 hgrow6 (hat6.imp id (fun h => h.trans (by simp))) hlt6 _ rfl)
  clear hown6 hgrow6 hat6 hlt6 hb6 c2 f2
  go_wp2
  go_ret
  exact ⟨rfl, dk_cast FIN.out DW.out⟩
end Go.Proofs.Ytclhmpknkinjcaa
