/-
  Contracts of the document's disk: Flush, Restart.
-/
import Derived.Test.YtclhmpknkinjcaaRDisk
namespace Go.Proofs.Ytclhmpknkinjcaa
open Go.RowKit

/-- kept lies in a new row -/
theorem DkR.newK {w w1 : World} {T Tt : TypeId} {D K N ck cn g c : Nat} {wv : Value} {n : Nat} {d : Dk} {l : List ByteArray} (h : DkR w T Tt D K N ck cn wv n d) (b : Below w.heap.size w w1) (hr : RowS w1 g l) (hg : w.heap.size ≤ g) (hc : n ≤ c) :
    DkR (w1.setCell ⟨D, 0, none⟩ (.slice (some ⟨g, 0, none⟩) n c)) T Tt D g N c cn wv n { d with kept := l } := by
  have h1 := h.below b
  have o : ∀ b, b ≠ D → (w1.setCell ⟨D, 0, none⟩ (.slice (some ⟨g, 0, none⟩) n c)).heap[b]? = w1.heap[b]? := fun b hb => Below.heap_setCell _ _ _ _ hb
  have gd : g ≠ D := by have := h.lt; omega
  have gn : g ≠ N := by have := h.now.lt; omega
  refine ⟨block_setCell h1.blk _, hr.move (o g gd), h1.now.move (o N h.nd), own_move h1.wait (fun b hb => o b (fun e => h.wd (e ▸ hb))), gd, h.nd, gn, h.wd, (fun e => ?_), h.wn, hc, h.nc.2⟩
  have := own_lt h.wait e
  omega
theorem DkR.newN {w w1 : World} {T Tt : TypeId} {D K N ck cn g c : Nat} {wv : Value} {n : Nat} {d : Dk} {l : List ByteArray} (h : DkR w T Tt D K N ck cn wv n d) (b : Below w.heap.size w w1) (hr : RowS w1 g l) (hg : w.heap.size ≤ g) (hc : n ≤ c) :
    DkR (w1.setCell ⟨D, 1, none⟩ (.slice (some ⟨g, 0, none⟩) n c)) T Tt D K g ck c wv n { d with now := l } := by
  have h1 := h.below b
  have o : ∀ b, b ≠ D → (w1.setCell ⟨D, 1, none⟩ (.slice (some ⟨g, 0, none⟩) n c)).heap[b]? = w1.heap[b]? := fun b hb => Below.heap_setCell _ _ _ _ hb
  have gd : g ≠ D := by have := h.lt; omega
  have gk : K ≠ g := by have := h.kept.lt; omega
  refine ⟨block_setCell h1.blk _, h1.kept.move (o K h.kd), hr.move (o g gd), own_move h1.wait (fun b hb => o b (fun e => h.wd (e ▸ hb))), h.kd, gd, gk, h.wd, h.wk, (fun e => ?_), h.nc.1, hc⟩
  have := own_lt h.wait e
  omega

set_option maxRecDepth 100000 in
set_option maxHeartbeats 1000000 in
theorem rflush_any (S : Nat → Prop) (w : World) (D n : Nat) (d : Dk) (h : DkAt S w 95 150 D n d) (ok : d.ok n) (hn : 1 ≤ n) :
    Calls Try.prog 49 #[.pointer (some ⟨D, 0, none⟩)] w fun e w' => e = .returned (.int .i64 (if d.steps then 0 else 10)) ∧ DkAt (grow S w w') w' 95 150 D n d.flush ∧ Keeps S w w' := by
  obtain ⟨K, N, ck, cn, wv, r, s1, s2, s3, s4⟩ := h
  have OK := Lib.hid ok
  have S1 := Lib.hid s1
  have S2 := Lib.hid s2
  have S3 := Lib.hid s3
  have S4 := Lib.hid s4
  have STEP := Lib.hid (rstep_any w D K N ck cn n wv d r ⟨ok.fu, ok.fm⟩)
  have HN := Lib.hid hn
  clear r s1 s2 s3 s4 ok hn
  unfold Dk.flush
  obtain ⟨B, hB⟩ : ∃ B, d.steps = B := ⟨_, rfl⟩
  rw [hB] at STEP ⊢
  clear hB
  obtain ⟨i0, hi, hz0, hz1, hz2⟩ := info_parts infoStr
  go_enter Try.func49, Try.ntmps49
  go_wp2_with fail
  refine STEP.out.mono ?_
  clear STEP
  rintro e w1 ⟨he, r1, k1⟩
  have R1 := Lib.hid r1
  have K1 := Lib.hid (k1.mono (T := S) (fun b hb => hb ▸ S1.out))
  cases B
  · obtain rfl : e = .returned (.int .i64 10) := he
    clear r1 k1
    go_wp2
    go_ret
    exact ⟨rfl, ⟨K, N, ck, cn, wv, R1.out, .inl S1.out, .inl S2.out, .inl S3.out, fun b hb => .inl (S4.out b hb)⟩, K1.out⟩
  obtain rfl : e = .returned (.int .i64 0) := he
  obtain ⟨⟨-, c1, -, -, -⟩, -⟩ := r1.cells
  clear r1 k1
  have hnn : d.step.now.length = n := by rw [(Dk.step_lists d).2.1]; exact OK.out.nl
  go_wp2_with (at_builtin; refine wpList_append_own _ rfl _ _ 92 rfl w1.heap.size 9 i0 (.string ⟨#[]⟩) 1 16 Try.underlying92 hi hz0 hz1 hz2 rfl (by decide) _ _ _ rfl (World.ownsRow_nil _ _ _ _) ⟨N, 0, none⟩ n cn (strs d.step.now) rfl (by rw [strs_len, hnn]; omega) R1.out.now.src (strs_one _) ?c3 ?c4 ?c5 ?_)
  case c3 => have := OK.out.n40; unfold maxLen; omega
  case c4 => have := OK.out.n40; omega
  case c5 => exact Nat.le_refl _
  intro v' w2 hown2 hg2 _
  obtain ⟨g, c, rfl, hB, hc, hr⟩ := own_rowS (l := d.step.now) (by simpa using hown2) HN.out
  have B12 := Lib.hid (show Below w1.heap.size w1 w2 from (Below.refl _ _).grown hg2 (by simp) (fun k hk => by cases hk))
  have R2 := Lib.hid (R1.out.newK B12.out hr hB hc)
  have HG := Lib.hid (show w.heap.size ≤ g ∧ g < w2.heap.size from ⟨Nat.le_trans K1.out.size hB, hr.lt⟩)
  obtain ⟨⟨d0, -, -, -, -⟩, e0, -⟩ := (R1.out.below B12.out).cells
  have K2 := Lib.hid ((K1.out.trans (Keeps.of_below B12.out)).setCell (p := ⟨D, 0, none⟩) S1.out (.slice (some ⟨g, 0, none⟩) n c))
  have K3 := Lib.hid (K2.out.setCell (p := ⟨D, 2, none⟩) S1.out (.slice none 0 0))
  have R3 := Lib.hid R2.out.setWn
  obtain ⟨⟨-, -, d2, -, -⟩, -, -, e2, -⟩ := R2.out.cells
  clear hown2 hg2 hB hc hr R1 K1 R2 K2 c1
  go_wp2
  go_ret
  exact ⟨rfl, ⟨g, N, c, cn, .slice none 0 0, by rw [← (Dk.step_lists d).2.1]; exact R3.out, .inl S1.out, .inr ⟨HG.out.1, by have := HG.out.2; simpa [World.setCell] using this⟩, .inl S3.out, fun b hb => by cases hb⟩, K3.out⟩

set_option maxRecDepth 100000 in
set_option maxHeartbeats 1000000 in
theorem rrestart_any (S : Nat → Prop) (w : World) (D n : Nat) (d : Dk) (keep : Int) (h : DkAt S w 95 150 D n d) (ok : d.ok n) (hn : 1 ≤ n) (hwl : d.wait.length ≤ 1000) :
    Calls Try.prog 52 #[.pointer (some ⟨D, 0, none⟩), .int .u64 keep] w fun e w' => e = .returned (.tuple #[]) ∧ DkAt (grow S w w') w' 95 150 D n (d.restart keep) ∧ Keeps S w w' := by
  obtain ⟨K, N, ck, cn, wv, r, s1, s2, s3, s4⟩ := h
  have OK := Lib.hid ok
  have S1 := Lib.hid s1
  have S2 := Lib.hid s2
  have S3 := Lib.hid s3
  have S4 := Lib.hid s4
  have R := Lib.hid r
  have HN := Lib.hid hn
  clear s1 s2 s3 s4 ok r hn
  obtain ⟨a, cap, rfl, hcl⟩ := own_turns R.out.wait
  have CL := Lib.hid hcl
  clear hcl
  obtain ⟨W, hW⟩ : ∃ W, d.wait.length = W := ⟨_, rfl⟩
  have HW := Lib.hid hW
  have hW2 : W ≤ 1000 := by omega
  clear hW hwl
  go_enter Try.func52, Try.ntmps52
  go_wp2
  go_loopw [4, 5] (fun i _ wr => ∃ k : Nat, k ≤ W ∧ i = .int .i64 k ∧ DkR wr 95 150 D K N ck cn (.slice a W cap) n { d with kept := d.restTo keep k } ∧ Keeps S w wr) (fun i _ _ => W - (intOf i).toNat)
  case atStart => exact ⟨0, by omega, rfl, by rw [← HW.out]; exact R.out, Keeps.refl _ _⟩
  case round =>
    obtain ⟨k, hk, rfl, r, kp⟩ := hrel
    obtain ⟨⟨-, -, c2, -, -⟩, -⟩ := r.cells
    have RR := Lib.hid r
    have KP := Lib.hid kp
    clear r kp
    by_cases hlt : k < W
    · have hlt' : k < d.wait.length := by rw [HW.out]; exact hlt
      obtain ⟨P, hP⟩ : ∃ P, d.wait[k] = P := ⟨_, rfl⟩
      have PN := Lib.hid (show P.1 < n from OK.out.wl P (hP ▸ List.getElem_mem hlt'))
      obtain ⟨p, s⟩ := P
      have HP := Lib.hid (show d.wait.getD k (0, ⟨#[]⟩) = (p, s) from by rw [← hP]; simp [hlt'])
      have n12 : ∃ b, a = some ⟨b, 0, none⟩ ∧ b < wr.heap.size ∧ wr.cell? ⟨b, k * 2, none⟩ = some (.int .i64 p) ∧ wr.cell? ⟨b, k * 2 + 1, none⟩ = some (.string s) := by
        obtain ⟨a', cap', e, hc⟩ := own_turns RR.out.wait
        obtain ⟨b', e2, -, x3, x1, x2⟩ := hc k hlt'
        subst e2
        dsimp only at x1 x2
        rw [hP] at x1 x2
        refine ⟨b', ?_, x3, x1, x2⟩
        simpa using congrArg (fun v => match v with | Value.slice a _ _ => a | _ => none) e
      obtain ⟨b, rfl, hbl, n1, n2⟩ := n12
      have REST := Lib.hid (show d.restTo keep (k + 1) = if bitK keep k then (d.restTo keep k).set p s else d.restTo keep k from by
        show (if bitK keep k then _ else _) = _
        rw [HP.out])
      obtain ⟨B, hB⟩ : ∃ B, (bits BinOp.and IntKind.u64 (keep / 2 ^ (k % 64)) 1 == 1) = B := ⟨_, rfl⟩
      have HB := Lib.hid (show bitK keep k = B from hB)
      rw [HB.out] at REST
      clear hlt' hP
      cases B
      · go_wp2
        go_roundw
        case rel => exact ⟨k + 1, by omega, by go_num, by rw [REST.out]; exact RR.out, KP.out⟩
        case measure => simp [intOf]; omega
      · go_upto_region 4 with fail
        refine region_tail2 20 (by kernel_rfl) (by kernel_rfl) ?_
        intro wd hwd hwh
        have r3 := RR.out.below hwd
        obtain ⟨⟨c0', -, c2', -, -⟩, -⟩ := r3.cells
        have u0 := (hwd.cell (p := ⟨b, k * 2, none⟩) hbl).trans n1
        have u1 := (hwd.cell (p := ⟨b, k * 2 + 1, none⟩) hbl).trans n2
        have hkl : (d.restTo keep k).length = n := (d.restTo_len keep k).trans OK.out.kl
        obtain ⟨kn, fn⟩ := r3.kept.cell (i := p) (by show p < (d.restTo keep k).length; rw [hkl]; exact PN.out)
        obtain ⟨X, hX⟩ : ∃ X, (d.restTo keep k)[p]'(by rw [hkl]; exact PN.out) = X := ⟨_, rfl⟩
        have kn' : wd.cell? ⟨K, p, none⟩ = some (.string X) := hX ▸ kn
        have hp1 : (p : Int) < (n : Int) := by have := PN.out; omega
        have hp0 : (0 : Int) ≤ (p : Int) := by omega
        have hki : (k : Int) < (W : Int) := by omega
        have hk0 : (0 : Int) ≤ (k : Int) := by omega
        have R4 := Lib.hid (r3.setKc p s)
        have K4 := Lib.hid ((KP.out.trans (Keeps.of_below hwd)).setCell (p := ⟨K, p, none⟩) S2.out (.string s))
        clear r3 hwd hwh hkl kn hX KP RR n1 n2 c2 hbl CL
        simp only [List.take_succ_cons, List.take_zero, List.drop_succ_cons, List.drop_zero]
        repeat still_step
        refine wpStill_nil ?_
        go_wp2
        go_roundw
        case rel => exact ⟨k + 1, by omega, by go_num, by rw [REST.out]; exact R4.out, K4.out⟩
        case measure => simp [intOf]; omega
    · obtain rfl : k = W := by omega
      have HE := Lib.hid (show d.restart keep = ⟨d.restTo keep k, d.restTo keep k, [], -1, false⟩ from by unfold Dk.restart; rw [HW.out])
      have hnn : (d.restTo keep k).length = n := (d.restTo_len keep k).trans OK.out.kl
      clear hlt hk hW2 HW CL R
      obtain ⟨⟨c0, -, -, -, -⟩, -⟩ := RR.out.cells
      obtain ⟨i0, hi, hz0, hz1, hz2⟩ := info_parts infoStr
      go_wp2_with (at_builtin; refine wpList_append_own _ rfl _ _ 92 rfl wr.heap.size 9 i0 (.string ⟨#[]⟩) 1 16 Try.underlying92 hi hz0 hz1 hz2 rfl (by decide) _ _ _ rfl (World.ownsRow_nil _ _ _ _) ⟨K, 0, none⟩ n ck (strs (d.restTo keep k)) rfl (by rw [strs_len, hnn]; omega) RR.out.kept.src (strs_one _) ?c3 ?c4 ?c5 ?_)
      case c3 => have := OK.out.n40; unfold maxLen; omega
      case c4 => have := OK.out.n40; omega
      case c5 => exact Nat.le_refl _
      intro v' w2 hown2 hg2 _
      obtain ⟨g, c, rfl, hB, hc, hr⟩ := own_rowS (l := d.restTo keep k) (by simpa using hown2) HN.out
      have B12 := Lib.hid (show Below wr.heap.size wr w2 from (Below.refl _ _).grown hg2 (by simp) (fun k hk => by cases hk))
      have r2 := RR.out.newN B12.out hr hB hc
      have HG := Lib.hid (show w.heap.size ≤ g ∧ g < w2.heap.size from ⟨Nat.le_trans KP.out.size hB, hr.lt⟩)
      obtain ⟨⟨-, d1, -, -, -⟩, -, e1, -⟩ := (RR.out.below B12.out).cells
      have K2 := Lib.hid (((((KP.out.trans (Keeps.of_below B12.out)).setCell (p := ⟨D, 1, none⟩) S1.out (.slice (some ⟨g, 0, none⟩) n c)).setCell (p := ⟨D, 2, none⟩) S1.out (.slice none 0 0)).setCell (p := ⟨D, 4, none⟩) S1.out (.bool false)).setCell (p := ⟨D, 3, none⟩) S1.out (.int .i64 (-1)))
      obtain ⟨⟨-, -, d2, d3, d4⟩, -, -, e2, e3, e4⟩ := r2.cells
      have R3 := Lib.hid ((r2.setWn.setD false).setF (-1))
      dsimp only at d3 d4
      clear hown2 hg2 hB hc hr RR KP r2 c2 c0
      go_wp2
      go_end0
      exact ⟨rfl, ⟨K, g, ck, c, .slice none 0 0, by rw [HE.out]; exact R3.out, .inl S1.out, .inl S2.out, .inr ⟨HG.out.1, by have := HG.out.2; simpa [World.setCell] using this⟩, fun b hb => by cases hb⟩, K2.out⟩
end Go.Proofs.Ytclhmpknkinjcaa
