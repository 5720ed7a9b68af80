/-
  Contract: (*disk.Disk).Restart.
-/
import Derived.Test.YtkedmlkbepjnfaaGreatDoorDiskR
namespace Go.Proofs.YtkedmlkbepjnfaaGreatDoor
open Go.RowKit

def bitK (keep : Int) (k : Nat) : Bool := bits BinOp.and IntKind.u64 (keep / 2 ^ (k % 64)) 1 == 1
def Dk.restTo (keep : Int) (d : Dk) : Nat → List ByteArray
  | 0 => d.kept
  | k + 1 => if bitK keep k then (d.restTo keep k).set (d.wait.getD k (0, ⟨#[]⟩)).1 (d.wait.getD k (0, ⟨#[]⟩)).2 else d.restTo keep k
theorem Dk.restTo_len (keep : Int) (d : Dk) : ∀ k, (d.restTo keep k).length = d.kept.length
  | 0 => rfl
  | k + 1 => by
    have ih := Dk.restTo_len keep d k
    unfold Dk.restTo
    split
    · rw [List.length_set]; exact ih
    · exact ih
def Dk.restart (keep : Int) (d : Dk) : Dk := ⟨d.restTo keep d.wait.length, d.restTo keep d.wait.length, [], -1, false⟩
theorem Dk.restart_ok {n : Nat} {d : Dk} (h : d.ok n) (keep : Int) : (d.restart keep).ok n :=
  ⟨h.n40, (Dk.restTo_len keep d _).trans h.kl, (Dk.restTo_len keep d _).trans h.kl, (fun _ hr => by cases hr), (show (-1 : Int) ≤ -1 by omega), (show (-1 : Int) ≤ 9223372036854775807 by omega)⟩
theorem DkR.setKc {w : World} {T Tt : TypeId} {D K N ck cn : Nat} {wv : Value} {n : Nat} {d : Dk} (h : DkR w T Tt D K N ck cn wv n d) (k : Nat) (s : ByteArray) :
    DkR (w.setCell ⟨K, k, none⟩ (.string s)) T Tt D K N ck cn wv n { d with kept := d.kept.set k s } := by
  have o : ∀ b, b ≠ K → (w.setCell ⟨K, k, none⟩ (.string s)).heap[b]? = w.heap[b]? := fun b hb => Below.heap_setCell _ _ _ _ hb
  exact ⟨(o D (Ne.symm h.kd)).trans h.blk, h.kept.set k s, h.now.move (o N (Ne.symm h.kn)), own_move h.wait (fun b hb => o b (fun e => h.wk (e ▸ hb))), h.kd, h.nd, h.kn, h.wd, h.wk, h.wn, h.nc⟩
theorem own_turns {w : World} {Tt : TypeId} {v : Value} {l : List (Nat × ByteArray)} (h : w.ownsRow 0 Tt 2 v l.length (wcells l)) :
    ∃ a cap, v = .slice a l.length cap ∧ ∀ i (hi : i < l.length), ∃ b, a = some ⟨b, 0, none⟩ ∧ v.ownBlock = some b ∧ b < w.heap.size ∧ w.cell? ⟨b, i * 2, none⟩ = some (.int .i64 l[i].1) ∧ w.cell? ⟨b, i * 2 + 1, none⟩ = some (.string l[i].2) := by
  obtain ⟨h1, h2⟩ := h
  rcases h2 with ⟨rfl, hn⟩ | ⟨g, cap, cur, rfl, hg, hh, hc, hm, hs, ht⟩
  · exact ⟨none, 0, by rw [hn], fun i hi => absurd hi (by omega)⟩
  · refine ⟨_, cap, rfl, fun i hi => ⟨g, rfl, rfl, (Array.getElem?_eq_some_iff.1 hh).1, ?_⟩⟩
    obtain ⟨p1, p2⟩ := wcells_at l i hi
    have hcell : ∀ j, j < l.length * 2 → w.cell? ⟨g, j, none⟩ = (wcells l)[j]? := by
      intro j hj
      rw [← ht, List.getElem?_take_of_lt hj]
      simp [World.cell?, hh]
    exact ⟨(hcell _ (by omega)).trans p1, (hcell _ (by omega)).trans p2⟩

set_option maxRecDepth 100000 in
set_option maxHeartbeats 1000000 in
theorem drestart_any (S : Nat → Prop) (w : World) (D n : Nat) (d : Dk) (keep : Int) (h : DkAt S w 65 78 D n d) (ok : d.ok n) (hwl : d.wait.length ≤ 1000) :
    Calls Tryz.prog 20 #[.pointer (some ⟨D, 0, none⟩), .int .u64 keep] w fun e w' => e = .returned (.tuple #[]) ∧ DkAt S w' 65 78 D n (d.restart keep) ∧ Keeps S w w' := by
  obtain ⟨K, N, ck, cn, wv, r, s1, s2, s3, s4⟩ := h
  have OK := Lib.hid ok
  have S1 := Lib.hid s1
  have S2 := Lib.hid s2
  have S3 := Lib.hid s3
  have S4 := Lib.hid s4
  obtain ⟨⟨c0, c1, c2, c3, c4⟩, f0, f1, f2, f3, f4⟩ := r.cells
  have R := Lib.hid r
  clear s1 s2 s3 s4 ok r
  obtain ⟨a, cap, rfl, hcl⟩ := own_turns R.out.wait
  have CL := Lib.hid hcl
  clear hcl
  obtain ⟨W, hW⟩ : ∃ W, d.wait.length = W := ⟨_, rfl⟩
  rw [hW] at c2
  have HW := Lib.hid hW
  have hW2 : W ≤ 1000 := by omega
  clear hW hwl
  go_enter Tryz.func20, Tryz.ntmps20
  go_wp2
  go_loopw [4, 11] (fun v i wr => ∃ k : Nat, k ≤ W ∧ i = .int .i64 k ∧ DkR wr 65 78 D K N ck cn (.slice a d.wait.length cap) n { d with kept := d.restTo keep k } ∧ Keeps S w wr) (fun _ i _ => W - (intOf i).toNat)
  case atStart => exact ⟨0, by omega, rfl, R.out, Keeps.refl _ _⟩
  case round =>
    obtain ⟨k, hk, rfl, r, kp⟩ := hrel
    have RR := Lib.hid r
    have KP := Lib.hid kp
    clear r kp
    by_cases hlt : k < W
    · have hlt' : k < d.wait.length := by rw [HW.out]; exact hlt
      obtain ⟨b, rfl, hbo, hbl, m1, m2⟩ := CL.out k hlt'
      obtain ⟨P, hP⟩ : ∃ P, d.wait[k] = P := ⟨_, rfl⟩
      have PN := Lib.hid (show P.1 < n from OK.out.wl P (hP ▸ List.getElem_mem hlt'))
      obtain ⟨p, s⟩ := P
      have HP := Lib.hid (show d.wait.getD k (0, ⟨#[]⟩) = (p, s) from by rw [← hP]; simp [hlt'])
      have OT := Lib.hid (own_turns RR.out.wait)
      have n12 : wr.cell? ⟨b, k * 2, none⟩ = some (.int .i64 p) ∧ wr.cell? ⟨b, k * 2 + 1, none⟩ = some (.string s) := by
        obtain ⟨a', cap', e, hc⟩ := OT.out
        obtain ⟨b', e2, -, -, x1, x2⟩ := hc k hlt'
        subst e2
        obtain rfl : b = b' := by simpa using congrArg (fun v => match v with | Value.slice (some a) _ _ => a.block | _ => 0) e
        dsimp only at x1 x2
        rw [hP] at x1 x2
        exact ⟨x1, x2⟩
      obtain ⟨n1, n2⟩ := n12
      clear m1 m2 OT hP hbl hbo
      have REST := Lib.hid (show d.restTo keep (k + 1) = if bitK keep k then (d.restTo keep k).set p s else d.restTo keep k from by
        show (if bitK keep k then _ else _) = _
        rw [HP.out])
      obtain ⟨B, hB⟩ : ∃ B, (bits BinOp.and IntKind.u64 (keep / 2 ^ (k % 64)) 1 == 1) = B := ⟨_, rfl⟩
      have HB := Lib.hid (show bitK keep k = B from hB)
      rw [HB.out] at REST
      clear hlt'
      have w2b : Below wr.heap.size wr (wr.alloc (.cells #[.int .i64 p, .string s] 78)) := bal wr _
      have R2 := Lib.hid (RR.out.below w2b)
      have K2 := Lib.hid (KP.out.trans (Keeps.of_below w2b))
      cases B
      · go_wp2
        go_roundw
        case rel => exact ⟨k + 1, by omega, by go_num, by rw [REST.out]; exact R2.out, K2.out⟩
        case measure => simp [intOf]; omega
      · go_upto_region 4 with fail
        obtain ⟨w2, hw2⟩ : ∃ w2, w2 = wr.alloc (.cells #[.int .i64 p, .string s] 78) := ⟨_, rfl⟩
        obtain ⟨V, hV⟩ : ∃ V, wr.heap.size = V := ⟨_, rfl⟩
        have hv0 : w2.cell? ⟨V, 0, none⟩ = some (.int .i64 p) := by rw [hw2, ← hV]; simp
        have hv1 : w2.cell? ⟨V, 1, none⟩ = some (.string s) := by rw [hw2, ← hV]; simp
        rw [← hw2] at R2 K2 ⊢
        rw [hV]
        clear hw2 w2b RR KP n1 n2
        refine region_tail2 8 (by kernel_rfl) (by kernel_rfl) ?_
        intro wd hwd hwh
        have r3 := R2.out.below hwd
        obtain ⟨⟨c0', -, -, -, -⟩, -⟩ := r3.cells
        have vlt : V < w2.heap.size := World.block_lt_of_cell? w2 ⟨V, 0, none⟩ hv0
        have u0 := (hwd.cell (p := ⟨V, 0, none⟩) vlt).trans hv0
        have u1 := (hwd.cell (p := ⟨V, 1, none⟩) vlt).trans hv1
        have hkl : (d.restTo keep k).length = n := (d.restTo_len keep k).trans OK.out.kl
        obtain ⟨kn, fn⟩ := r3.kept.cell (i := p) (by show p < (d.restTo keep k).length; rw [hkl]; exact PN.out)
        obtain ⟨X, hX⟩ : ∃ X, (d.restTo keep k)[p]'(by rw [hkl]; exact PN.out) = X := ⟨_, rfl⟩
        have kn' : wd.cell? ⟨K, p, none⟩ = some (.string X) := hX ▸ kn
        have hp1 : (p : Int) < (n : Int) := by have := PN.out; omega
        have hp0 : (0 : Int) ≤ (p : Int) := by omega
        have R4 := Lib.hid (r3.setKc p s)
        have K4 := Lib.hid ((K2.out.trans (Keeps.of_below hwd)).setCell (p := ⟨K, p, none⟩) S2.out (.string s))
        clear r3 hwd hwh hv0 hv1 vlt hkl kn hX K2 R2
        simp only [List.take_succ_cons, List.take_zero, List.drop_succ_cons, List.drop_zero]
        repeat still_step
        refine wpStill_nil ?_
        go_wp2
        go_roundw
        case rel => exact ⟨k + 1, by omega, by go_num, by rw [REST.out]; exact R4.out, K4.out⟩
        case measure => simp [intOf]; omega
    · obtain rfl : k = W := by omega
      have HE := Lib.hid (show d.restart keep = ⟨d.restTo keep k, d.restTo keep k, [], -1, false⟩ from by unfold Dk.restart; rw [HW.out])
      clear hlt hk hW2 HW CL R
      go_upto_region 6 with fail
      refine region_tail2 8 (by kernel_rfl) (by kernel_rfl) ?_
      intro wd hwd hwh
      have r3 := RR.out.below hwd
      obtain ⟨⟨c0', c1', -, -, -⟩, -⟩ := r3.cells
      have K3 := Lib.hid (KP.out.trans (Keeps.of_below hwd))
      obtain ⟨cur, hcur, hr⟩ := copy_rows (n := n) (ck := cn) (cn := ck) r3.now r3.kept OK.out.nl ((d.restTo_len keep k).trans OK.out.kl) 3
      have r4 := r3.setNr hcur
      obtain ⟨⟨-, -, g2, g3, g4⟩, -, -, h2, h3, h4⟩ := r4.cells
      have R5 := Lib.hid ((r4.setWn.setD false).setF (-1))
      have K5 := Lib.hid ((((keeps_row K3.out (g := N) S3.out cur).setCell (p := ⟨D, 2, none⟩) S1.out (.slice none 0 0)).setCell (p := ⟨D, 4, none⟩) S1.out (.bool false)).setCell (p := ⟨D, 3, none⟩) S1.out (.int .i64 (-1)))
      clear hcur r3 r4 hwd hwh K3 KP RR
      dsimp only at g3 g4
      simp only [List.take_succ_cons, List.take_zero, List.drop_succ_cons, List.drop_zero]
      repeat still_step
      refine wpStill_nil ?_
      go_wp2_with (at_builtin; refine Lib.wpList_copy_run _ rfl _ _ 59 59 rfl _ _ rfl rfl hr ?_)
      go_end0
      exact ⟨rfl, ⟨K, N, ck, cn, .slice none 0 0, by rw [HE.out]; exact R5.out, S1.out, S2.out, S3.out, fun b hb => by cases hb⟩, K5.out⟩
end Go.Proofs.YtkedmlkbepjnfaaGreatDoor
