/-
  Contracts: (*disk.Disk).Read, Sectors, Arm, Down, Flush.
-/
import Derived.Test.YtkedmlkbepjnfaaGreatDoorDiskW
import Derived.StillTailTactics
import Derived.StillTail
import Derived.Deep.DeepCutAuto
import Derived.Laws.CopyRow
namespace Go.Proofs.YtkedmlkbepjnfaaGreatDoor
open Go.RowKit

def Dk.readF (n : Nat) (d : Dk) (p : Int) : Int := if d.down then 10 else if p < 0 ∨ n ≤ p then 1 else 0
def Dk.readS (n : Nat) (d : Dk) (p : Int) : ByteArray := if d.down then ⟨#[]⟩ else if p < 0 ∨ n ≤ p then ⟨#[]⟩ else d.now.getD p.toNat ⟨#[]⟩

set_option maxRecDepth 100000 in
theorem dread_any (S : Nat → Prop) (w : World) (D n : Nat) (d : Dk) (p : Int) (h : DkAt S w 65 78 D n d) (ok : d.ok n) :
    Calls Tryz.prog 38 #[.pointer (some ⟨D, 0, none⟩), .int .i64 p] w fun e w' => e = .returned (.tuple #[.string (d.readS n p), errV (d.readF n p)]) ∧ w' = w := by
  obtain ⟨K, N, ck, cn, wv, r, -⟩ := h
  have R := Lib.hid r
  obtain ⟨⟨c0, c1, c2, c3, c4⟩, f0, f1, f2, f3, f4⟩ := r.cells
  have NL := Lib.hid ok.nl
  clear r ok
  obtain ⟨kept, now, wait, f, b⟩ := d
  dsimp only at c3 c4
  cases b
  · by_cases h1 : p < 0
    · rw [show Dk.readF n ⟨kept, now, wait, f, false⟩ p = 1 from (if_neg (by simp)).trans (if_pos (.inl h1)), show Dk.readS n ⟨kept, now, wait, f, false⟩ p = ⟨#[]⟩ from (if_neg (by simp)).trans (if_pos (.inl h1))]
      go_enter Tryz.func38, Tryz.ntmps38
      go_wp2
      exact bodyPost_ret (v := .tuple #[.string ⟨#[]⟩, .iface 58 (.int .i64 1)]) (by simp [results, Tryz.results38, go_sem]) rfl ⟨rfl, rfl⟩
    by_cases h2 : (n : Int) ≤ p
    · rw [show Dk.readF n ⟨kept, now, wait, f, false⟩ p = 1 from (if_neg (by simp)).trans (if_pos (.inr h2)), show Dk.readS n ⟨kept, now, wait, f, false⟩ p = ⟨#[]⟩ from (if_neg (by simp)).trans (if_pos (.inr h2))]
      go_enter Tryz.func38, Tryz.ntmps38
      go_wp2
      exact bodyPost_ret (v := .tuple #[.string ⟨#[]⟩, .iface 58 (.int .i64 1)]) (by simp [results, Tryz.results38, go_sem]) rfl ⟨rfl, rfl⟩
    obtain ⟨k, rfl⟩ : ∃ k : Nat, p = k := ⟨p.toNat, by omega⟩
    have hk : k < now.length := by have : now.length = n := NL.out; omega
    obtain ⟨X, hX⟩ : ∃ X, now[k] = X := ⟨_, rfl⟩
    have kn : w.cell? ⟨N, k, none⟩ = some (.string X) := hX ▸ (R.out.now.cell (i := k) hk).1
    rw [show Dk.readF n ⟨kept, now, wait, f, false⟩ k = 0 from (if_neg (by simp)).trans (if_neg (by omega)), show Dk.readS n ⟨kept, now, wait, f, false⟩ k = X from (if_neg (by simp)).trans ((if_neg (by omega)).trans (by rw [← hX]; simp [hk]))]
    have q1 : decide ((k : Int) < 0) = false := by rw [decide_eq_false_iff_not]; omega
    have q2 : decide (n ≤ k) = false := by rw [decide_eq_false_iff_not]; omega
    have hkn : (k : Int) < (n : Int) := by omega
    have hk0 : (0 : Int) ≤ (k : Int) := by omega
    clear h1 h2 hX hk
    go_enter Tryz.func38, Tryz.ntmps38
    go_wp2
    exact bodyPost_ret (v := .tuple #[.string X, .nilIface]) (by simp [results, Tryz.results38, go_sem]) rfl ⟨rfl, rfl⟩
  · go_enter Tryz.func38, Tryz.ntmps38
    go_wp2
    exact bodyPost_ret (v := .tuple #[.string ⟨#[]⟩, .iface 58 (.int .i64 10)]) (by simp [results, Tryz.results38, go_sem]) rfl ⟨rfl, rfl⟩

theorem dsectors_any (S : Nat → Prop) (w : World) (D n : Nat) (d : Dk) (h : DkAt S w 65 78 D n d) :
    Calls Tryz.prog 27 #[.pointer (some ⟨D, 0, none⟩)] w fun e w' => e = .returned (.int .i64 n) ∧ w' = w := by
  obtain ⟨K, N, ck, cn, wv, r, -⟩ := h
  obtain ⟨⟨c0, c1, c2, c3, c4⟩, f0, f1, f2, f3, f4⟩ := r.cells
  clear r
  go_enter Tryz.func27, Tryz.ntmps27
  go_wp2
  go_ret
  exact ⟨rfl, rfl⟩

theorem ddown_any (S : Nat → Prop) (w : World) (D n : Nat) (d : Dk) (h : DkAt S w 65 78 D n d) :
    Calls Tryz.prog 26 #[.pointer (some ⟨D, 0, none⟩)] w fun e w' => e = .returned (.bool d.down) ∧ w' = w := by
  obtain ⟨K, N, ck, cn, wv, r, -⟩ := h
  obtain ⟨⟨c0, c1, c2, c3, c4⟩, f0, f1, f2, f3, f4⟩ := r.cells
  clear r
  go_enter Tryz.func26, Tryz.ntmps26
  go_wp2
  go_ret
  exact ⟨rfl, rfl⟩

theorem darm_any (S : Nat → Prop) (w : World) (D n : Nat) (d : Dk) (p : Int) (h : DkAt S w 65 78 D n d) :
    Calls Tryz.prog 17 #[.pointer (some ⟨D, 0, none⟩), .int .i64 p] w fun e w' => e = .returned (.tuple #[]) ∧ DkAt S w' 65 78 D n { d with fuse := max p (-1) } ∧ Keeps S w w' := by
  obtain ⟨K, N, ck, cn, wv, r, s1, s2, s3, s4⟩ := h
  have R := Lib.hid (show DkAt S _ 65 78 D n _ from ⟨K, N, ck, cn, wv, r.setF (max p (-1)), s1, s2, s3, s4⟩)
  have KP := Lib.hid ((Keeps.refl S w).setCell (p := ⟨D, 3, none⟩) s1 (.int .i64 (max p (-1))))
  obtain ⟨⟨c0, c1, c2, c3, c4⟩, f0, f1, f2, f3, f4⟩ := r.cells
  clear r s1 s2 s3 s4
  go_enter Tryz.func17, Tryz.ntmps17
  go_wp2
  go_end0
  exact ⟨rfl, R.out, KP.out⟩

/-! ### Flush -/
theorem region_tail2 {P : Program} {id : Nat} {Q : Exit → Act → World → Prop} {a : Act} {w : World} {l : List Oper} (n : Nat) (hm : P.follows .mixedOrders = true) (hB : Region.lexTailB .any l.toArray n = true)
    (h : ∀ wd, Below w.heap.size w wd → wd.heap = w.heap → wpStill P l.toArray wd (fun a' => wpList P l.toArray Q (l.drop n) a' wd) (l.take n) a) : (Code.region id l.toArray true).wp P Q a w :=
  wp_region_still_tail n hm hB (h w.drew (Below.refl _ _).drew rfl)
def Dk.flush (d : Dk) : Dk := if d.steps then { d.step with kept := d.now, wait := [] } else d.step
theorem add_zero_at (b j : Nat) : (⟨b, 0, none⟩ : Addr).add j = ⟨b, j, none⟩ := by unfold Addr.add; split <;> simp_all
theorem RowS.src {w : World} {g : Nat} {l : List ByteArray} (h : RowS w g l) : ∀ j v, (strs l)[j]? = some v → w.cell? ((⟨g, 0, none⟩ : Addr).add j) = some v := by
  intro j v hj
  rw [add_zero_at]
  have hl : j < l.length := by
    have := (List.getElem?_eq_some_iff.1 hj).1
    simpa [strs] using this
  rw [(h.cell hl).1]
  simpa [strs, hl] using hj
theorem strs_len (l : List ByteArray) : (strs l).length = l.length := by simp [strs]
/-- copy of a whole row over another one -/
theorem copy_rows {w : World} {K N n ck cn : Nat} {l m : List ByteArray} (hk : RowS w K l) (hn : RowS w N m) (h1 : l.length = n) (h2 : m.length = n) (ty : TypeId) :
    ∃ cur, RowS (w.setRow K cur) K m ∧ (Builtin.copy_ #[59, 59] ty #[.slice (some ⟨K, 0, none⟩) n ck, .slice (some ⟨N, 0, none⟩) n cn]).run Tryz.prog w = .ok (goInt n) (w.setRow K cur) := by
  have hk' := hk
  obtain ⟨cur, hc, hs, -⟩ := hk
  refine ⟨_, RowS.put hk' cur hc, ?_⟩
  have hz : (Tryz.prog.info? 9).map (·.size) = some 1 := by kernel_rfl
  have := run_copy_row (P := Tryz.prog) w 59 59 ty 9 K 0 n ck ⟨N, 0, none⟩ n cn cur 9 (strs m) Tryz.underlying59 hz hc (by rw [strs_len, h2]; exact (Nat.min_self n).symm) hn.src (by rw [strs_len]; omega) (strs_one m)
  rw [show goInt (strs m).length = goInt n from by rw [strs_len, h2]] at this
  exact this

theorem DkR.setK {w : World} {T Tt : TypeId} {D K N ck cn : Nat} {wv : Value} {n : Nat} {d : Dk} (h : DkR w T Tt D K N ck cn wv n d) {cur : Array Value} {l : List ByteArray} (hr : RowS (w.setRow K cur) K l) :
    DkR (w.setRow K cur) T Tt D K N ck cn wv n { d with kept := l } := by
  have o : ∀ b, b ≠ K → (w.setRow K cur).heap[b]? = w.heap[b]? := fun b hb => setRow_other _ _ _ _ hb
  exact ⟨(o D (Ne.symm h.kd)).trans h.blk, hr, h.now.move (o N (Ne.symm h.kn)), own_move h.wait (fun b hb => o b (fun e => h.wk (e ▸ hb))), h.kd, h.nd, h.kn, h.wd, h.wk, h.wn, h.nc⟩
theorem DkR.setNr {w : World} {T Tt : TypeId} {D K N ck cn : Nat} {wv : Value} {n : Nat} {d : Dk} (h : DkR w T Tt D K N ck cn wv n d) {cur : Array Value} {l : List ByteArray} (hr : RowS (w.setRow N cur) N l) :
    DkR (w.setRow N cur) T Tt D K N ck cn wv n { d with now := l } := by
  have o : ∀ b, b ≠ N → (w.setRow N cur).heap[b]? = w.heap[b]? := fun b hb => setRow_other _ _ _ _ hb
  exact ⟨(o D (Ne.symm h.nd)).trans h.blk, h.kept.move (o K h.kn), hr, own_move h.wait (fun b hb => o b (fun e => h.wn (e ▸ hb))), h.kd, h.nd, h.kn, h.wd, h.wk, h.wn, h.nc⟩
theorem DkR.setWn {w : World} {T Tt : TypeId} {D K N ck cn : Nat} {wv : Value} {n : Nat} {d : Dk} (h : DkR w T Tt D K N ck cn wv n d) : DkR (w.setCell ⟨D, 2, none⟩ (.slice none 0 0)) T Tt D K N ck cn (.slice none 0 0) n { d with wait := [] } :=
  h.setW (l := []) rfl (World.ownsRow_nil w 0 Tt 2) (Keeps.refl _ _) (fun b hb => by cases hb)

theorem keeps_row {S : Nat → Prop} {a w : World} (h : Keeps S a w) {g : Nat} (hg : S g) (cs : Array Value) : Keeps S a (w.setRow g cs) :=
  h.trans ⟨rfl, rfl, rfl, by simp, fun k hk _ => setRow_other _ _ _ _ (fun e => hk (e ▸ hg))⟩

set_option maxRecDepth 100000 in
set_option maxHeartbeats 1000000 in
theorem dflush_any (S : Nat → Prop) (w : World) (D n : Nat) (d : Dk) (h : DkAt S w 65 78 D n d) (ok : d.ok n) :
    Calls Tryz.prog 30 #[.pointer (some ⟨D, 0, none⟩)] w fun e w' => e = .returned (errV (if d.steps then 0 else 10)) ∧ DkAt S w' 65 78 D n d.flush ∧ Keeps S w w' := by
  obtain ⟨K, N, ck, cn, wv, r, s1, s2, s3, s4⟩ := h
  have OK := Lib.hid ok
  have S1 := Lib.hid s1
  have S2 := Lib.hid s2
  have S3 := Lib.hid s3
  have S4 := Lib.hid s4
  have STEP := Lib.hid (step_any w D K N ck cn n wv d r ⟨ok.fu, ok.fm⟩)
  clear r s1 s2 s3 s4 ok
  unfold Dk.flush
  obtain ⟨B, hB⟩ : ∃ B, d.steps = B := ⟨_, rfl⟩
  rw [hB] at STEP ⊢
  clear hB
  go_enter Tryz.func30, Tryz.ntmps30
  go_wp2_with fail
  refine STEP.out.mono ?_
  clear STEP
  rintro e w1 ⟨he, r1, k1⟩
  have R1 := Lib.hid r1
  have K1 := Lib.hid (k1.mono (T := S) (fun b hb => hb ▸ S1.out))
  cases B
  · obtain rfl : e = .returned (.iface 58 (.int .i64 10)) := he
    clear r1 k1
    go_wp2
    go_ret
    exact ⟨rfl, ⟨K, N, ck, cn, wv, R1.out, S1.out, S2.out, S3.out, S4.out⟩, K1.out⟩
  obtain rfl : e = .returned .nilIface := he
  clear r1 k1
  go_upto_region 3 with fail
  refine region_tail2 8 (by kernel_rfl) (by kernel_rfl) ?_
  intro wd hwd hwh
  have r2 := R1.out.below hwd
  obtain ⟨⟨c0, c1, -, -, -⟩, -⟩ := r2.cells
  have R2 := Lib.hid r2
  have K2 := Lib.hid (K1.out.trans (Keeps.of_below hwd))
  clear r2 hwd hwh K1 R1
  simp only [List.take_succ_cons, List.take_zero, List.drop_succ_cons, List.drop_zero]
  repeat still_step
  refine wpStill_nil ?_
  obtain ⟨cur, hcur, hr⟩ := copy_rows (n := n) (ck := ck) (cn := cn) R2.out.kept R2.out.now (by rw [(Dk.step_lists d).1]; exact OK.out.kl) (by rw [(Dk.step_lists d).2.1]; exact OK.out.nl) 3
  have R3 := Lib.hid (R2.out.setK hcur)
  have K3 := Lib.hid (keeps_row K2.out (g := K) S2.out cur)
  clear hcur
  obtain ⟨⟨-, -, g2, -, -⟩, -, -, h2, -⟩ := R3.out.cells
  have R4 := Lib.hid R3.out.setWn
  have K4 := Lib.hid (K3.out.setCell (p := ⟨D, 2, none⟩) S1.out (.slice none 0 0))
  clear c0 c1 R3 K3 R2 K2
  go_wp2_with (at_builtin; refine Lib.wpList_copy_run _ rfl _ _ 59 59 rfl _ _ rfl rfl hr ?_)
  go_ret
  exact ⟨rfl, ⟨K, N, ck, cn, .slice none 0 0, by rw [← (Dk.step_lists d).2.1]; exact R4.out, S1.out, S2.out, S3.out, fun b hb => by cases hb⟩, K4.out⟩
end Go.Proofs.YtkedmlkbepjnfaaGreatDoor
