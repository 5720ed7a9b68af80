/-
  Contract: (*disk.Disk).Write.
-/
import Derived.Test.YtkedmlkbepjnfaaGreatDoorDiskS
import Derived.Deep.RegionHeld3
import Derived.Deep.AppendLies
import Derived.Deep.RegionLaw
import Derived.BigRegion
namespace Go.Proofs.YtkedmlkbepjnfaaGreatDoor
open Go.RowKit

/-! ### plain -/
def Dk.write (n : Nat) (d : Dk) (p : Int) (s : ByteArray) : Dk :=
  if p < 0 ∨ n ≤ p ∨ 64 < s.size then d
  else if d.steps then { d.step with now := d.now.set p.toNat (fullB s), wait := d.wait ++ [(p.toNat, fullB s)] } else d.step
def Dk.writeF (n : Nat) (d : Dk) (p : Int) (s : ByteArray) : Int :=
  if p < 0 ∨ n ≤ p ∨ 64 < s.size then 1 else if d.steps then 0 else 10
theorem Dk.step_lists (d : Dk) : d.step.kept = d.kept ∧ d.step.now = d.now ∧ d.step.wait = d.wait := by
  unfold Dk.step; split
  · exact ⟨rfl, rfl, rfl⟩
  · split <;> exact ⟨rfl, rfl, rfl⟩
theorem Dk.write_ok {n : Nat} {d : Dk} (h : d.ok n) (p : Int) (s : ByteArray) : (d.write n p s).ok n := by
  unfold Dk.write
  split
  · exact h
  · rename_i hp
    split
    · have k := Dk.step_ok h
      refine ⟨k.n40, k.kl, by simp [h.nl], ?_, k.fu, k.fm⟩
      intro r hr
      simp only [List.mem_append, List.mem_singleton] at hr
      rcases hr with hr | rfl
      · exact h.wl r hr
      · show p.toNat < n; omega
    · exact Dk.step_ok h

/-! ### in memory -/
theorem DkR.setN {w : World} {T Tt : TypeId} {D K N ck cn : Nat} {wv : Value} {n : Nat} {d : Dk} (h : DkR w T Tt D K N ck cn wv n d) (k : Nat) (s : ByteArray) :
    DkR (w.setCell ⟨N, k, none⟩ (.string s)) T Tt D K N ck cn wv n { d with now := d.now.set k s } := by
  have o : ∀ b, b ≠ N → (w.setCell ⟨N, k, none⟩ (.string s)).heap[b]? = w.heap[b]? := fun b hb => Below.heap_setCell _ _ _ _ hb
  exact ⟨(o D (Ne.symm h.nd)).trans h.blk, h.kept.move (o K h.kn), h.now.set k s, own_move h.wait (fun b hb => o b (fun e => h.wn (e ▸ hb))), h.kd, h.nd, h.kn, h.wd, h.wk, h.wn, h.nc⟩
theorem DkR.setW {w w1 : World} {T Tt : TypeId} {D K N ck cn : Nat} {wv v : Value} {n m : Nat} {d : Dk} (h : DkR w T Tt D K N ck cn wv n d) {l : List (Nat × ByteArray)} (hm : m = l.length) (hown : w1.ownsRow 0 Tt 2 v m (wcells l))
    (hk : Keeps (fun b => wv.ownBlock = some b) w w1) (hv : ∀ b, v.ownBlock = some b → wv.ownBlock = some b ∨ w.heap.size ≤ b) :
    DkR (w1.setCell ⟨D, 2, none⟩ v) T Tt D K N ck cn v n { d with wait := l } := by
  subst hm
  have o : ∀ b, b ≠ D → (w1.setCell ⟨D, 2, none⟩ v).heap[b]? = w1.heap[b]? := fun b hb => Below.heap_setCell _ _ _ _ hb
  have hD := hk.block D h.wd h.lt
  have vd : v.ownBlock ≠ some D := fun e => by rcases hv D e with e | e; exact h.wd e; have := h.lt; omega
  have vk : v.ownBlock ≠ some K := fun e => by rcases hv K e with e | e; exact h.wk e; have := h.kept.lt; omega
  have vn : v.ownBlock ≠ some N := fun e => by rcases hv N e with e | e; exact h.wn e; have := h.now.lt; omega
  exact ⟨block_setCell (hD.trans h.blk) _, h.kept.move ((o K h.kd).trans (hk.block K h.wk h.kept.lt)), h.now.move ((o N h.nd).trans (hk.block N h.wn h.now.lt)),
    own_move hown (fun b hb => o b (fun e => vd (e ▸ hb))), h.kd, h.nd, h.kn, vd, vk, vn, h.nc⟩
theorem infoTurn : (Tryz.prog.info? 78).map (fun i => (i.zero, i.size, i.bytes)) = some (some (.agg #[.int .i64 0, .string ByteArray.empty]), 2, 24) := by kernel_rfl

theorem dk_cast {S : Nat → Prop} {w : World} {T Tt : TypeId} {D n : Nat} {d d' : Dk} {Q : Prop} (h : DkAt S w T Tt D n d ∧ Q) (e : d = d') : DkAt S w T Tt D n d' ∧ Q := e ▸ h
theorem dwrite_fin {S : Nat → Prop} {w w5 w6 : World} {T Tt : TypeId} {D K N ck cn n k g6 cap6 : Nat} {wv : Value} {d5 : Dk} {F : ByteArray} {o : Obj} (r : DkR w5 T Tt D K N ck cn wv n d5) (k5 : Keeps S w w5)
    (s1 : S D) (s2 : S K) (s3 : S N) (s4 : ∀ k, wv.ownBlock = some k → S k)
    (hown : w6.ownsRow 0 Tt 2 (.slice (some ⟨g6, 0, none⟩) (d5.wait.length + 1) cap6) (d5.wait.length + 1) (wcells d5.wait ++ [.int .i64 k, .string F]))
    (hg : (w5.drew.alloc o).grownBy w6 wv.ownBlock) (hat : wv.ownBlock = some g6 ∨ g6 = (w5.drew.alloc o).heap.size) (hlt : g6 < w6.heap.size) (w' : World) (hw : w' = w6.setCell ⟨D, 2, none⟩ (.slice (some ⟨g6, 0, none⟩) (d5.wait.length + 1) cap6)) :
    DkAt (grow S w w') w' T Tt D n { d5 with wait := d5.wait ++ [(k, F)] } ∧ Keeps S w w' := by
  subst hw
  have e : wcells d5.wait ++ [.int .i64 k, .string F] = wcells (d5.wait ++ [(k, F)]) := by rw [wcells_append]; rfl
  rw [e] at hown
  have k6 : Keeps (fun b => wv.ownBlock = some b) w5 w6 := ⟨hg.os, hg.tape, hg.output, Nat.le_trans (by simp) hg.size, fun b hb hl => (hg.block b (by simp; omega) (Ne.symm hb)).trans (Below.heap_alloc _ _ _ hl)⟩
  have kk : Keeps S w (w6.setCell ⟨D, 2, none⟩ (.slice (some ⟨g6, 0, none⟩) (d5.wait.length + 1) cap6)) := (k5.trans (k6.mono s4)).setCell (p := ⟨D, 2, none⟩) s1 _
  refine ⟨⟨K, N, ck, cn, _, r.setW (by simp) hown k6 ?_, .inl s1, .inl s2, .inl s3, ?_⟩, kk⟩
  · intro b hb
    obtain rfl : g6 = b := by simpa [Value.ownBlock] using hb
    rcases hat with h | h
    · exact .inl h
    · right; rw [h]; simp
  · intro b hb
    obtain rfl : g6 = b := by simpa [Value.ownBlock] using hb
    rcases hat with h | h
    · exact .inl (s4 _ h)
    · right
      refine ⟨?_, by simpa [World.setCell] using hlt⟩
      rw [h]
      have := k5.size
      simp
      omega

set_option maxRecDepth 100000 in
set_option maxHeartbeats 1000000 in
theorem dwrite_any (S : Nat → Prop) (w : World) (D n : Nat) (d : Dk) (p : Int) (s : ByteArray) (h : DkAt S w 65 78 D n d) (ok : d.ok n) (hwl : d.wait.length ≤ 1000) :
    Calls Tryz.prog 29 #[.pointer (some ⟨D, 0, none⟩), .int .i64 p, .string s] w fun e w' => e = .returned (errV (d.writeF n p s)) ∧ DkAt (grow S w w') w' 65 78 D n (d.write n p s) ∧ Keeps S w w' := by
  obtain ⟨K, N, ck, cn, wv, r, s1, s2, s3, s4⟩ := h
  have R := Lib.hid r
  obtain ⟨⟨c0, c1, c2, c3, c4⟩, f0, f1, f2, f3, f4⟩ := r.cells
  have OK := Lib.hid ok
  have S1 := Lib.hid s1
  have S2 := Lib.hid s2
  have S3 := Lib.hid s3
  have S4 := Lib.hid s4
  have same : ∀ (w' : World), Below w.heap.size w w' → DkAt (grow S w w') w' 65 78 D n d := fun w' b => ⟨K, N, ck, cn, wv, R.out.below b, .inl S1.out, .inl S2.out, .inl S3.out, fun k hk => .inl (S4.out k hk)⟩
  have SAME := Lib.hid same
  clear r s1 s2 s3 s4 same ok
  by_cases h1 : p < 0
  · have e1 : d.writeF n p s = 1 := if_pos (.inl h1)
    have e2 : d.write n p s = d := if_pos (.inl h1)
    rw [e1, e2]
    clear e1 e2
    go_enter Tryz.func29, Tryz.ntmps29
    go_wp2
    go_ret
    exact ⟨rfl, SAME.out _ (Below.refl _ _), Keeps.refl _ _⟩
  by_cases h2 : (n : Int) ≤ p
  · have e1 : d.writeF n p s = 1 := if_pos (.inr (.inl h2))
    have e2 : d.write n p s = d := if_pos (.inr (.inl h2))
    rw [e1, e2]
    clear e1 e2
    go_enter Tryz.func29, Tryz.ntmps29
    go_wp2
    go_ret
    exact ⟨rfl, SAME.out _ (Below.refl _ _), Keeps.refl _ _⟩
  by_cases h3 : (64 : Int) < s.size
  · have e1 : d.writeF n p s = 1 := if_pos (.inr (.inr (by omega)))
    have e2 : d.write n p s = d := if_pos (.inr (.inr (by omega)))
    rw [e1, e2]
    clear e1 e2
    go_enter Tryz.func29, Tryz.ntmps29
    go_wp2
    go_ret
    exact ⟨rfl, SAME.out _ (Below.refl _ _), Keeps.refl _ _⟩
  have hno : ¬ (p < 0 ∨ n ≤ p ∨ 64 < s.size) := by omega
  have e1 : d.writeF n p s = if d.steps then 0 else 10 := if_neg hno
  have e2 : d.write n p s = if d.steps then { d.step with now := d.now.set p.toNat (fullB s), wait := d.wait ++ [(p.toNat, fullB s)] } else d.step := if_neg hno
  rw [e1, e2]
  clear e1 e2 hno
  have HSZ := Lib.hid (show s.size ≤ 64 by omega)
  obtain ⟨k, rfl⟩ : ∃ k : Nat, p = k := ⟨p.toNat, by omega⟩
  have HK := Lib.hid (show k < n by omega)
  have STEP := Lib.hid (step_any w D K N ck cn n wv d R.out ⟨OK.out.fu, OK.out.fm⟩)
  obtain ⟨W, hW⟩ : ∃ W, d.wait.length = W := ⟨_, rfl⟩
  have HWL := Lib.hid (show W ≤ 1000 by omega)
  have HW := Lib.hid hW
  have q1 : decide ((k : Int) < 0) = false := by rw [decide_eq_false_iff_not]; omega
  have q2 : decide (n ≤ k) = false := by rw [decide_eq_false_iff_not]; omega
  have q3 : decide ((64 : Int) < (s.size : Int)) = false := by rw [decide_eq_false_iff_not]; omega
  have hkn : (k : Int) < (n : Int) := by omega
  have hk0 : (0 : Int) ≤ (k : Int) := by omega
  clear h1 h2 h3 hwl hW
  obtain ⟨B, hB⟩ : ∃ B, d.steps = B := ⟨_, rfl⟩
  rw [hB] at STEP ⊢
  clear hB
  go_enter Tryz.func29, Tryz.ntmps29
  go_wp2_with fail
  refine STEP.out.mono ?_
  clear STEP c0 c1 c2 c3 c4 f0 f1 f2 f3 f4
  rintro e w1 ⟨he, r1, k1⟩
  have R1 := Lib.hid r1
  have K1 := Lib.hid k1
  cases B
  · obtain rfl : e = .returned (.iface 58 (.int .i64 10)) := he
    clear r1 k1
    go_wp2
    go_ret
    exact ⟨rfl, ⟨K, N, ck, cn, wv, R1.out, .inl S1.out, .inl S2.out, .inl S3.out, fun b hb => .inl (S4.out b hb)⟩, K1.out.mono (fun b hb => hb ▸ S1.out)⟩
  obtain rfl : e = .returned .nilIface := he
  have DW := Lib.hid (show { d.step with now := d.step.now.set k (fullB s), wait := d.step.wait ++ [(k, fullB s)] } = (if true = true then { d.step with now := d.now.set (k : Int).toNat (fullB s), wait := d.wait ++ [((k : Int).toNat, fullB s)] } else d.step) from by rw [if_pos rfl, (Dk.step_lists d).2.1, (Dk.step_lists d).2.2]; rfl)
  obtain ⟨⟨-, c1, -, -, -⟩, -⟩ := r1.cells
  obtain ⟨kn1, fn1⟩ := r1.now.cell (i := k) (by rw [(Dk.step_lists d).2.1, OK.out.nl]; exact HK.out)
  have hnlt := r1.now.lt
  have FULL := Lib.hid (fun w => full_any s w HSZ.out)
  have KEEP := Lib.hid (show ∀ w', Keeps (· = N) w1 w' → Keeps (· = N) w1 w' ∧ w'.cell? ⟨D, 1, none⟩ = some (.slice (some ⟨N, 0, none⟩) n cn) from fun w' kp => ⟨kp, (kp.cell (Ne.symm R1.out.nd) R1.out.lt).trans c1⟩)
  have KEEP2 := Lib.hid (show ∀ w', Keeps (· = N) w1 w' → Keeps (· = N) w1 (w'.setCell ⟨N, k, none⟩ (.string (fullB s))) ∧ (w'.setCell ⟨N, k, none⟩ (.string (fullB s))).cell? ⟨D, 1, none⟩ = some (.slice (some ⟨N, 0, none⟩) n cn) from fun w' kp => KEEP.out _ (kp.setCell rfl _))
  clear r1 k1
  go_wp2
  go_region_held3 (fun w' => Keeps (· = N) w1 w' ∧ w'.cell? ⟨D, 1, none⟩ = some (.slice (some ⟨N, 0, none⟩) n cn))
    (first | (with_reducible refine KEEP2.out _ ?_; exact And.left (by assumption)) | (refine KEEP.out _ ?_; first | exact (Keeps.refl _ _).drew | exact Keeps.trans (And.left (by assumption)) (Keeps.of_below (by assumption))))
    (first | ((with_reducible refine (FULL.out _).mono ?_); rintro e w3 ⟨rfl, b3⟩; have kn3 := (b3.cell (p := ⟨N, k, none⟩) hnlt).trans kn1; have fn3 := (b3.frozen (p := ⟨N, k, none⟩) hnlt).trans fn1))
  have b3' : Below w1.heap.size w1 w3 := (Below.refl _ w1).drew.trans (by assumption)
  obtain ⟨w5, hw5⟩ : ∃ w5, w5 = w3.setCell ⟨N, k, none⟩ (.string (fullB s)) := ⟨_, rfl⟩
  rw [← hw5]
  have kk : Keeps (· = N) w1 w5 := hw5 ▸ (Keeps.of_below (S := (· = N)) b3').setCell (p := ⟨N, k, none⟩) rfl _
  have K5 := Lib.hid ((K1.out.mono (fun b hb => hb ▸ S1.out)).trans (kk.mono (fun b hb => hb ▸ S3.out)))
  have r5 : DkR w5 65 78 D K N ck cn wv n { d.step with now := d.step.now.set k (fullB s) } := hw5 ▸ ((R1.out.below b3').setN k (fullB s))
  clear hw5 kk b3' K1 R1 KEEP KEEP2 FULL kn1 fn1 hnlt c1
  clear b3 kn3 fn3
  obtain ⟨⟨-, c1, c2, -, -⟩, -, -, f2, -⟩ := r5.cells
  obtain ⟨kn5, -⟩ := r5.now.cell (i := k) (by rw [List.length_set, (Dk.step_lists d).2.1, OK.out.nl]; exact HK.out)
  simp only [List.getElem_set_self] at kn5
  have R5 := Lib.hid r5
  clear r5
  obtain ⟨i0, hi, hz0, hz1, hz2⟩ := info_parts infoTurn
  have AT6 := Lib.hid (show ∀ (o : Obj) (w6 : World), (w5.drew.alloc o).grownBy w6 wv.ownBlock → w6.cell? ⟨D, 2, none⟩ = some wv ∧ w6.frozen? ⟨D, 2, none⟩ = false from fun o w6 hg => by
    have hb : w6.heap[D]? = w5.heap[D]? := (hg.block D (by have := R5.out.lt; simp; omega) (Ne.symm R5.out.wd)).trans (Below.heap_alloc _ _ _ R5.out.lt)
    simp [World.cell?, World.frozen?, hb, R5.out.blk])
  have a2 : ∀ o, (w5.alloc o).cell? ⟨D, 2, none⟩ = some wv := fun o => (World.cell?_alloc_some _ _ _ (by rw [c2]; rfl)).trans c2
  have a1 : ∀ o, (w5.alloc o).cell? ⟨D, 1, none⟩ = some (.slice (some ⟨N, 0, none⟩) n cn) := fun o => (World.cell?_alloc_some _ _ _ (by rw [c1]; rfl)).trans c1
  have ak : ∀ o, (w5.alloc o).cell? ⟨N, k, none⟩ = some (.string (fullB s)) := fun o => (World.cell?_alloc_some _ _ _ (by rw [kn5]; rfl)).trans kn5
  go_wp2
  go_region_law (first | (refine step_append_lies _ (by rfl) _ _ _ (by rfl) 0 78 i0 _ 2 24 Tryz.underlying63 hi hz0 hz1 hz2 rfl (by omega) wv d.step.wait.length (wcells d.step.wait) (by rfl) (World.ownsRow.alloc R5.out.wait _) ⟨w5.heap.size, 0, none⟩ 1 1 [.int .i64 k, .string (fullB s)] (by rfl) (by rfl) (World.news_of_block (heap_alloc_new _ _)) (wcells_one [(k, fullB s)]) (by omega) (by rw [(Dk.step_lists d).2.2, HW.out]; have := HWL.out; unfold maxLen; omega) (by rw [(Dk.step_lists d).2.2, HW.out]; have := HWL.out; omega) (by omega) _ rfl ?_; intro g6 cap6 w6 hown6 hgrow6 hat6 hlt6; have kd6 := (AT6.out _ _ hgrow6).1; have fd6 := (AT6.out _ _ hgrow6).2))
  all_goals
    have FIN := Lib.hid (dwrite_fin R5.out K5.out S1.out S2.out S3.out S4.out hown6 hgrow6 hat6 hlt6 _ rfl)
    clear hown6 hgrow6 hat6 hlt6 a1 a2 ak
    go_wp2
    go_ret
    exact ⟨rfl, dk_cast FIN.out DW.out⟩
end Go.Proofs.YtkedmlkbepjnfaaGreatDoor
