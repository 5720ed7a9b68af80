/-
  Keepers and falls: plain laws.
-/
import Derived.Test.YtkedmlkbepjnfaaGreatDoorKpFmt
namespace Go.Proofs.YtkedmlkbepjnfaaGreatDoor
open Go.RowKit

structure KG (n : Nat) (k : Kp) : Prop where
  kd : KD n k.d k.num k.ep k.s
  sz : Sz k.d
theorem KD.arm {n : Nat} {d : Dk} {num ep : Int} {s : St} (h : KD n d num ep s) {f : Int} (h0 : -1 ≤ f) (h1 : f ≤ 9223372036854775807) : KD n { d with fuse := f } num ep s :=
  ⟨⟨h.ok.n40, h.ok.kl, h.ok.nl, h.ok.wl, h0, h1⟩, h.n6, h.up, h.wait, h.same, h.p1, h.place, h.other⟩
theorem KD.restart {n : Nat} {d : Dk} {num ep : Int} {s : St} (h : KD n d num ep s) (keep : Int) : KD n (d.restart keep) num ep s := by
  rw [restart_of h.wait]
  have hl : d.kept.length = n := h.ok.kl
  exact h.kd_of hl (h.same ▸ h.place) (h.same ▸ h.other) (by omega)
theorem live_restart (d : Dk) (keep : Int) : Live (d.restart keep) := ⟨rfl, rfl⟩
theorem write_wait (n : Nat) (d : Dk) (p : Int) (s : ByteArray) : (d.write n p s).wait.length ≤ d.wait.length + 1 := by
  have e := Dk.step_lists d
  unfold Dk.write
  split
  · omega
  · split
    · simp
    · rw [e.2.2]; omega
theorem flush_wait (d : Dk) : d.flush.wait.length ≤ d.wait.length := by
  have e := Dk.step_lists d
  unfold Dk.flush
  split
  · simp
  · rw [e.2.2]; omega
theorem lay_wait (n a : Nat) (d : Dk) (A B : ByteArray) : (layD n d a A B).1.wait.length ≤ d.wait.length + 3 := by
  unfold layD
  dsimp only
  have h1 := write_wait n d ((2 * a : Nat) : Int) ⟨#[]⟩
  obtain ⟨d1, hd1⟩ : ∃ x, x = d.write n ((2 * a : Nat) : Int) ⟨#[]⟩ := ⟨_, rfl⟩
  rw [← hd1] at h1 ⊢
  have h2 := flush_wait d1
  obtain ⟨d2, hd2⟩ : ∃ x, x = d1.flush := ⟨_, rfl⟩
  rw [← hd2] at h2 ⊢
  have h3 := write_wait n d2 ((2 * a + 1 : Nat) : Int) B
  obtain ⟨d3, hd3⟩ : ∃ x, x = d2.write n ((2 * a + 1 : Nat) : Int) B := ⟨_, rfl⟩
  rw [← hd3] at h3 ⊢
  have h4 := flush_wait d3
  obtain ⟨d4, hd4⟩ : ∃ x, x = d3.flush := ⟨_, rfl⟩
  rw [← hd4] at h4 ⊢
  have h5 := write_wait n d4 ((2 * a : Nat) : Int) A
  obtain ⟨d5, hd5⟩ : ∃ x, x = d4.write n ((2 * a : Nat) : Int) A := ⟨_, rfl⟩
  rw [← hd5] at h5 ⊢
  have h6 := flush_wait d5
  split
  · show d1.wait.length ≤ _; omega
  split
  · show d2.wait.length ≤ _; omega
  split
  · show d3.wait.length ≤ _; omega
  split
  · show d4.wait.length ≤ _; omega
  split
  · show d5.wait.length ≤ _; omega
  split
  · show d5.flush.wait.length ≤ _; omega
  · show d5.flush.wait.length ≤ _; omega
theorem keep_good {n : Nat} {k : Kp} {ep : Int} {s : St} (he : 1 ≤ ep ∧ ep ≤ 1000000) (hs : stateFault s = 0) : k.keep n ep s = k.lay n ep s := by
  unfold Kp.keep
  rw [if_neg (by omega), if_neg (fun h => h hs)]
/-- something is kept, or the disk fell at that -/
theorem keep_law {n : Nat} {k : Kp} (h : KG n k) (hn : k.num < 1000000000000000) {ep : Int} {s : St} (he : 1 ≤ ep ∧ ep ≤ 1000000) (hs : stateFault s = 0) :
    ((k.keep n ep s).2 = 0 ∧ KG n (k.keep n ep s).1 ∧ (k.keep n ep s).1.num = k.num + 1 ∧ (k.keep n ep s).1.ep = ep ∧ (k.keep n ep s).1.s = s) ∨
    ((k.keep n ep s).2 = 10 ∧ Fell n (k.keep n ep s).1.d k.num k.ep k.s ep s ∧ Sz (k.keep n ep s).1.d ∧ (k.keep n ep s).1.d.wait.length ≤ 3) := by
  rw [keep_good he hs]
  have hg : Good s := (good_iff _).1 hs
  have L := lay_law h.kd hn he hg
  have W := lay_wait n (par (k.num + 1)) k.d (kA (k.num + 1) ep s) (kB (k.num + 1) ep s)
  have Z : Sz (layD n k.d (par (k.num + 1)) (kA (k.num + 1) ep s) (kB (k.num + 1) ep s)).1 := Sz.lay h.sz
  rw [h.kd.wait] at W
  unfold Kp.lay
  dsimp only at L ⊢
  obtain ⟨r, hr⟩ : ∃ r, layD n k.d (par (k.num + 1)) (kA (k.num + 1) ep s) (kB (k.num + 1) ep s) = r := ⟨_, rfl⟩
  rw [hr] at L W Z ⊢
  by_cases h2 : r.2 = true
  · rw [if_pos h2]
    exact .inl ⟨rfl, ⟨L.2.1 h2, Z⟩, rfl, rfl, rfl⟩
  · rw [if_neg h2]
    exact .inr ⟨rfl, L.2.2 (by simpa using h2), Z, by simpa using W⟩
/-- a live disk doesn't fall at that -/
theorem keep_live {n : Nat} {k : Kp} (h : KG n k) (hl : Live k.d) (hn : k.num < 1000000000000000) {ep : Int} {s : St} (he : 1 ≤ ep ∧ ep ≤ 1000000) (hs : stateFault s = 0) :
    (k.keep n ep s).2 = 0 ∧ KG n (k.keep n ep s).1 ∧ (k.keep n ep s).1.num = k.num + 1 ∧ (k.keep n ep s).1.ep = ep ∧ (k.keep n ep s).1.s = s ∧ Live (k.keep n ep s).1.d := by
  have LL := layD_live (n := n) hl.1 hl.2 (par (k.num + 1)) (kA (k.num + 1) ep s) (kB (k.num + 1) ep s)
  have hk : k.keep n ep s = (⟨(layD n k.d (par (k.num + 1)) (kA (k.num + 1) ep s) (kB (k.num + 1) ep s)).1, k.num + 1, ep, s⟩, 0) := by
    rw [keep_good he hs]
    unfold Kp.lay
    dsimp only
    rw [if_pos LL.1]
  rcases keep_law h hn he hs with ⟨h1, h2, h3, h4, h5⟩ | ⟨h1, -⟩
  · refine ⟨h1, h2, h3, h4, h5, ?_⟩
    have hu := h2.kd.up
    rw [hk] at hu ⊢
    exact ⟨LL.2, hu⟩
  · rw [hk] at h1
    have h2 : (0 : Int) = 10 := h1
    omega
end Go.Proofs.YtkedmlkbepjnfaaGreatDoor
