/-
  Contracts over one invariant: a keeper over its disk; plain laws of falls; Kept; what the walks keep.
-/
import Derived.Test.YtkedmlkbepjnfaaGreatDoorKpBest
import Derived.Test.YtkedmlkbepjnfaaGreatDoorKpFmt
import Derived.Test.YtkedmlkbepjnfaaGreatDoorDiskT
import Derived.Test.YtkedmlkbepjnfaaGreatDoorSameErr
namespace Go.Proofs.YtkedmlkbepjnfaaGreatDoor
open Go.RowKit

/-- a keeper K over a disk D, all made since the world w; the blocks of X are others' -/
def KI (n : Nat) (w : World) (X : Nat → Prop) (D K : Nat) (k : Kp) (wx : World) : Prop :=
  ∃ S a cap, KpR S wx K D n a cap k ∧ (∀ b, S b → w.heap.size ≤ b) ∧ w.heap.size ≤ K ∧ Below w.heap.size w wx ∧ (∀ b, X b → b < wx.heap.size ∧ ¬ S b ∧ b ≠ K) ∧ ∀ b o, a = some ⟨b, o, none⟩ → k.s.regs ≠ [] → ¬ X b
/-- the blocks of X are as they were -/
def Same (X : Nat → Prop) (w w' : World) : Prop := ∀ b, X b → w'.heap[b]? = w.heap[b]?
section
variable {n : Nat} {w wx w' : World} {X : Nat → Prop} {D K : Nat} {k : Kp}
theorem KI.below (h : KI n w X D K k wx) : Below w.heap.size w wx := by obtain ⟨_, _, _, _, _, _, h, _⟩ := h; exact h
theorem KI.lt (h : KI n w X D K k wx) : ∀ b, X b → b < wx.heap.size := by obtain ⟨_, _, _, _, _, _, _, h, _⟩ := h; exact fun b hb => (h b hb).1
theorem KI.over (h : KI n w X D K k wx) (b : Below wx.heap.size wx w') : KI n w X D K k w' := by
  obtain ⟨S, a, cap, kr, lo, kb, bl, hx, ax⟩ := h
  exact ⟨S, a, cap, kr.below b, lo, kb, bl.trans (b.mono bl.size), fun c hc => ⟨Nat.lt_of_lt_of_le (hx c hc).1 b.size, (hx c hc).2⟩, ax⟩
theorem KI.drew (h : KI n w X D K k wx) : KI n w X D K k wx.drew := h.over (Below.refl _ _).drew
/-- a block that is new is another's -/
theorem KI.more (h : KI n w X D K k wx) (o : Obj) : KI n w (fun b => X b ∨ b = wx.heap.size) D K k (wx.alloc o) := by
  obtain ⟨S, a, cap, kr, lo, kb, bl, hx, ax⟩ := h
  have hK := (Array.getElem?_eq_some_iff.1 kr.blk).1
  have hz : (wx.alloc o).heap.size = wx.heap.size + 1 := by simp
  refine ⟨S, a, cap, kr.below (bal wx o), lo, kb, bl.trans ((bal wx o).mono bl.size), fun c hc => ?_, fun b q e hn hX => ?_⟩
  · rcases hc with hc | rfl
    · exact ⟨by have := (hx c hc).1; omega, (hx c hc).2⟩
    · exact ⟨by omega, fun e => by have := kr.lt _ e; omega, by omega⟩
  · subst e
    rcases hX with hX | hX
    · exact ax b q rfl hn hX
    · have := kr.str.blt hn; omega
/-- a block of X turns -/
theorem KI.set (h : KI n w X D K k wx) (kp : Keeps X wx w') (hX : ∀ b, X b → w.heap.size ≤ b) : KI n w X D K k w' := by
  obtain ⟨S, a, cap, kr, lo, kb, bl, hx, ax⟩ := h
  have hK := (Array.getElem?_eq_some_iff.1 kr.blk).1
  exact ⟨S, a, cap, ⟨(kp.block K (fun e => (hx K e).2.2 rfl) hK).trans kr.blk, kr.dk.keeps kp (fun b e q => (hx b q).2.1 e), kr.nk, fun b e => Nat.lt_of_lt_of_le (kr.lt b e) kp.size, kr.str.keeps kp ax, kr.ap⟩, lo, kb, bl.trans (kp.below bl.size hX),
    fun c hc => ⟨Nat.lt_of_lt_of_le (hx c hc).1 kp.size, (hx c hc).2⟩, ax⟩
theorem KI.disk {S : Nat → Prop} {a : Option Addr} {cap : Nat} {d : Dk} (kr : KpR S wx K D n a cap k) (lo : ∀ b, S b → w.heap.size ≤ b) (kb : w.heap.size ≤ K) (bl : Below w.heap.size w wx) (hx : ∀ b, X b → b < wx.heap.size ∧ ¬ S b ∧ b ≠ K) (ax : ∀ b o, a = some ⟨b, o, none⟩ → k.s.regs ≠ [] → ¬ X b)
    (hd : DkAt S w' 65 78 D n d) (kp : Keeps S wx w') : KI n w X D K { k with d := d } w' ∧ Same X wx w' := by
  refine ⟨⟨_, a, cap, kr.next (hd.mono (fun _ e => .inl e)) kp, fun b e => ?_, kb, bl.trans (kp.below bl.size lo), fun c hc => ⟨Nat.lt_of_lt_of_le (hx c hc).1 kp.size, fun e => ?_, (hx c hc).2.2⟩, ax⟩, fun c hc => kp.block c (hx c hc).2.1 (hx c hc).1⟩
  · rcases e with e | e
    · exact lo b e
    · exact Nat.le_trans bl.size e.1
  · rcases e with e | e
    · exact (hx c hc).2.1 e
    · have := (hx c hc).1; omega
end

theorem keepI (n : Nat) (w wx : World) (X : Nat → Prop) (D K : Nat) (k : Kp) (a' : Option Addr) (cap' : Nat) (ep : Int) (s : St) (h : KI n w X D K k wx) (ok : k.d.ok n) (hwl : k.d.wait.length ≤ 900) (n6 : 6 ≤ n)
    (h0 : 0 ≤ k.num) (h1 : k.num < 1000000000000000) (hr : StR wx s a') (t : Tabs w) :
    Calls Tryz.prog 12 #[.pointer (some ⟨K, 0, none⟩), .int .i64 ep, stV s a' cap'] wx fun e w' => e = .returned (errV (k.keep n ep s).2) ∧ KI n w X D K (k.keep n ep s).1 w' ∧ Same X wx w' := by
  obtain ⟨S, a, cap, kr, lo, kb, bl, hx, ax⟩ := h
  refine (keep_any S wx K D n a a' cap cap' k ep s kr ok hwl n6 h0 h1 hr (t.on bl)).mono ?_
  rintro e w' ⟨rfl, S', a2, cap2, kr2, hs, kk, ha⟩
  have hsz := bl.size
  refine ⟨rfl, ⟨S', a2, cap2, kr2, fun b hb => ?_, kb, bl.trans (kk.below bl.size (fun q e => ?_)), fun c hc => ⟨Nat.lt_of_lt_of_le (hx c hc).1 kk.size, fun e => ?_, (hx c hc).2.2⟩, fun b o e hn hX => ?_⟩, fun c hc => kk.block c (fun e => ?_) (hx c hc).1⟩
  · rcases hs b hb with e | e
    · exact lo b e
    · omega
  · rcases e with e | e
    · exact lo q e
    · omega
  · rcases hs c e with e | e
    · exact (hx c hc).2.1 e
    · have := (hx c hc).1; omega
  · have := (hx b hX).1
    rcases ha with ⟨ha, hq⟩ | ha
    · exact ax b o (ha ▸ e) (hq ▸ hn) hX
    · have := ha b o e; omega
  · rcases e with e | e
    · exact (hx c hc).2.1 e
    · exact (hx c hc).2.2 e
theorem armI (n : Nat) (w wx : World) (X : Nat → Prop) (D K : Nat) (k : Kp) (p : Int) (h : KI n w X D K k wx) :
    Calls Tryz.prog 17 #[.pointer (some ⟨D, 0, none⟩), .int .i64 p] wx fun e w' => e = .returned (.tuple #[]) ∧ KI n w X D K { k with d := { k.d with fuse := max p (-1) } } w' ∧ Same X wx w' := by
  obtain ⟨S, a, cap, kr, lo, kb, bl, hx, ax⟩ := h
  refine (darm_any S wx D n k.d p kr.dk).mono ?_
  rintro e w' ⟨rfl, hd, kp⟩
  exact ⟨rfl, KI.disk kr lo kb bl hx ax hd kp⟩
theorem restartI (n : Nat) (w wx : World) (X : Nat → Prop) (D K : Nat) (k : Kp) (keep : Int) (h : KI n w X D K k wx) (ok : k.d.ok n) (hwl : k.d.wait.length ≤ 1000) :
    Calls Tryz.prog 20 #[.pointer (some ⟨D, 0, none⟩), .int .u64 keep] wx fun e w' => e = .returned (.tuple #[]) ∧ KI n w X D K { k with d := k.d.restart keep } w' ∧ Same X wx w' := by
  obtain ⟨S, a, cap, kr, lo, kb, bl, hx, ax⟩ := h
  refine (drestart_any S wx D n k.d keep kr.dk ok hwl).mono ?_
  rintro e w' ⟨rfl, hd, kp⟩
  exact ⟨rfl, KI.disk kr lo kb bl hx ax hd kp⟩

theorem best_kd {n : Nat} {d : Dk} {num ep : Int} {s : St} (h : KD n d num ep s) : ∃ f : Nat → Seen, (∀ k, k < 2 → Lk d k (f k).m (f k).e (f k).s) ∧ best f 2 = ⟨num, ep, s⟩ := by
  have p1 := h.p1
  rcases h.two with ⟨m, e, s', h0, h1, hlt⟩ | ⟨m, e, s', h0, h1, hlt⟩
  · refine ⟨fun k => if k = 0 then ⟨num, ep, s⟩ else ⟨m, e, s'⟩, fun k hk => ?_, ?_⟩
    · rcases (by omega : k = 0 ∨ k = 1) with rfl | rfl
      · exact h0
      · exact h1
    · have e1 : best (fun k => if k = 0 then (⟨num, ep, s⟩ : Seen) else ⟨m, e, s'⟩) 1 = ⟨num, ep, s⟩ := if_pos (show (0 : Int) < num by omega)
      unfold best
      rw [e1]
      exact if_neg (show ¬ num < m by omega)
  · refine ⟨fun k => if k = 0 then ⟨m, e, s'⟩ else ⟨num, ep, s⟩, fun k hk => ?_, ?_⟩
    · rcases (by omega : k = 0 ∨ k = 1) with rfl | rfl
      · exact h0
      · exact h1
    · have e1 : (best (fun k => if k = 0 then (⟨m, e, s'⟩ : Seen) else ⟨num, ep, s⟩) 1).m < num := by
        show (if (0 : Int) < m then (⟨m, e, s'⟩ : Seen) else nothing).m < num
        split
        · exact hlt
        · show (0 : Int) < num; omega
      show (if (best (fun k => if k = 0 then (⟨m, e, s'⟩ : Seen) else ⟨num, ep, s⟩) 1).m < num then _ else _) = _
      rw [if_pos e1]
      rfl
theorem open_kd (S : Nat → Prop) (w : World) (D n : Nat) (d : Dk) (num ep : Int) (s : St) (h : DkAt S w 65 78 D n d) (lt : ∀ b, S b → b < w.heap.size) (hk : KD n d num ep s) (sz : Sz d) (t : Tabs w) :
    Calls Tryz.prog 9 #[.pointer (some ⟨D, 0, none⟩)] w fun e w' => ∃ K a cap, e = .returned (.tuple #[.pointer (some ⟨K, 0, none⟩), .nilIface]) ∧ KpR S w' K D n a cap ⟨d, num, ep, s⟩ ∧ w.heap.size ≤ K ∧ Below w.heap.size w w' ∧ ∀ b o, a = some ⟨b, o, none⟩ → w.heap.size ≤ b := by
  obtain ⟨f, hf, hb⟩ := best_kd hk
  refine (open_best S w D n d f h lt hk.ok hk.up sz hk.n6 hf t).mono ?_
  intro e w' hp
  rw [hb] at hp
  exact hp.2 (by have := hk.p1; show num ≠ 0; omega)
theorem openI (n : Nat) (w wx : World) (X : Nat → Prop) (D K : Nat) (k : Kp) (num ep : Int) (s : St) (h : KI n w X D K k wx) (hk : KD n k.d num ep s) (sz : Sz k.d) (t : Tabs w) :
    Calls Tryz.prog 9 #[.pointer (some ⟨D, 0, none⟩)] wx fun e w' => ∃ K', e = .returned (.tuple #[.pointer (some ⟨K', 0, none⟩), .nilIface]) ∧ KI n w X D K' ⟨k.d, num, ep, s⟩ w' ∧ Below wx.heap.size wx w' := by
  obtain ⟨S, a, cap, kr, lo, kb, bl, hx, ax⟩ := h
  refine (open_kd S wx D n k.d num ep s kr.dk kr.lt hk sz (t.on bl)).mono ?_
  rintro e w' ⟨K', a', cap', rfl, kr', hK, b, fr⟩
  exact ⟨K', rfl, ⟨S, a', cap', kr', lo, Nat.le_trans bl.size hK, bl.trans (b.mono bl.size), fun c hc => ⟨Nat.lt_of_lt_of_le (hx c hc).1 b.size, (hx c hc).2.1, by have := (hx c hc).1; omega⟩, fun c o e _ hX => by have := (hx c hX).1; have := fr c o e; omega⟩, b⟩
theorem stateI (n : Nat) (w wx : World) (X : Nat → Prop) (D K : Nat) (k : Kp) (h : KI n w X D K k wx) (hl : k.s.regs.length ≤ 1000) :
    Calls Tryz.prog 14 #[.pointer (some ⟨K, 0, none⟩)] wx fun e w' => ∃ a2 cap2, e = .returned (stV k.s a2 cap2) ∧ StR w' k.s a2 ∧ Below wx.heap.size wx w' := by
  obtain ⟨S, a, cap, kr, lo, kb, bl, hx, ax⟩ := h
  refine (kstate_any S wx K D n a cap k kr hl).mono ?_
  rintro e w' ⟨a2, cap2, rfl, hs, b, -⟩
  exact ⟨a2, cap2, rfl, hs, b⟩
theorem epochI (n : Nat) (w wx : World) (X : Nat → Prop) (D K : Nat) (k : Kp) (h : KI n w X D K k wx) :
    Calls Tryz.prog 15 #[.pointer (some ⟨K, 0, none⟩)] wx fun e w' => e = .returned (.int .i64 k.ep) ∧ w' = wx := by
  obtain ⟨S, a, cap, kr, lo, kb, bl, hx, ax⟩ := h
  exact kepoch_any S wx K D n a cap k kr

structure KG (n : Nat) (k : Kp) : Prop where
  kd : KD n k.d k.num k.ep k.s
  sz : Sz k.d
theorem KD.arm {n : Nat} {d : Dk} {num ep : Int} {s : St} (h : KD n d num ep s) {f : Int} (h0 : -1 ≤ f) (h1 : f ≤ 9223372036854775807) : KD n { d with fuse := f } num ep s :=
  ⟨⟨h.ok.n40, h.ok.kl, h.ok.nl, h.ok.wl, h0, h1⟩, h.n6, h.up, h.wait, h.same, h.p1, h.place, h.other⟩
theorem KD.restart {n : Nat} {d : Dk} {num ep : Int} {s : St} (h : KD n d num ep s) (keep : Int) : KD n (d.restart keep) num ep s := by
  rw [restart_of h.wait]
  have hl : d.kept.length = n := h.ok.kl
  exact h.kd_of hl (h.same ▸ h.place) (h.same ▸ h.other) (by omega)
theorem live_restart (d : Dk) (keep : Int) : Live (d.restart keep) := ⟨rfl, rfl⟩
theorem write_wait (n : Nat) (d : Dk) (p : Int) (s : ByteArray) : (d.write n p s).wait.length ≤ d.wait.length + 1 := by
  have e := Dk.step_lists d
  unfold Dk.write
  split
  · omega
  · split
    · simp
    · rw [e.2.2]; omega
theorem flush_wait (d : Dk) : d.flush.wait.length ≤ d.wait.length := by
  have e := Dk.step_lists d
  unfold Dk.flush
  split
  · simp
  · rw [e.2.2]; omega
theorem lay_wait (n a : Nat) (d : Dk) (A B : ByteArray) : (layD n d a A B).1.wait.length ≤ d.wait.length + 3 := by
  unfold layD
  dsimp only
  have h1 := write_wait n d ((2 * a : Nat) : Int) ⟨#[]⟩
  obtain ⟨d1, hd1⟩ : ∃ x, x = d.write n ((2 * a : Nat) : Int) ⟨#[]⟩ := ⟨_, rfl⟩
  rw [← hd1] at h1 ⊢
  have h2 := flush_wait d1
  obtain ⟨d2, hd2⟩ : ∃ x, x = d1.flush := ⟨_, rfl⟩
  rw [← hd2] at h2 ⊢
  have h3 := write_wait n d2 ((2 * a + 1 : Nat) : Int) B
  obtain ⟨d3, hd3⟩ : ∃ x, x = d2.write n ((2 * a + 1 : Nat) : Int) B := ⟨_, rfl⟩
  rw [← hd3] at h3 ⊢
  have h4 := flush_wait d3
  obtain ⟨d4, hd4⟩ : ∃ x, x = d3.flush := ⟨_, rfl⟩
  rw [← hd4] at h4 ⊢
  have h5 := write_wait n d4 ((2 * a : Nat) : Int) A
  obtain ⟨d5, hd5⟩ : ∃ x, x = d4.write n ((2 * a : Nat) : Int) A := ⟨_, rfl⟩
  rw [← hd5] at h5 ⊢
  have h6 := flush_wait d5
  split
  · show d1.wait.length ≤ _; omega
  split
  · show d2.wait.length ≤ _; omega
  split
  · show d3.wait.length ≤ _; omega
  split
  · show d4.wait.length ≤ _; omega
  split
  · show d5.wait.length ≤ _; omega
  split
  · show d5.flush.wait.length ≤ _; omega
  · show d5.flush.wait.length ≤ _; omega
theorem keep_good {n : Nat} {k : Kp} {ep : Int} {s : St} (he : 1 ≤ ep ∧ ep ≤ 1000000) (hs : stateFault s = 0) : k.keep n ep s = k.lay n ep s := by
  unfold Kp.keep
  rw [if_neg (by omega), if_neg (fun h => h hs)]
/-- something is kept, or the disk fell at that -/
theorem keep_law {n : Nat} {k : Kp} (h : KG n k) (hn : k.num < 1000000000000000) {ep : Int} {s : St} (he : 1 ≤ ep ∧ ep ≤ 1000000) (hs : stateFault s = 0) :
    ((k.keep n ep s).2 = 0 ∧ KG n (k.keep n ep s).1 ∧ (k.keep n ep s).1.num = k.num + 1 ∧ (k.keep n ep s).1.ep = ep ∧ (k.keep n ep s).1.s = s) ∨
    ((k.keep n ep s).2 = 10 ∧ Fell n (k.keep n ep s).1.d k.num k.ep k.s ep s ∧ Sz (k.keep n ep s).1.d ∧ (k.keep n ep s).1.d.wait.length ≤ 3) := by
  rw [keep_good he hs]
  have hg : Good s := (good_iff _).1 hs
  have L := lay_law h.kd hn he hg
  have W := lay_wait n (par (k.num + 1)) k.d (kA (k.num + 1) ep s) (kB (k.num + 1) ep s)
  have Z : Sz (layD n k.d (par (k.num + 1)) (kA (k.num + 1) ep s) (kB (k.num + 1) ep s)).1 := Sz.lay h.sz
  rw [h.kd.wait] at W
  unfold Kp.lay
  dsimp only at L ⊢
  obtain ⟨r, hr⟩ : ∃ r, layD n k.d (par (k.num + 1)) (kA (k.num + 1) ep s) (kB (k.num + 1) ep s) = r := ⟨_, rfl⟩
  rw [hr] at L W Z ⊢
  by_cases h2 : r.2 = true
  · rw [if_pos h2]
    exact .inl ⟨rfl, ⟨L.2.1 h2, Z⟩, rfl, rfl, rfl⟩
  · rw [if_neg h2]
    exact .inr ⟨rfl, L.2.2 (by simpa using h2), Z, by simpa using W⟩
/-- a live disk doesn't fall at that -/
theorem keep_live {n : Nat} {k : Kp} (h : KG n k) (hl : Live k.d) (hn : k.num < 1000000000000000) {ep : Int} {s : St} (he : 1 ≤ ep ∧ ep ≤ 1000000) (hs : stateFault s = 0) :
    (k.keep n ep s).2 = 0 ∧ KG n (k.keep n ep s).1 ∧ (k.keep n ep s).1.num = k.num + 1 ∧ (k.keep n ep s).1.ep = ep ∧ (k.keep n ep s).1.s = s ∧ Live (k.keep n ep s).1.d := by
  have LL := layD_live (n := n) hl.1 hl.2 (par (k.num + 1)) (kA (k.num + 1) ep s) (kB (k.num + 1) ep s)
  have hk : k.keep n ep s = (⟨(layD n k.d (par (k.num + 1)) (kA (k.num + 1) ep s) (kB (k.num + 1) ep s)).1, k.num + 1, ep, s⟩, 0) := by
    rw [keep_good he hs]
    unfold Kp.lay
    dsimp only
    rw [if_pos LL.1]
  rcases keep_law h hn he hs with ⟨h1, h2, h3, h4, h5⟩ | ⟨h1, -⟩
  · refine ⟨h1, h2, h3, h4, h5, ?_⟩
    have hu := h2.kd.up
    rw [hk] at hu ⊢
    exact ⟨LL.2, hu⟩
  · rw [hk] at h1
    have h2 : (0 : Int) = 10 := h1
    omega

def KeptPost (w : World) (e : Ending) (w' : World) : Prop :=
  ∃ D K d, e = .returned (.tuple #[.pointer (some ⟨D, 0, none⟩), .pointer (some ⟨K, 0, none⟩), .bool true]) ∧ KI 10 w (fun _ => False) D K ⟨d, 1, 1, sNone⟩ w' ∧ KG 10 ⟨d, 1, 1, sNone⟩ ∧ Live d
set_option maxRecDepth 100000 in
set_option maxHeartbeats 4000000 in
theorem kept_any (w : World) (t : Tabs w) : Calls Tryz.prog 16 #[] w fun e w' => KeptPost w e w' := by
  have TT := Lib.hid t
  have NEW := Lib.hid (dnew_any 10 w (by omega))
  clear t
  go_enter Tryz.func16, Tryz.ntmps16
  go_wp2_with fail
  refine NEW.out.mono ?_
  rintro e w1 ⟨D, rfl, dk, b1⟩
  have FMT := Lib.hid (format_any (made w w1) w1 D 10 (Dk.new 10) dk ⟨rfl, rfl⟩ (Dk.new_ok (by omega)) (Sz.new 10) (by omega) (by show (0 : Nat) ≤ 800; omega) (fun b e => e.2) (Nat.le_trans TT.out.low b1.size)
    (fun w' kp => TT.out.on (b1.trans (kp.below b1.size (fun k e => e.1)))))
  have HB1 := Lib.hid b1
  clear dk b1 NEW
  go_wp2_with fail
  refine FMT.out.mono ?_
  rintro e w2 ⟨rfl, d, S, dk, kd, lv, sz, sub, lt, kp⟩
  have B2 := Lib.hid (show Below w.heap.size w w2 from HB1.out.trans (kp.below HB1.out.size (fun k e => e.1)))
  have LO := Lib.hid (show ∀ b, S b → w.heap.size ≤ b from fun b e => by
    rcases sub b e with e | e
    · exact e.1
    · exact Nat.le_trans HB1.out.size e.1)
  have OPEN := Lib.hid (open_kd S w2 D 10 d 1 1 sNone dk lt kd sz (TT.out.on B2.out))
  have KGD := Lib.hid (show KG 10 ⟨d, 1, 1, sNone⟩ from ⟨kd, sz⟩)
  have LV := Lib.hid lv
  clear dk kd lv sz sub lt kp FMT
  go_wp2_with fail
  refine OPEN.out.mono ?_
  rintro e w3 ⟨K, a, cap, rfl, kr, hK, b3, fr⟩
  have P := Lib.hid (show KI 10 w (fun _ => False) D K ⟨d, 1, 1, sNone⟩ w3 from ⟨S, a, cap, kr, LO.out, Nat.le_trans B2.out.size hK, B2.out.trans (b3.mono B2.out.size), fun b h => h.elim, fun _ _ _ _ h => h⟩)
  clear kr b3 fr OPEN
  go_wp2
  exact bodyPost_ret (v := .tuple #[.pointer (some ⟨D, 0, none⟩), .pointer (some ⟨K, 0, none⟩), .bool true]) (by simp [results, Tryz.results16, go_sem]) rfl ⟨D, K, d, rfl, P.out, KGD.out, LV.out⟩
set_option maxRecDepth 100000 in
theorem number_nil (w : World) : Calls Tryz.prog 19 #[.nilIface] w fun e w' => e = .returned (.int .i64 0) ∧ Below w.heap.size w w' := by
  go_enter Tryz.func19, Tryz.ntmps19
  go_wp2
  go_ret
  exact ⟨rfl, Below.refl _ _⟩
set_option maxRecDepth 100000 in
theorem number_down (w : World) : Calls Tryz.prog 19 #[.iface 58 (.int .i64 10)] w fun e w' => e = .returned (.int .i64 10) ∧ Below w.heap.size w w' := by
  have hta := fun w => assert_errno w (.int .i64 10)
  go_enter Tryz.func19, Tryz.ntmps19
  go_wp2
  go_ret
  exact ⟨rfl, Below.refl _ _⟩

def boxC (s : St) (x : Option Addr) (y : Nat) : Array Value := #[.int .i64 s.gen, .slice x s.regs.length y, .int .i64 s.typ, .int .i64 s.holder, .bool s.stays]
/-- the blocks of two variables -/
def AB (A B : Nat) : Nat → Prop := fun b => b = A ∨ b = B
structure TK (W : World) (A B D K : Nat) (k : Kp) (s s2 : St) (x x2 : Option Addr) (y y2 : Nat) (wx : World) : Prop where
  ki : KI 10 W (AB A B) D K k wx
  ba : wx.heap[A]? = some (.cells (boxC s x y) 37 (0, 0))
  bb : wx.heap[B]? = some (.cells (boxC s2 x2 y2) 37 (0, 0))
  ra : StR W s x
  rb : StR W s2 x2
  ne : A ≠ B
  la : W.heap.size ≤ A
  lb : W.heap.size ≤ B
def fiveS (wx : World) (T : Nat) (s : St) (x : Option Addr) (y : Nat) : World := five wx T (.int .i64 s.gen) (.slice x s.regs.length y) (.int .i64 s.typ) (.int .i64 s.holder) (.bool s.stays)
theorem five_keeps {X : Nat → Prop} (wx : World) {T : Nat} (hT : X T) (v0 v1 v2 v3 v4 : Value) : Keeps X wx (five wx T v0 v1 v2 v3 v4) :=
  Keeps.setCell (p := ⟨T, 4, none⟩) (Keeps.setCell (p := ⟨T, 3, none⟩) (Keeps.setCell (p := ⟨T, 2, none⟩) (Keeps.setCell (p := ⟨T, 1, none⟩) (Keeps.setCell (p := ⟨T, 0, none⟩) (Keeps.refl X wx) hT v0) hT v1) hT v2) hT v3) hT v4
theorem KI.weak {n : Nat} {w wx : World} {X X' : Nat → Prop} {D K : Nat} {k : Kp} (h : KI n w X D K k wx) (hX : ∀ b, X' b → X b) : KI n w X' D K k wx := by
  obtain ⟨S, a, cap, kr, lo, kb, bl, hx, ax⟩ := h
  exact ⟨S, a, cap, kr, lo, kb, bl, fun b hb => hx b (hX b hb), fun b o e hn hb => ax b o e hn (hX b hb)⟩
section
variable {W wx w' : World} {A B D K : Nat} {k : Kp} {s s2 : St} {x x2 : Option Addr} {y y2 : Nat}
theorem TK.below (h : TK W A B D K k s s2 x x2 y y2 wx) : Below W.heap.size W wx := h.ki.below
theorem TK.cellsA (h : TK W A B D K k s s2 x x2 y y2 wx) : (wx.cell? ⟨A, 0, none⟩ = some (.int .i64 s.gen) ∧ wx.cell? ⟨A, 1, none⟩ = some (.slice x s.regs.length y) ∧ wx.cell? ⟨A, 2, none⟩ = some (.int .i64 s.typ) ∧ wx.cell? ⟨A, 3, none⟩ = some (.int .i64 s.holder) ∧ wx.cell? ⟨A, 4, none⟩ = some (.bool s.stays)) ∧
    (wx.frozen? ⟨A, 0, none⟩ = false ∧ wx.frozen? ⟨A, 1, none⟩ = false ∧ wx.frozen? ⟨A, 2, none⟩ = false ∧ wx.frozen? ⟨A, 3, none⟩ = false ∧ wx.frozen? ⟨A, 4, none⟩ = false) := cells5 h.ba
theorem TK.cellsB (h : TK W A B D K k s s2 x x2 y y2 wx) : (wx.cell? ⟨B, 0, none⟩ = some (.int .i64 s2.gen) ∧ wx.cell? ⟨B, 1, none⟩ = some (.slice x2 s2.regs.length y2) ∧ wx.cell? ⟨B, 2, none⟩ = some (.int .i64 s2.typ) ∧ wx.cell? ⟨B, 3, none⟩ = some (.int .i64 s2.holder) ∧ wx.cell? ⟨B, 4, none⟩ = some (.bool s2.stays)) ∧
    (wx.frozen? ⟨B, 0, none⟩ = false ∧ wx.frozen? ⟨B, 1, none⟩ = false ∧ wx.frozen? ⟨B, 2, none⟩ = false ∧ wx.frozen? ⟨B, 3, none⟩ = false ∧ wx.frozen? ⟨B, 4, none⟩ = false) := cells5 h.bb
theorem TK.over (h : TK W A B D K k s s2 x x2 y y2 wx) (b : Below wx.heap.size wx w') : TK W A B D K k s s2 x x2 y y2 w' :=
  ⟨h.ki.over b, (b.block A (h.ki.lt A (.inl rfl))).trans h.ba, (b.block B (h.ki.lt B (.inr rfl))).trans h.bb, h.ra, h.rb, h.ne, h.la, h.lb⟩
theorem TK.next {K' : Nat} {k' : Kp} (h : TK W A B D K k s s2 x x2 y y2 wx) (ki : KI 10 W (AB A B) D K' k' w') (sm : Same (AB A B) wx w') : TK W A B D K' k' s s2 x x2 y y2 w' :=
  ⟨ki, (sm A (.inl rfl)).trans h.ba, (sm B (.inr rfl)).trans h.bb, h.ra, h.rb, h.ne, h.la, h.lb⟩
theorem TK.lo (h : TK W A B D K k s s2 x x2 y y2 wx) : ∀ b, AB A B b → W.heap.size ≤ b := fun b e => by
  rcases e with rfl | rfl
  · exact h.la
  · exact h.lb
theorem TK.setB (h : TK W A B D K k s s2 x x2 y y2 wx) {s3 : St} {x3 : Option Addr} (y3 : Nat) (hr : StR W s3 x3) : TK W A B D K k s s3 x x3 y y3 (fiveS wx B s3 x3 y3) :=
  ⟨h.ki.set (five_keeps wx (.inr rfl) _ _ _ _ _) h.lo, (five_ne h.ne _ _ _ _ _).trans h.ba, five_at h.bb _ _ _ _ _, h.ra, hr, h.ne, h.la, h.lb⟩
theorem TK.setA (h : TK W A B D K k s s2 x x2 y y2 wx) : TK W A B D K k s2 s2 x2 x2 y2 y2 (fiveS wx A s2 x2 y2) :=
  ⟨h.ki.set (five_keeps wx (.inl rfl) _ _ _ _ _) h.lo, five_at h.ba _ _ _ _ _, (five_ne (Ne.symm h.ne) _ _ _ _ _).trans h.bb, h.rb, h.rb, h.ne, h.la, h.lb⟩
end
/-- behind the acts -/
def TKEnd (W : World) (A B D K : Nat) (keep : Int) (e f : Value) (wx : World) : Prop :=
  ∃ (k : Kp) (s s2 : St) (x x2 : Option Addr) (y y2 : Nat) (ep ep2 num : Int), e = .int .i64 ep ∧ f = .int .i64 ep2 ∧ TK W A B D K k s s2 x x2 y y2 wx ∧ k.d.ok 10 ∧ Sz k.d ∧ k.d.wait.length ≤ 1000 ∧ 0 ≤ num ∧ num ≤ 1000 ∧
    (KD 10 (k.d.restart keep) num ep s ∨ KD 10 (k.d.restart keep) (num + 1) ep2 s2)
def s9 : St := ⟨9, [], 0, 0, false⟩
def s8 : St := ⟨8, [], 0, 0, false⟩
theorem fault9 : stateFault s9 = 0 := by decide
theorem fault8 : stateFault s8 = 0 := by decide
theorem str_nil (w : World) (g : Int) : StR w ⟨g, [], 0, 0, false⟩ none := ⟨by simp, Pairs.nil _ _ _⟩
end Go.Proofs.YtkedmlkbepjnfaaGreatDoor
