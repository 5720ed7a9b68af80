/-
  A keeper over its disk, all of it made since a world: contracts over one invariant.
-/
import Derived.Test.YtkedmlkbepjnfaaGreatDoorKpBest
import Derived.Test.YtkedmlkbepjnfaaGreatDoorKpFmt
import Derived.Test.YtkedmlkbepjnfaaGreatDoorDiskT
namespace Go.Proofs.YtkedmlkbepjnfaaGreatDoor
open Go.RowKit

/-- a keeper K over a disk D, all made since the world w; the blocks of X are others' -/
def KI (n : Nat) (w : World) (X : Nat → Prop) (D K : Nat) (k : Kp) (wx : World) : Prop :=
  ∃ S a cap, KpR S wx K D n a cap k ∧ (∀ b, S b → w.heap.size ≤ b) ∧ w.heap.size ≤ K ∧ Below w.heap.size w wx ∧ (∀ b, X b → b < wx.heap.size ∧ ¬ S b ∧ b ≠ K) ∧ ∀ b o, a = some ⟨b, o, none⟩ → k.s.regs ≠ [] → ¬ X b
/-- the blocks of X are as they were -/
def Same (X : Nat → Prop) (w w' : World) : Prop := ∀ b, X b → w'.heap[b]? = w.heap[b]?
section
variable {n : Nat} {w wx w' : World} {X : Nat → Prop} {D K : Nat} {k : Kp}
theorem KI.below (h : KI n w X D K k wx) : Below w.heap.size w wx := by obtain ⟨_, _, _, _, _, _, h, _⟩ := h; exact h
theorem KI.lt (h : KI n w X D K k wx) : ∀ b, X b → b < wx.heap.size := by obtain ⟨_, _, _, _, _, _, _, h, _⟩ := h; exact fun b hb => (h b hb).1
theorem KI.over (h : KI n w X D K k wx) (b : Below wx.heap.size wx w') : KI n w X D K k w' := by
  obtain ⟨S, a, cap, kr, lo, kb, bl, hx, ax⟩ := h
  exact ⟨S, a, cap, kr.below b, lo, kb, bl.trans (b.mono bl.size), fun c hc => ⟨Nat.lt_of_lt_of_le (hx c hc).1 b.size, (hx c hc).2⟩, ax⟩
theorem KI.drew (h : KI n w X D K k wx) : KI n w X D K k wx.drew := h.over (Below.refl _ _).drew
/-- a block that is new is another's -/
theorem KI.more (h : KI n w X D K k wx) (o : Obj) : KI n w (fun b => X b ∨ b = wx.heap.size) D K k (wx.alloc o) := by
  obtain ⟨S, a, cap, kr, lo, kb, bl, hx, ax⟩ := h
  have hK := (Array.getElem?_eq_some_iff.1 kr.blk).1
  have hz : (wx.alloc o).heap.size = wx.heap.size + 1 := by simp
  refine ⟨S, a, cap, kr.below (bal wx o), lo, kb, bl.trans ((bal wx o).mono bl.size), fun c hc => ?_, fun b q e hn hX => ?_⟩
  · rcases hc with hc | rfl
    · exact ⟨by have := (hx c hc).1; omega, (hx c hc).2⟩
    · exact ⟨by omega, fun e => by have := kr.lt _ e; omega, by omega⟩
  · subst e
    rcases hX with hX | hX
    · exact ax b q rfl hn hX
    · have := kr.str.blt hn; omega
/-- a block of X turns -/
theorem KI.set (h : KI n w X D K k wx) (kp : Keeps X wx w') (hX : ∀ b, X b → w.heap.size ≤ b) : KI n w X D K k w' := by
  obtain ⟨S, a, cap, kr, lo, kb, bl, hx, ax⟩ := h
  have hK := (Array.getElem?_eq_some_iff.1 kr.blk).1
  exact ⟨S, a, cap, ⟨(kp.block K (fun e => (hx K e).2.2 rfl) hK).trans kr.blk, kr.dk.keeps kp (fun b e q => (hx b q).2.1 e), kr.nk, fun b e => Nat.lt_of_lt_of_le (kr.lt b e) kp.size, kr.str.keeps kp ax, kr.ap⟩, lo, kb, bl.trans (kp.below bl.size hX),
    fun c hc => ⟨Nat.lt_of_lt_of_le (hx c hc).1 kp.size, (hx c hc).2⟩, ax⟩
theorem KI.disk {S : Nat → Prop} {a : Option Addr} {cap : Nat} {d : Dk} (kr : KpR S wx K D n a cap k) (lo : ∀ b, S b → w.heap.size ≤ b) (kb : w.heap.size ≤ K) (bl : Below w.heap.size w wx) (hx : ∀ b, X b → b < wx.heap.size ∧ ¬ S b ∧ b ≠ K) (ax : ∀ b o, a = some ⟨b, o, none⟩ → k.s.regs ≠ [] → ¬ X b)
    (hd : DkAt S w' 65 78 D n d) (kp : Keeps S wx w') : KI n w X D K { k with d := d } w' ∧ Same X wx w' := by
  refine ⟨⟨_, a, cap, kr.next (hd.mono (fun _ e => .inl e)) kp, fun b e => ?_, kb, bl.trans (kp.below bl.size lo), fun c hc => ⟨Nat.lt_of_lt_of_le (hx c hc).1 kp.size, fun e => ?_, (hx c hc).2.2⟩, ax⟩, fun c hc => kp.block c (hx c hc).2.1 (hx c hc).1⟩
  · rcases e with e | e
    · exact lo b e
    · exact Nat.le_trans bl.size e.1
  · rcases e with e | e
    · exact (hx c hc).2.1 e
    · have := (hx c hc).1; omega
end

theorem keepI (n : Nat) (w wx : World) (X : Nat → Prop) (D K : Nat) (k : Kp) (a' : Option Addr) (cap' : Nat) (ep : Int) (s : St) (h : KI n w X D K k wx) (ok : k.d.ok n) (hwl : k.d.wait.length ≤ 900) (n6 : 6 ≤ n)
    (h0 : 0 ≤ k.num) (h1 : k.num < 1000000000000000) (hr : StR wx s a') (t : Tabs w) :
    Calls Tryz.prog 12 #[.pointer (some ⟨K, 0, none⟩), .int .i64 ep, stV s a' cap'] wx fun e w' => e = .returned (errV (k.keep n ep s).2) ∧ KI n w X D K (k.keep n ep s).1 w' ∧ Same X wx w' := by
  obtain ⟨S, a, cap, kr, lo, kb, bl, hx, ax⟩ := h
  refine (keep_any S wx K D n a a' cap cap' k ep s kr ok hwl n6 h0 h1 hr (t.on bl)).mono ?_
  rintro e w' ⟨rfl, S', a2, cap2, kr2, hs, kk, ha⟩
  have hsz := bl.size
  refine ⟨rfl, ⟨S', a2, cap2, kr2, fun b hb => ?_, kb, bl.trans (kk.below bl.size (fun q e => ?_)), fun c hc => ⟨Nat.lt_of_lt_of_le (hx c hc).1 kk.size, fun e => ?_, (hx c hc).2.2⟩, fun b o e hn hX => ?_⟩, fun c hc => kk.block c (fun e => ?_) (hx c hc).1⟩
  · rcases hs b hb with e | e
    · exact lo b e
    · omega
  · rcases e with e | e
    · exact lo q e
    · omega
  · rcases hs c e with e | e
    · exact (hx c hc).2.1 e
    · have := (hx c hc).1; omega
  · have := (hx b hX).1
    rcases ha with ⟨ha, hq⟩ | ha
    · exact ax b o (ha ▸ e) (hq ▸ hn) hX
    · have := ha b o e; omega
  · rcases e with e | e
    · exact (hx c hc).2.1 e
    · exact (hx c hc).2.2 e
theorem armI (n : Nat) (w wx : World) (X : Nat → Prop) (D K : Nat) (k : Kp) (p : Int) (h : KI n w X D K k wx) :
    Calls Tryz.prog 17 #[.pointer (some ⟨D, 0, none⟩), .int .i64 p] wx fun e w' => e = .returned (.tuple #[]) ∧ KI n w X D K { k with d := { k.d with fuse := max p (-1) } } w' ∧ Same X wx w' := by
  obtain ⟨S, a, cap, kr, lo, kb, bl, hx, ax⟩ := h
  refine (darm_any S wx D n k.d p kr.dk).mono ?_
  rintro e w' ⟨rfl, hd, kp⟩
  exact ⟨rfl, KI.disk kr lo kb bl hx ax hd kp⟩
theorem restartI (n : Nat) (w wx : World) (X : Nat → Prop) (D K : Nat) (k : Kp) (keep : Int) (h : KI n w X D K k wx) (ok : k.d.ok n) (hwl : k.d.wait.length ≤ 1000) :
    Calls Tryz.prog 20 #[.pointer (some ⟨D, 0, none⟩), .int .u64 keep] wx fun e w' => e = .returned (.tuple #[]) ∧ KI n w X D K { k with d := k.d.restart keep } w' ∧ Same X wx w' := by
  obtain ⟨S, a, cap, kr, lo, kb, bl, hx, ax⟩ := h
  refine (drestart_any S wx D n k.d keep kr.dk ok hwl).mono ?_
  rintro e w' ⟨rfl, hd, kp⟩
  exact ⟨rfl, KI.disk kr lo kb bl hx ax hd kp⟩

theorem best_kd {n : Nat} {d : Dk} {num ep : Int} {s : St} (h : KD n d num ep s) : ∃ f : Nat → Seen, (∀ k, k < 2 → Lk d k (f k).m (f k).e (f k).s) ∧ best f 2 = ⟨num, ep, s⟩ := by
  have p1 := h.p1
  rcases h.two with ⟨m, e, s', h0, h1, hlt⟩ | ⟨m, e, s', h0, h1, hlt⟩
  · refine ⟨fun k => if k = 0 then ⟨num, ep, s⟩ else ⟨m, e, s'⟩, fun k hk => ?_, ?_⟩
    · rcases (by omega : k = 0 ∨ k = 1) with rfl | rfl
      · exact h0
      · exact h1
    · have e1 : best (fun k => if k = 0 then (⟨num, ep, s⟩ : Seen) else ⟨m, e, s'⟩) 1 = ⟨num, ep, s⟩ := if_pos (show (0 : Int) < num by omega)
      unfold best
      rw [e1]
      exact if_neg (show ¬ num < m by omega)
  · refine ⟨fun k => if k = 0 then ⟨m, e, s'⟩ else ⟨num, ep, s⟩, fun k hk => ?_, ?_⟩
    · rcases (by omega : k = 0 ∨ k = 1) with rfl | rfl
      · exact h0
      · exact h1
    · have e1 : (best (fun k => if k = 0 then (⟨m, e, s'⟩ : Seen) else ⟨num, ep, s⟩) 1).m < num := by
        show (if (0 : Int) < m then (⟨m, e, s'⟩ : Seen) else nothing).m < num
        split
        · exact hlt
        · show (0 : Int) < num; omega
      show (if (best (fun k => if k = 0 then (⟨m, e, s'⟩ : Seen) else ⟨num, ep, s⟩) 1).m < num then _ else _) = _
      rw [if_pos e1]
      rfl
theorem open_kd (S : Nat → Prop) (w : World) (D n : Nat) (d : Dk) (num ep : Int) (s : St) (h : DkAt S w 65 78 D n d) (lt : ∀ b, S b → b < w.heap.size) (hk : KD n d num ep s) (sz : Sz d) (t : Tabs w) :
    Calls Tryz.prog 9 #[.pointer (some ⟨D, 0, none⟩)] w fun e w' => ∃ K a cap, e = .returned (.tuple #[.pointer (some ⟨K, 0, none⟩), .nilIface]) ∧ KpR S w' K D n a cap ⟨d, num, ep, s⟩ ∧ w.heap.size ≤ K ∧ Below w.heap.size w w' ∧ ∀ b o, a = some ⟨b, o, none⟩ → w.heap.size ≤ b := by
  obtain ⟨f, hf, hb⟩ := best_kd hk
  refine (open_best S w D n d f h lt hk.ok hk.up sz hk.n6 hf t).mono ?_
  intro e w' hp
  rw [hb] at hp
  exact hp.2 (by have := hk.p1; show num ≠ 0; omega)
theorem openI (n : Nat) (w wx : World) (X : Nat → Prop) (D K : Nat) (k : Kp) (num ep : Int) (s : St) (h : KI n w X D K k wx) (hk : KD n k.d num ep s) (sz : Sz k.d) (t : Tabs w) :
    Calls Tryz.prog 9 #[.pointer (some ⟨D, 0, none⟩)] wx fun e w' => ∃ K', e = .returned (.tuple #[.pointer (some ⟨K', 0, none⟩), .nilIface]) ∧ KI n w X D K' ⟨k.d, num, ep, s⟩ w' ∧ Below wx.heap.size wx w' := by
  obtain ⟨S, a, cap, kr, lo, kb, bl, hx, ax⟩ := h
  refine (open_kd S wx D n k.d num ep s kr.dk kr.lt hk sz (t.on bl)).mono ?_
  rintro e w' ⟨K', a', cap', rfl, kr', hK, b, fr⟩
  exact ⟨K', rfl, ⟨S, a', cap', kr', lo, Nat.le_trans bl.size hK, bl.trans (b.mono bl.size), fun c hc => ⟨Nat.lt_of_lt_of_le (hx c hc).1 b.size, (hx c hc).2.1, by have := (hx c hc).1; omega⟩, fun c o e _ hX => by have := (hx c hX).1; have := fr c o e; omega⟩, b⟩
theorem stateI (n : Nat) (w wx : World) (X : Nat → Prop) (D K : Nat) (k : Kp) (h : KI n w X D K k wx) (hl : k.s.regs.length ≤ 1000) :
    Calls Tryz.prog 14 #[.pointer (some ⟨K, 0, none⟩)] wx fun e w' => ∃ a2 cap2, e = .returned (stV k.s a2 cap2) ∧ StR w' k.s a2 ∧ Below wx.heap.size wx w' := by
  obtain ⟨S, a, cap, kr, lo, kb, bl, hx, ax⟩ := h
  refine (kstate_any S wx K D n a cap k kr hl).mono ?_
  rintro e w' ⟨a2, cap2, rfl, hs, b, -⟩
  exact ⟨a2, cap2, rfl, hs, b⟩
theorem epochI (n : Nat) (w wx : World) (X : Nat → Prop) (D K : Nat) (k : Kp) (h : KI n w X D K k wx) :
    Calls Tryz.prog 15 #[.pointer (some ⟨K, 0, none⟩)] wx fun e w' => e = .returned (.int .i64 k.ep) ∧ w' = wx := by
  obtain ⟨S, a, cap, kr, lo, kb, bl, hx, ax⟩ := h
  exact kepoch_any S wx K D n a cap k kr
end Go.Proofs.YtkedmlkbepjnfaaGreatDoor
