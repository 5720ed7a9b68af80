/-
  Contract: lay, a keeper's way of writing.
-/
import Derived.Test.YtkedmlkbepjnfaaGreatDoorKpText
import Derived.Deep.RegionHeld3
namespace Go.Proofs.YtkedmlkbepjnfaaGreatDoor
open Go.RowKit

/-! ### plain: laying, stage by stage -/
def lay6 (d : Dk) : Dk × Bool := if d.steps = false then (d.flush, false) else (d.flush, true)
def lay5 (n p : Nat) (A : ByteArray) (d : Dk) : Dk × Bool := if d.steps = false then (d.write n (2 * (p : Int)) A, false) else lay6 (d.write n (2 * (p : Int)) A)
def lay4 (n p : Nat) (A : ByteArray) (d : Dk) : Dk × Bool := if d.steps = false then (d.flush, false) else lay5 n p A d.flush
def lay3 (n p : Nat) (A B : ByteArray) (d : Dk) : Dk × Bool := if d.steps = false then (d.write n (2 * (p : Int) + 1) B, false) else lay4 n p A (d.write n (2 * (p : Int) + 1) B)
def lay2 (n p : Nat) (A B : ByteArray) (d : Dk) : Dk × Bool := if d.steps = false then (d.flush, false) else lay3 n p A B d.flush
def lay1 (n p : Nat) (A B : ByteArray) (d : Dk) : Dk × Bool := if d.steps = false then (d.write n (2 * (p : Int)) ⟨#[]⟩, false) else lay2 n p A B (d.write n (2 * (p : Int)) ⟨#[]⟩)
theorem layD_eq (n p : Nat) (A B : ByteArray) (d : Dk) : layD n d p A B = lay1 n p A B d := by
  unfold layD lay1 lay2 lay3 lay4 lay5 lay6
  have e1 : ((2 * p : Nat) : Int) = 2 * (p : Int) := by omega
  have e2 : ((2 * p + 1 : Nat) : Int) = 2 * (p : Int) + 1 := by omega
  rw [e1, e2]
theorem Dk.writeF_of {n : Nat} {d : Dk} {p : Int} {s : ByteArray} (h0 : 0 ≤ p) (hp : p < n) (hs : s.size ≤ 64) : d.writeF n p s = if d.steps then 0 else 10 := by
  unfold Dk.writeF
  rw [if_neg (by omega)]

/-! ### in memory -/
structure KpR (S : Nat → Prop) (w : World) (K D n : Nat) (a : Option Addr) (cap : Nat) (k : Kp) : Prop where
  blk : w.heap[K]? = some (.cells #[.pointer (some ⟨D, 0, none⟩), .int .i64 k.num, .int .i64 k.ep, .int .i64 k.s.gen, .slice a k.s.regs.length cap, .int .i64 k.s.typ, .int .i64 k.s.holder, .bool k.s.stays] 68 (0, 0))
  dk : DkAt S w 65 78 D n k.d
  nk : ¬ S K
  lt : ∀ b, S b → b < w.heap.size
  str : StR w k.s a
  ap : ∀ b o, a = some ⟨b, o, none⟩ → k.s.regs ≠ [] → ¬ S b ∧ b ≠ K
def KpPost (A0 : Option Addr → Prop) (S : Nat → Prop) (w : World) (K D n : Nat) (r : Kp × Int) (e : Ending) (w' : World) : Prop :=
  e = .returned (errV r.2) ∧ ∃ S' a cap, KpR S' w' K D n a cap r.1 ∧ (∀ b, S' b → grow S w w' b) ∧ Keeps (fun b => S b ∨ b = K) w w' ∧ A0 a

/-- what the walk of lay keeps -/
structure LF (S0 : Nat → Prop) (w : World) (K D n B : Nat) (a a' : Option Addr) (cap cap' : Nat) (k : Kp) (s : St) (S : Nat → Prop) (d : Dk) (wx : World) : Prop where
  blk : wx.heap[K]? = some (.cells #[.pointer (some ⟨D, 0, none⟩), .int .i64 k.num, .int .i64 k.ep, .int .i64 k.s.gen, .slice a k.s.regs.length cap, .int .i64 k.s.typ, .int .i64 k.s.holder, .bool k.s.stays] 68 (0, 0))
  box : wx.heap[B]? = some (.cells #[.int .i64 s.gen, .slice a' s.regs.length cap', .int .i64 s.typ, .int .i64 s.holder, .bool s.stays] 37 (0, 0))
  dk : DkAt S wx 65 78 D n d
  nk : ¬ S K
  nb : ¬ S B
  lt : ∀ b, S b → b < wx.heap.size
  sub : ∀ b, S b → grow S0 w wx b
  keep : Keeps S0 w wx
section
variable {S0 S : Nat → Prop} {w wx w' : World} {K D n B : Nat} {a a' : Option Addr} {cap cap' : Nat} {k : Kp} {s : St} {d d' : Dk}
theorem LF.next (f : LF S0 w K D n B a a' cap cap' k s S d wx) (h : DkAt (grow S wx w') w' 65 78 D n d') (kp : Keeps S wx w') : LF S0 w K D n B a a' cap cap' k s (grow S wx w') d' w' := by
  have hK := (Array.getElem?_eq_some_iff.1 f.blk).1
  have hB := (Array.getElem?_eq_some_iff.1 f.box).1
  refine ⟨(kp.block K f.nk hK).trans f.blk, (kp.block B f.nb hB).trans f.box, h, fun e => ?_, fun e => ?_, fun b e => ?_, fun b e => ?_, ?_⟩
  · rcases e with e | e
    · exact f.nk e
    · omega
  · rcases e with e | e
    · exact f.nb e
    · omega
  · rcases e with e | e
    · exact Nat.lt_of_lt_of_le (f.lt b e) kp.size
    · exact e.2
  · rcases e with e | e
    · rcases f.sub b e with e | e
      · exact .inl e
      · exact .inr ⟨e.1, Nat.lt_of_lt_of_le e.2 kp.size⟩
    · exact .inr ⟨Nat.le_trans f.keep.size e.1, e.2⟩
  · refine ⟨kp.os.trans f.keep.os, kp.tape.trans f.keep.tape, kp.output.trans f.keep.output, Nat.le_trans f.keep.size kp.size, fun b hb hlt => ?_⟩
    refine (kp.block b (fun e => ?_) (Nat.lt_of_lt_of_le hlt f.keep.size)).trans (f.keep.block b hb hlt)
    rcases f.sub b e with e | e
    · exact hb e
    · omega
theorem LF.same (f : LF S0 w K D n B a a' cap cap' k s S d wx) (h : DkAt S w' 65 78 D n d') (kp : Keeps S wx w') : LF S0 w K D n B a a' cap cap' k s (grow S wx w') d' w' :=
  f.next (h.mono (fun _ hk => .inl hk)) kp
theorem LF.over (f : LF S0 w K D n B a a' cap cap' k s S d wx) (b : Below wx.heap.size wx w') : LF S0 w K D n B a a' cap cap' k s (grow S wx w') d w' := f.same (f.dk.below b) (Keeps.of_below b)
end

theorem StR.keeps {S : Nat → Prop} {w w' : World} {s : St} {a : Option Addr} (h : StR w s a) (k : Keeps S w w') (ap : ∀ b o, a = some ⟨b, o, none⟩ → s.regs ≠ [] → ¬ S b) : StR w' s a := by
  refine ⟨h.len, fun i hi => ?_⟩
  obtain ⟨b, o, rfl, hb, c1, c2⟩ := h.rep i hi
  have hn := ap b o rfl (fun e => by rw [e] at hi; simp at hi)
  exact ⟨b, o, rfl, Nat.lt_of_lt_of_le hb k.size, (k.cell hn hb).trans c1, (k.cell hn hb).trans c2⟩
theorem StR.blt {w : World} {s : St} {b o : Nat} (h : StR w s (some ⟨b, o, none⟩)) (hn : s.regs ≠ []) : b < w.heap.size := by
  obtain ⟨b', o', e, hb, -⟩ := h.rep 0 (List.length_pos_iff.2 hn)
  obtain ⟨rfl, -⟩ : b = b' ∧ o = o' := by simpa using e
  exact hb
theorem kp_drew {A0 : Option Addr → Prop} {S : Nat → Prop} {w w' : World} {K D n : Nat} {r : Kp × Int} {e : Ending} (h : KpPost A0 S w K D n r e w') : KpPost A0 S w K D n r e w'.drew := by
  obtain ⟨he, S', a, cap, hk, hs, kk, ha⟩ := h
  exact ⟨he, S', a, cap, ⟨hk.blk, hk.dk.keeps (R := fun _ => False) (Keeps.refl _ _).drew (fun _ _ h => h), hk.nk, hk.lt, ⟨hk.str.len, hk.str.rep⟩, hk.ap⟩, hs, kk.drew, ha⟩
theorem ext_B (l : Bs) : (bsB l).extract (min ((bsB l).size : Int) 64).toNat (bsB l).size = bsB (l.drop 64) := by
  apply ByteArray.ext
  rw [ByteArray.data_extract, bsB_size]
  apply Array.toList_inj.1
  simp only [bsB, Array.toList_extract, List.extract_eq_take_drop]
  by_cases h : l.length ≤ 64
  · rw [List.drop_of_length_le (l := l) h]
    have : (min (l.length : Int) 64).toNat = l.length := by omega
    rw [this]; simp
  · have : (min (l.length : Int) 64).toNat = 64 := by omega
    rw [this, List.take_of_length_le (by simp)]
theorem ext_A (l : Bs) : (bsB l).extract 0 (min ((bsB l).size : Int) 64).toNat = bsB (l.take 64) := by
  apply ByteArray.ext
  rw [ByteArray.data_extract, bsB_size]
  apply Array.toList_inj.1
  simp only [bsB, Array.toList_extract, List.extract_eq_take_drop, List.drop_zero, Nat.sub_zero]
  by_cases h : l.length ≤ 64
  · have : (min (l.length : Int) 64).toNat = l.length := by omega
    rw [this, List.take_of_length_le h, List.take_of_length_le (Nat.le_refl _)]
  · have : (min (l.length : Int) 64).toNat = 64 := by omega
    rw [this]
section
variable {S0 S : Nat → Prop} {w wx : World} {K D n B : Nat} {a a' : Option Addr} {cap cap' : Nat} {k : Kp} {s : St} {d : Dk}
theorem lf_keeper (f : LF S0 w K D n B a a' cap cap' k s S d wx) :
    (wx.cell? ⟨K, 1, none⟩ = some (.int .i64 k.num) ∧ wx.cell? ⟨K, 2, none⟩ = some (.int .i64 k.ep) ∧ wx.cell? ⟨K, 3, none⟩ = some (.int .i64 k.s.gen) ∧ wx.cell? ⟨K, 4, none⟩ = some (.slice a k.s.regs.length cap) ∧ wx.cell? ⟨K, 5, none⟩ = some (.int .i64 k.s.typ) ∧ wx.cell? ⟨K, 6, none⟩ = some (.int .i64 k.s.holder) ∧ wx.cell? ⟨K, 7, none⟩ = some (.bool k.s.stays)) ∧
    wx.frozen? ⟨K, 1, none⟩ = false ∧ wx.frozen? ⟨K, 2, none⟩ = false ∧ wx.frozen? ⟨K, 3, none⟩ = false ∧ wx.frozen? ⟨K, 4, none⟩ = false ∧ wx.frozen? ⟨K, 5, none⟩ = false ∧ wx.frozen? ⟨K, 6, none⟩ = false ∧ wx.frozen? ⟨K, 7, none⟩ = false := by
  have h1 := f.blk
  simp [World.cell?, World.frozen?, h1]
theorem lf_fail (f : LF S0 w K D n B a a' cap cap' k s S d wx) (h : KpR S0 w K D n a cap k) : KpPost (fun q => (q = a ∧ k.s = k.s) ∨ q = a') S0 w K D n ({ k with d := d }, 10) (.returned (errV 10)) wx := by
  refine ⟨rfl, S, a, cap, ⟨f.blk, f.dk, f.nk, f.lt, h.str.keeps f.keep (fun b o e hn => (h.ap b o e hn).1), fun b o e hn => ⟨fun hS => ?_, (h.ap b o e hn).2⟩⟩, f.sub, f.keep.mono (fun _ e => .inl e), .inl ⟨rfl, rfl⟩⟩
  subst e
  have hb := h.str.blt hn
  rcases f.sub b hS with e | e
  · exact (h.ap b o rfl hn).1 e
  · omega
/-- the keeper's seven cells behind a lay -/
def sevens (wx : World) (K : Nat) (v1 v2 v3 v4 v5 v6 v7 : Value) : World := ((((((wx.setCell ⟨K, 1, none⟩ v1).setCell ⟨K, 2, none⟩ v2).setCell ⟨K, 3, none⟩ v3).setCell ⟨K, 4, none⟩ v4).setCell ⟨K, 5, none⟩ v5).setCell ⟨K, 6, none⟩ v6).setCell ⟨K, 7, none⟩ v7
theorem sevens_at {wx : World} {K : Nat} {x0 x1 x2 x3 x4 x5 x6 x7 : Value} {Ty : TypeId} (h : wx.heap[K]? = some (.cells #[x0, x1, x2, x3, x4, x5, x6, x7] Ty (0, 0))) (v1 v2 v3 v4 v5 v6 v7 : Value) :
    (sevens wx K v1 v2 v3 v4 v5 v6 v7).heap[K]? = some (.cells #[x0, v1, v2, v3, v4, v5, v6, v7] Ty (0, 0)) :=
  by
  have h1 := block_setCell (o := 1) h v1
  have h2 := block_setCell (o := 2) h1 v2
  have h3 := block_setCell (o := 3) h2 v3
  have h4 := block_setCell (o := 4) h3 v4
  have h5 := block_setCell (o := 5) h4 v5
  have h6 := block_setCell (o := 6) h5 v6
  have h7 := block_setCell (o := 7) h6 v7
  unfold sevens
  simpa only [List.setIfInBounds_toArray, List.set_cons_succ, List.set_cons_zero] using h7
theorem kset {N : Nat} {a w : World} (h : Keeps (· = N) a w) (o : Nat) (u : Value) : Keeps (· = N) a (w.setCell ⟨N, o, none⟩ u) := Keeps.setCell (S := (· = N)) h rfl u
theorem sevens_keeps (wx : World) (K : Nat) (v1 v2 v3 v4 v5 v6 v7 : Value) : Keeps (· = K) wx (sevens wx K v1 v2 v3 v4 v5 v6 v7) :=
  kset (kset (kset (kset (kset (kset (kset (Keeps.refl _ _) 1 v1) 2 v2) 3 v3) 4 v4) 5 v5) 6 v6) 7 v7
theorem lf_done (f : LF S0 w K D n B a a' cap cap' k s S d wx) (hr : StR w s a') (hx : ∀ b o, a' = some ⟨b, o, none⟩ → s.regs ≠ [] → ¬ S0 b ∧ b ≠ K) (ep : Int) :
    KpPost (fun q => (q = a ∧ s = k.s) ∨ q = a') S0 w K D n (⟨d, k.num + 1, ep, s⟩, 0) (.returned (errV 0)) (sevens wx K (.int .i64 (k.num + 1)) (.int .i64 ep) (.int .i64 s.gen) (.slice a' s.regs.length cap') (.int .i64 s.typ) (.int .i64 s.holder) (.bool s.stays)) := by
  obtain ⟨w', hw'⟩ : ∃ w', w' = sevens wx K (.int .i64 (k.num + 1)) (.int .i64 ep) (.int .i64 s.gen) (.slice a' s.regs.length cap') (.int .i64 s.typ) (.int .i64 s.holder) (.bool s.stays) := ⟨_, rfl⟩
  have kk : Keeps (· = K) wx w' := hw' ▸ sevens_keeps _ _ _ _ _ _ _ _ _
  have hb := hw' ▸ sevens_at f.blk (.int .i64 (k.num + 1)) (.int .i64 ep) (.int .i64 s.gen) (.slice a' s.regs.length cap') (.int .i64 s.typ) (.int .i64 s.holder) (.bool s.stays)
  rw [← hw']
  have k2 : Keeps (fun b => S0 b ∨ b = K) w w' := (f.keep.mono (fun _ e => .inl e)).trans (kk.mono (fun _ e => .inr e))
  have hs : w.heap.size ≤ w'.heap.size := k2.size
  have hs1 := f.keep.size
  refine ⟨rfl, S, a', cap', ⟨hb, f.dk.keeps kk (fun b e h => f.nk (h ▸ e)), f.nk, fun b e => Nat.lt_of_lt_of_le (f.lt b e) kk.size, hr.keeps k2 (fun b o e hn h => ?_), fun b o e hn => ⟨fun hS => ?_, (hx b o e hn).2⟩⟩, fun b e => ?_, k2, .inr rfl⟩
  · rcases h with h | h
    · exact (hx b o e hn).1 h
    · exact (hx b o e hn).2 h
  · subst e
    have hb := hr.blt hn
    rcases f.sub b hS with e | e
    · exact (hx b o rfl hn).1 e
    · omega
  · rcases f.sub b e with e | e
    · exact .inl e
    · exact .inr ⟨e.1, Nat.lt_of_lt_of_le e.2 kk.size⟩
end

theorem lf_cells {S0 S : Nat → Prop} {w wx : World} {K D n B : Nat} {a a' : Option Addr} {cap cap' : Nat} {k : Kp} {s : St} {d : Dk} (f : LF S0 w K D n B a a' cap cap' k s S d wx) :
    wx.cell? ⟨K, 0, none⟩ = some (.pointer (some ⟨D, 0, none⟩)) ∧ wx.cell? ⟨K, 1, none⟩ = some (.int .i64 k.num) ∧ wx.cell? ⟨B, 0, none⟩ = some (.int .i64 s.gen) ∧ wx.cell? ⟨B, 1, none⟩ = some (.slice a' s.regs.length cap') ∧ wx.cell? ⟨B, 2, none⟩ = some (.int .i64 s.typ) ∧ wx.cell? ⟨B, 3, none⟩ = some (.int .i64 s.holder) ∧ wx.cell? ⟨B, 4, none⟩ = some (.bool s.stays) := by
  have h1 := f.blk
  have h2 := f.box
  simp [World.cell?, h1, h2]

set_option maxRecDepth 100000 in
set_option maxHeartbeats 4000000 in
theorem lay_any (S : Nat → Prop) (w : World) (K D n : Nat) (a a' : Option Addr) (cap cap' : Nat) (k : Kp) (ep : Int) (s : St) (h : KpR S w K D n a cap k) (ok : k.d.ok n) (hwl : k.d.wait.length ≤ 900) (n6 : 6 ≤ n)
    (h0 : 0 ≤ k.num) (hk : KNum (k.num + 1) ep s) (hr : StR w s a') (hx : ∀ b o, a' = some ⟨b, o, none⟩ → s.regs ≠ [] → ¬ S b ∧ b ≠ K) (t : Tabs w) :
    Calls Tryz.prog 31 #[.pointer (some ⟨K, 0, none⟩), .int .i64 ep, stV s a' cap'] w fun e w' => KpPost (fun q => (q = a ∧ (k.lay n ep s).1.s = k.s) ∨ q = a') S w K D n (k.lay n ep s) e w' := by
  have HH := Lib.hid h
  have OK := Lib.hid ok
  have HWL := Lib.hid hwl
  have HK := Lib.hid hk
  have HR := Lib.hid hr
  have HX := Lib.hid hx
  have TT := Lib.hid t
  have KLT := Lib.hid (Array.getElem?_eq_some_iff.1 h.blk).1
  clear h ok hwl hr hx t
  obtain ⟨p, hp⟩ : ∃ p, p = par (k.num + 1) := ⟨_, rfl⟩
  obtain ⟨A, hA⟩ : ∃ A, A = kA (k.num + 1) ep s := ⟨_, rfl⟩
  obtain ⟨B, hB⟩ : ∃ B, B = kB (k.num + 1) ep s := ⟨_, rfl⟩
  obtain ⟨T, hT⟩ : ∃ T, T = bsB (kText (k.num + 1) ep s) := ⟨_, rfl⟩
  have RES := Lib.hid (show k.lay n ep s = (let r := lay1 n p A B k.d; if r.2 then (⟨r.1, k.num + 1, ep, s⟩, 0) else ({ k with d := r.1 }, 10)) from by
    unfold Kp.lay; rw [layD_eq, hp, hA, hB])
  have p2 : p < 2 := hp ▸ par_lt _
  have qp : Int.tmod (k.num + 1) 2 = (p : Int) := by
    rw [hp]; unfold par; rw [Int.tmod_eq_emod_of_nonneg (by omega)]; omega
  have AS := Lib.hid (show A.size ≤ 64 from hA ▸ KNum.kA_size)
  have BS := Lib.hid (show B.size ≤ 64 from hB ▸ hk.kB_size)
  have HT := Lib.hid hT
  have hn1 := hk.n1
  have TL := Lib.hid (show T.size = (kText (k.num + 1) ep s).length ∧ T.size ≤ 100 from by rw [hT, bsB_size]; exact ⟨rfl, hk.len⟩)
  have EXB := Lib.hid (show T.extract (min (T.size : Int) 64).toNat T.size = B from by
    rw [hB, hT]; exact ext_B _)
  have EXA := Lib.hid (show T.extract 0 (min (T.size : Int) 64).toNat = A from by
    rw [hA, hT]; exact ext_A _)
  have m0 : (0 : Int) ≤ min (T.size : Int) 64 := by omega
  have m1 : min (T.size : Int) 64 ≤ (T.size : Int) := by omega
  clear hp hA hB hT hk
  have hblk := HH.out.blk
  have hc : w.cell? ⟨K, 0, none⟩ = some (.pointer (some ⟨D, 0, none⟩)) ∧ w.cell? ⟨K, 1, none⟩ = some (.int .i64 k.num) := by simp [World.cell?, hblk]
  obtain ⟨c0, c1⟩ := hc
  have hK := KLT.out
  go_enter Tryz.func31, Tryz.ntmps31
  go_wp2_with fail
  refine (ktext_any (k.num + 1) ep s a' cap' _ (TT.out.on (bal w _)) (HR.out.below (bal w _)) HK.out).mono ?_
  rintro e w1 ⟨rfl, b1⟩
  rw [← HT.out]
  have F1 := Lib.hid (show LF S w K D n w.heap.size a a' cap cap' k s S k.d w1 from
    ⟨(b1.block K (by simp; omega)).trans ((Below.heap_alloc _ _ _ hK).trans hblk), (b1.block w.heap.size (by simp)).trans (heap_alloc_new w _), HH.out.dk.below ((bal w _).trans (b1.mono (by simp))), HH.out.nk, fun e => by have := HH.out.lt _ e; omega,
      fun b e => by have := HH.out.lt b e; have := ((bal w _).trans (b1.mono (by simp))).size; omega, fun b e => .inl e, Keeps.of_below ((bal w _).trans (b1.mono (by simp)))⟩)
  clear b1 hblk c0 c1
  obtain ⟨c0, c1, z0, z1, z2, z3, z4⟩ := lf_cells F1.out
  go_wp2_with fail
  refine (dwrite_any _ _ D n k.d (2 * (p : Int)) ⟨#[]⟩ F1.out.dk OK.out (by have := HWL.out; omega)).mono ?_
  rintro e w2 ⟨rfl, hd, kp⟩
  rw [Dk.writeF_of (by omega) (by omega) (by decide)]
  have F2 := Lib.hid (F1.out.next hd kp)
  clear hd kp c0 c1 z0 z1 z2 z3 z4
  by_cases st0 : k.d.steps = false
  · have LF := Lib.hid (show lay1 n p A B k.d = (k.d.write n (2 * (p : Int)) ⟨#[]⟩, false) from (if_pos st0))
    rw [st0]
    simp only [Bool.false_eq_true, if_false]
    rw [errV_some (show (10 : Int) ≠ 0 by decide)]
    clear st0
    go_wp2
    go_ret
    have h := lf_fail F2.out HH.out
    rw [RES.out, LF.out]
    exact h
  have LL1 := Lib.hid (show lay1 n p A B k.d = lay2 n p A B (k.d.write n (2 * (p : Int)) ⟨#[]⟩) from (if_neg st0))
  have ST0 : k.d.steps = true := by simpa using st0
  rw [ST0]
  simp only [if_true]
  rw [errV_nil]
  have OK1 := Lib.hid (Dk.write_ok OK.out (2 * (p : Int)) ⟨#[]⟩)
  obtain ⟨d1, hnd⟩ : ∃ x, x = k.d.write n (2 * (p : Int)) ⟨#[]⟩ := ⟨_, rfl⟩
  rw [← hnd] at F2 LL1 OK1
  clear hnd st0 ST0
  obtain ⟨c0, c1, z0, z1, z2, z3, z4⟩ := lf_cells F2.out
  go_wp2_with fail
  refine (dflush_any _ _ D n d1 F2.out.dk OK1.out).mono ?_
  rintro e w3 ⟨rfl, hd, kp⟩
  have F3 := Lib.hid (F2.out.same hd kp)
  clear hd kp c0 c1 z0 z1 z2 z3 z4
  by_cases st1 : d1.steps = false
  · have LF := Lib.hid (show lay1 n p A B k.d = (d1.flush, false) from LL1.out.trans (if_pos st1))
    rw [st1]
    simp only [Bool.false_eq_true, if_false]
    rw [errV_some (show (10 : Int) ≠ 0 by decide)]
    clear st1
    go_wp2
    go_ret
    have h := lf_fail F3.out HH.out
    rw [RES.out, LF.out]
    exact h
  have LL2 := Lib.hid (show lay1 n p A B k.d = lay3 n p A B (d1.flush) from LL1.out.trans (if_neg st1))
  have ST1 : d1.steps = true := by simpa using st1
  have WN : (d1.flush).wait.length ≤ 900 := by rw [Dk.flush_steps ST1]; simp
  rw [ST1]
  simp only [if_true]
  rw [errV_nil]
  have OK2 := Lib.hid (Dk.flush_ok' OK1.out)
  obtain ⟨d2, hnd⟩ : ∃ x, x = d1.flush := ⟨_, rfl⟩
  rw [← hnd] at F3 LL2 OK2 WN
  clear hnd st1 ST1
  have HW2 := Lib.hid WN
  clear WN
  obtain ⟨c0, c1, z0, z1, z2, z3, z4⟩ := lf_cells F3.out
  go_upto_region 8 with fail
  have FD := Lib.hid (F3.out.over (Below.refl _ _).drew)
  have QD := Lib.hid (lf_cells FD.out).1
  have DW := Lib.hid (dwrite_any _ _ D n d2 (2 * (p : Int) + 1) (T.extract (min (T.size : Int) 64).toNat T.size) FD.out.dk OK2.out (by have := HW2.out; omega))
  have q1 : IntKind.i64.wrap (2 * (p : Int)) = 2 * (p : Int) := IntWalk.i64_in _ (by omega)
  have q2 : IntKind.i64.wrap (2 * (p : Int) + 1) = 2 * (p : Int) + 1 := IntWalk.i64_in _ (by omega)
  go_region_held3 (fun w' => w'.cell? ⟨K, 0, none⟩ = some (.pointer (some ⟨D, 0, none⟩)))
    (first | assumption | exact QD.out)
    (first | ((with_reducible refine DW.out.mono ?_); rintro e w4 ⟨rfl, hd, kp⟩; have c9 := (lf_cells (FD.out.next hd kp)).1))
  have F4 := Lib.hid (FD.out.next hd kp)
  rw [EXB.out, Dk.writeF_of (by omega) (by omega) BS.out]
  rw [EXB.out] at F4
  clear c9 DW QD FD q1 q2
  clear hd kp c0 c1 z0 z1 z2 z3 z4
  by_cases st2 : d2.steps = false
  · have LF := Lib.hid (show lay1 n p A B k.d = (d2.write n (2 * (p : Int) + 1) B, false) from LL2.out.trans (if_pos st2))
    rw [st2]
    simp only [Bool.false_eq_true, if_false]
    rw [errV_some (show (10 : Int) ≠ 0 by decide)]
    clear st2
    go_wp2
    go_ret
    have h := lf_fail F4.out HH.out
    rw [RES.out, LF.out]
    exact h
  have LL3 := Lib.hid (show lay1 n p A B k.d = lay4 n p A (d2.write n (2 * (p : Int) + 1) B) from LL2.out.trans (if_neg st2))
  have ST2 : d2.steps = true := by simpa using st2
  rw [ST2]
  simp only [if_true]
  rw [errV_nil]
  have OK3 := Lib.hid (Dk.write_ok OK2.out (2 * (p : Int) + 1) B)
  obtain ⟨d3, hnd⟩ : ∃ x, x = d2.write n (2 * (p : Int) + 1) B := ⟨_, rfl⟩
  rw [← hnd] at F4 LL3 OK3
  clear hnd st2 ST2
  obtain ⟨c0, c1, z0, z1, z2, z3, z4⟩ := lf_cells F4.out
  go_wp2_with fail
  refine (dflush_any _ _ D n d3 F4.out.dk OK3.out).mono ?_
  rintro e w5 ⟨rfl, hd, kp⟩
  have F5 := Lib.hid (F4.out.same hd kp)
  clear hd kp c0 c1 z0 z1 z2 z3 z4
  by_cases st3 : d3.steps = false
  · have LF := Lib.hid (show lay1 n p A B k.d = (d3.flush, false) from LL3.out.trans (if_pos st3))
    rw [st3]
    simp only [Bool.false_eq_true, if_false]
    rw [errV_some (show (10 : Int) ≠ 0 by decide)]
    clear st3
    go_wp2
    go_ret
    have h := lf_fail F5.out HH.out
    rw [RES.out, LF.out]
    exact h
  have LL4 := Lib.hid (show lay1 n p A B k.d = lay5 n p A (d3.flush) from LL3.out.trans (if_neg st3))
  have ST3 : d3.steps = true := by simpa using st3
  have WN : (d3.flush).wait.length ≤ 900 := by rw [Dk.flush_steps ST3]; simp
  rw [ST3]
  simp only [if_true]
  rw [errV_nil]
  have OK4 := Lib.hid (Dk.flush_ok' OK3.out)
  obtain ⟨d4, hnd⟩ : ∃ x, x = d3.flush := ⟨_, rfl⟩
  rw [← hnd] at F5 LL4 OK4 WN
  clear hnd st3 ST3
  have HW4 := Lib.hid WN
  clear WN
  obtain ⟨c0, c1, z0, z1, z2, z3, z4⟩ := lf_cells F5.out
  go_upto_region 12 with fail
  have FD := Lib.hid (F5.out.over (Below.refl _ _).drew)
  have QD := Lib.hid (lf_cells FD.out).1
  have DW := Lib.hid (dwrite_any _ _ D n d4 (2 * (p : Int)) (T.extract 0 (min (T.size : Int) 64).toNat) FD.out.dk OK4.out (by have := HW4.out; omega))
  have q1 : IntKind.i64.wrap (2 * (p : Int)) = 2 * (p : Int) := IntWalk.i64_in _ (by omega)
  have q2 : IntKind.i64.wrap (2 * (p : Int) + 1) = 2 * (p : Int) + 1 := IntWalk.i64_in _ (by omega)
  go_region_held3 (fun w' => w'.cell? ⟨K, 0, none⟩ = some (.pointer (some ⟨D, 0, none⟩)))
    (first | assumption | exact QD.out)
    (first | ((with_reducible refine DW.out.mono ?_); rintro e w6 ⟨rfl, hd, kp⟩; have c9 := (lf_cells (FD.out.next hd kp)).1))
  have F6 := Lib.hid (FD.out.next hd kp)
  rw [EXA.out, Dk.writeF_of (by omega) (by omega) AS.out]
  rw [EXA.out] at F6
  clear c9 DW QD FD q1 q2
  clear hd kp c0 c1 z0 z1 z2 z3 z4
  by_cases st4 : d4.steps = false
  · have LF := Lib.hid (show lay1 n p A B k.d = (d4.write n (2 * (p : Int)) A, false) from LL4.out.trans (if_pos st4))
    rw [st4]
    simp only [Bool.false_eq_true, if_false]
    rw [errV_some (show (10 : Int) ≠ 0 by decide)]
    clear st4
    go_wp2
    go_ret
    have h := lf_fail F6.out HH.out
    rw [RES.out, LF.out]
    exact h
  have LL5 := Lib.hid (show lay1 n p A B k.d = lay6 (d4.write n (2 * (p : Int)) A) from LL4.out.trans (if_neg st4))
  have ST4 : d4.steps = true := by simpa using st4
  rw [ST4]
  simp only [if_true]
  rw [errV_nil]
  have OK5 := Lib.hid (Dk.write_ok OK4.out (2 * (p : Int)) A)
  obtain ⟨d5, hnd⟩ : ∃ x, x = d4.write n (2 * (p : Int)) A := ⟨_, rfl⟩
  rw [← hnd] at F6 LL5 OK5
  clear hnd st4 ST4
  obtain ⟨c0, c1, z0, z1, z2, z3, z4⟩ := lf_cells F6.out
  go_wp2_with fail
  refine (dflush_any _ _ D n d5 F6.out.dk OK5.out).mono ?_
  rintro e w7 ⟨rfl, hd, kp⟩
  have F7 := Lib.hid (F6.out.same hd kp)
  clear hd kp c0 c1 z0 z1 z2 z3 z4
  by_cases st5 : d5.steps = false
  · have LF := Lib.hid (show lay1 n p A B k.d = (d5.flush, false) from LL5.out.trans (if_pos st5))
    rw [st5]
    simp only [Bool.false_eq_true, if_false]
    rw [errV_some (show (10 : Int) ≠ 0 by decide)]
    clear st5
    go_wp2
    go_ret
    have h := lf_fail F7.out HH.out
    rw [RES.out, LF.out]
    exact h
  have LL6 := Lib.hid (show lay1 n p A B k.d = (d5.flush, true) from LL5.out.trans (if_neg st5))
  have ST5 : d5.steps = true := by simpa using st5
  have WN : (d5.flush).wait.length ≤ 900 := by rw [Dk.flush_steps ST5]; simp
  rw [ST5]
  simp only [if_true]
  rw [errV_nil]
  have OK6 := Lib.hid (Dk.flush_ok' OK5.out)
  obtain ⟨d6, hnd⟩ : ∃ x, x = d5.flush := ⟨_, rfl⟩
  rw [← hnd] at F7 LL6 OK6 WN
  clear hnd st5 ST5
  have HW6 := Lib.hid WN
  clear WN
  obtain ⟨c0, c1, z0, z1, z2, z3, z4⟩ := lf_cells F7.out
  go_upto_region 16 with fail
  obtain ⟨⟨y1, y2, y3, y4, y5, y6, y7⟩, f1, f2, f3, f4, f5, f6, f7⟩ := lf_keeper F7.out
  have hne : w.heap.size ≠ K := by omega
  have KEEP := Lib.hid (show ∀ w', Keeps (· = K) w7 w' → Keeps (· = K) w7 w' ∧ w'.cell? ⟨w.heap.size, 0, none⟩ = some (.int .i64 s.gen) ∧ w'.cell? ⟨w.heap.size, 1, none⟩ = some (.slice a' s.regs.length cap') ∧ w'.cell? ⟨w.heap.size, 2, none⟩ = some (.int .i64 s.typ) ∧ w'.cell? ⟨w.heap.size, 3, none⟩ = some (.int .i64 s.holder) ∧ w'.cell? ⟨w.heap.size, 4, none⟩ = some (.bool s.stays) from fun w' kp => by
    have hlt : w.heap.size < w7.heap.size := (Array.getElem?_eq_some_iff.1 F7.out.box).1
    have e := fun o => kp.cell (b := w.heap.size) (o := o) hne hlt
    exact ⟨kp, (e 0).trans z0, (e 1).trans z1, (e 2).trans z2, (e 3).trans z3, (e 4).trans z4⟩)
  go_region_held3 (fun w' => Keeps (· = K) w7 w' ∧ w'.cell? ⟨w.heap.size, 0, none⟩ = some (.int .i64 s.gen) ∧ w'.cell? ⟨w.heap.size, 1, none⟩ = some (.slice a' s.regs.length cap') ∧ w'.cell? ⟨w.heap.size, 2, none⟩ = some (.int .i64 s.typ) ∧ w'.cell? ⟨w.heap.size, 3, none⟩ = some (.int .i64 s.holder) ∧ w'.cell? ⟨w.heap.size, 4, none⟩ = some (.bool s.stays))
    (first | (refine KEEP.out _ ?_; first | (with_reducible exact (Keeps.refl _ _).drew) | (with_reducible exact (kset (Keeps.refl _ _) _ _).drew) | (with_reducible exact (kset (kset (Keeps.refl _ _) _ _) _ _).drew) | (with_reducible exact (kset (kset (kset (kset (kset (kset (kset (Keeps.refl _ _) _ _) _ _) _ _) _ _) _ _) _ _) _ _).drew)))
    (fail)
  go_wp2
  go_ret
  have h := kp_drew (lf_done F7.out HR.out HX.out ep)
  rw [RES.out, LL6.out]
  exact h
end Go.Proofs.YtkedmlkbepjnfaaGreatDoor
