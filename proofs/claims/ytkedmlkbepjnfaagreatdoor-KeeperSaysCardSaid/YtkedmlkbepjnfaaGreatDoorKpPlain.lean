/-
  Keepers as plain values: what lies on the disk, what a fall leaves. Plain laws.
-/
import Derived.Test.YtkedmlkbepjnfaaGreatDoorText
import Derived.Test.YtkedmlkbepjnfaaGreatDoorDiskT
namespace Go.Proofs.YtkedmlkbepjnfaaGreatDoor
open Go.RowKit Go.Lib

structure Kp where
  d : Dk
  num : Int
  ep : Int
  s : St

/-- a keeper's text -/
def kText (n e : Int) (s : St) : Bs := 107 :: 32 :: (itoa n ++ 32 :: (itoa e ++ 32 :: (itoa (stText s).length ++ 32 :: stText s)))
def kA (n e : Int) (s : St) : ByteArray := bsB ((kText n e s).take 64)
def kB (n e : Int) (s : St) : ByteArray := bsB ((kText n e s).drop 64)
def full0 : ByteArray := fullB ⟨#[]⟩

/-- numbers that a keeper may have -/
structure KNum (n e : Int) (s : St) : Prop where
  n0 : 0 ≤ n
  n1 : n ≤ 1000000000000000
  e0 : 1 ≤ e
  e1 : e ≤ 1000000
  g : Good s
theorem KNum.len {n e : Int} {s : St} (h : KNum n e s) : (kText n e s).length ≤ 100 := by
  have h1 := itoa_len 15 n h.n0 (by have := h.n1; omega)
  have h2 := itoa_len 6 e (by have := h.e0; omega) (by have := h.e1; omega)
  have h3 := h.g.text_len
  have h4 := itoa_len 1 ((stText s).length : Int) (by omega) (by omega)
  unfold kText
  simp only [List.length_cons, List.length_append]
  omega
theorem KNum.kA_size {n e : Int} {s : St} : (kA n e s).size ≤ 64 := by unfold kA; rw [bsB_size, List.length_take]; omega
theorem KNum.kB_size {n e : Int} {s : St} (h : KNum n e s) : (kB n e s).size ≤ 64 := by have := h.len; unfold kB; rw [bsB_size, List.length_drop]; omega

theorem zerosB_eq (n : Nat) : zerosB n = bsB (List.replicate n 0) := by
  apply ByteArray.ext
  simp [zerosB, bsB, strOfNums]
theorem fullB_bs {l : Bs} : fullB (bsB l) = bsB (l ++ List.replicate (64 - l.length) 0) := by
  unfold fullB
  rw [zerosB_eq, bsB_size, bsB_append]
/-- both sectors, one behind the other -/
theorem two_sectors (t : Bs) (h : t.length ≤ 128) : fullB (bsB (t.take 64)) ++ fullB (bsB (t.drop 64)) = bsB (t ++ List.replicate (128 - t.length) 0) := by
  rw [fullB_bs, fullB_bs, bsB_append]
  congr 1
  rw [List.length_take, List.length_drop]
  by_cases h1 : t.length ≤ 64
  · rw [List.take_of_length_le h1, List.drop_of_length_le h1, List.nil_append, List.append_assoc, List.replicate_append_replicate]
    congr 2
    omega
  · rw [show 64 - min 64 t.length = 0 by omega, List.replicate_zero, List.append_nil, ← List.append_assoc, List.take_append_drop]
    congr 2
    omega

/-! ### the words of a text on the disk -/
theorem split4_kText (n e : Int) (s : St) (z : Bs) : splitK [32] 0 4 (kText n e s ++ z) = [[107], itoa n, itoa e, itoa (stText s).length, stText s ++ z] := by
  have e1 : kText n e s ++ z = [107] ++ 32 :: (itoa n ++ 32 :: (itoa e ++ 32 :: (itoa (stText s).length ++ 32 :: (stText s ++ z)))) := by simp [kText]
  rw [e1, splitK_cons 32 3 _ _ (by decide), splitK_cons 32 2 _ _ (itoa_blank _), splitK_cons 32 1 _ _ (itoa_blank _), splitK_cons 32 0 _ _ (itoa_blank _)]
  rfl
theorem index_cons_ne (c b : UInt8) (l : Bs) (h : c ≠ b) : index (b :: l) [c] = -1 ∨ 1 ≤ index (b :: l) [c] := by
  rw [index]
  have : ([c] : Bs).isPrefixOf (b :: l) = false := by simp [List.isPrefixOf, h]
  rw [this]
  have := index_ge l [c]
  simp only [Bool.false_eq_true, if_false]
  split
  · exact .inl rfl
  · rename_i h2
    right
    simp only [beq_iff_eq] at h2
    omega
/-- where noughts stand ahead, no text is -/
theorem split_zero (k : Nat) (r : Bs) : ∃ a l, splitK [32] 0 k (0 :: r) = (0 :: a) :: l := by
  cases k with
  | zero => exact ⟨r, [], rfl⟩
  | succ k =>
    unfold splitK
    rcases index_cons_ne 32 0 r (by decide) with h | h
    · rw [h]; exact ⟨r, [], rfl⟩
    · rw [if_neg (by simp; omega)]
      obtain ⟨m, hm⟩ : ∃ m : Nat, (index (0 :: r) [32]).toNat = m + 1 := ⟨(index (0 :: r) [32]).toNat - 1, by omega⟩
      rw [hm]
      exact ⟨_, _, rfl⟩

/-! ### what lies on a disk -/
structure Place (now : List ByteArray) (p : Nat) (n e : Int) (s : St) : Prop where
  a : now.getD (2 * p) ⟨#[]⟩ = fullB (kA n e s)
  b : now.getD (2 * p + 1) ⟨#[]⟩ = fullB (kB n e s)
  k : KNum n e s
def Other (now : List ByteArray) (q : Nat) (m : Int) : Prop := now.getD (2 * q) ⟨#[]⟩ = full0 ∨ ∃ n e s, n < m ∧ Place now q n e s
def par (n : Int) : Nat := (n % 2).toNat
theorem par_lt (n : Int) : par n < 2 := by unfold par; omega
theorem par_next (n : Int) : par (n + 1) = 1 - par n := by unfold par; omega
/-- a disk on which just this is kept -/
structure KD (n : Nat) (d : Dk) (num ep : Int) (s : St) : Prop where
  ok : d.ok n
  n6 : 6 ≤ n
  up : d.down = false
  wait : d.wait = []
  same : d.kept = d.now
  p1 : 1 ≤ num
  place : Place d.now (par num) num ep s
  other : Other d.now (1 - par num) num

theorem getD_set_ne {l : List ByteArray} {i j : Nat} (h : i ≠ j) (x : ByteArray) : (l.set i x).getD j ⟨#[]⟩ = l.getD j ⟨#[]⟩ := by
  simp [List.getD_eq_getElem?_getD, List.getElem?_set_ne h]
theorem getD_set_eq {l : List ByteArray} {i : Nat} (h : i < l.length) (x : ByteArray) : (l.set i x).getD i ⟨#[]⟩ = x := by
  simp [List.getD_eq_getElem?_getD, h]
theorem Place.set {now : List ByteArray} {p : Nat} {n e : Int} {s : St} (h : Place now p n e s) {i : Nat} (h1 : i ≠ 2 * p) (h2 : i ≠ 2 * p + 1) (x : ByteArray) : Place (now.set i x) p n e s :=
  ⟨by rw [getD_set_ne h1, h.a], by rw [getD_set_ne h2, h.b], h.k⟩

/-! ### laying, step by step -/
def layD (n : Nat) (d : Dk) (a : Nat) (A B : ByteArray) : Dk × Bool :=
  let d1 := d.write n ((2 * a : Nat) : Int) ⟨#[]⟩
  if d.steps = false then (d1, false) else
  let d2 := d1.flush
  if d1.steps = false then (d2, false) else
  let d3 := d2.write n ((2 * a + 1 : Nat) : Int) B
  if d2.steps = false then (d3, false) else
  let d4 := d3.flush
  if d3.steps = false then (d4, false) else
  let d5 := d4.write n ((2 * a : Nat) : Int) A
  if d4.steps = false then (d5, false) else
  let d6 := d5.flush
  if d5.steps = false then (d6, false) else (d6, true)
def Kp.lay (n : Nat) (k : Kp) (ep : Int) (s : St) : Kp × Int :=
  let r := layD n k.d (par (k.num + 1)) (kA (k.num + 1) ep s) (kB (k.num + 1) ep s)
  if r.2 then (⟨r.1, k.num + 1, ep, s⟩, 0) else ({ k with d := r.1 }, 10)
def Kp.keep (n : Nat) (k : Kp) (ep : Int) (s : St) : Kp × Int :=
  if ep < 1 ∨ 1000000 < ep then (k, 1) else if stateFault s ≠ 0 then (k, stateFault s) else k.lay n ep s

theorem Dk.write_steps {n : Nat} {d : Dk} {p : Nat} {s : ByteArray} (hp : p < n) (hs : s.size ≤ 64) (h : d.steps = true) : d.write n (p : Int) s = { d.step with now := d.now.set p (fullB s), wait := d.wait ++ [(p, fullB s)] } := by
  unfold Dk.write
  rw [if_neg (by omega), if_pos h]
  rfl
theorem Dk.write_stops {n : Nat} {d : Dk} {p : Nat} {s : ByteArray} (hp : p < n) (hs : s.size ≤ 64) (h : d.steps = false) : d.write n (p : Int) s = d.step := by
  unfold Dk.write
  rw [if_neg (by omega), if_neg (by simp [h])]
theorem Dk.writeF_in {n : Nat} {d : Dk} {p : Nat} {s : ByteArray} (hp : p < n) (hs : s.size ≤ 64) : d.writeF n (p : Int) s = if d.steps then 0 else 10 := by
  unfold Dk.writeF
  rw [if_neg (by omega)]
theorem Dk.flush_steps {d : Dk} (h : d.steps = true) : d.flush = { d.step with kept := d.now, wait := [] } := by unfold Dk.flush; rw [if_pos h]
theorem Dk.flush_stops {d : Dk} (h : d.steps = false) : d.flush = d.step := by unfold Dk.flush; rw [if_neg (by simp [h])]
theorem Dk.step_up {d : Dk} (h : d.steps = true) : d.step.down = false := by
  unfold Dk.steps at h
  simp only [Bool.and_eq_true, Bool.not_eq_true', decide_eq_true_eq] at h
  unfold Dk.step
  rw [h.1]
  simp [h.2]
theorem Dk.flush_ok' {n : Nat} {d : Dk} (h : d.ok n) : d.flush.ok n := by
  have k := Dk.step_ok h
  unfold Dk.flush
  split
  · exact ⟨k.n40, h.nl, by simpa [(Dk.step_lists d).2.1] using h.nl, (fun _ hr => by cases hr), k.fu, k.fm⟩
  · exact k
theorem restart_of {keep : Int} {d : Dk} (h : d.wait = []) : d.restart keep = ⟨d.kept, d.kept, [], -1, false⟩ := by
  unfold Dk.restart
  rw [h]
  rfl
theorem restart_one {keep : Int} {d : Dk} {i : Nat} {x : ByteArray} (h : d.wait = [(i, x)]) : d.restart keep = ⟨d.kept, d.kept, [], -1, false⟩ ∨ d.restart keep = ⟨d.kept.set i x, d.kept.set i x, [], -1, false⟩ := by
  unfold Dk.restart
  rw [h]
  simp only [List.length_singleton, Dk.restTo, h]
  split
  · right; simp
  · left; rfl

/-- behind a fall -/
def Fell (n : Nat) (d : Dk) (num ep : Int) (s : St) (ep' : Int) (s' : St) : Prop :=
  d.ok n ∧ ∀ keep, KD n (d.restart keep) num ep s ∨ KD n (d.restart keep) (num + 1) ep' s'

section
variable {n : Nat} {d : Dk} {num ep : Int} {s : St}
theorem KD.kd_of (h : KD n d num ep s) {l : List ByteArray} (hl : l.length = n) (hp : Place l (par num) num ep s) (ho : Other l (1 - par num) num) {f : Int} (hf : -1 ≤ f ∧ f ≤ 9223372036854775807) : KD n ⟨l, l, [], f, false⟩ num ep s :=
  ⟨⟨h.ok.n40, hl, hl, (fun _ hr => by cases hr), hf.1, hf.2⟩, h.n6, rfl, rfl, rfl, h.p1, hp, ho⟩

theorem lay_law (h : KD n d num ep s) (hn : num < 1000000000000000) {ep' : Int} {s' : St} (he : 1 ≤ ep' ∧ ep' ≤ 1000000) (hs : Good s') :
    let r := layD n d (par (num + 1)) (kA (num + 1) ep' s') (kB (num + 1) ep' s')
    r.1.ok n ∧ (r.2 = true → KD n r.1 (num + 1) ep' s') ∧ (r.2 = false → Fell n r.1 num ep s ep' s') := by
  have hk : KNum (num + 1) ep' s' := ⟨by have := h.p1; omega, by omega, he.1, he.2, hs⟩
  have hn6 := h.n6
  have hp2 := par_lt num
  have hpn := par_next num
  obtain ⟨a, ha⟩ : ∃ a, a = par (num + 1) := ⟨_, rfl⟩
  have ha2 : a = 1 - par num := by omega
  have hA : (kA (num + 1) ep' s').size ≤ 64 := KNum.kA_size
  have hB := hk.kB_size
  have hE : (⟨#[]⟩ : ByteArray).size ≤ 64 := by decide
  obtain ⟨A, hAe⟩ : ∃ A, A = kA (num + 1) ep' s' := ⟨_, rfl⟩
  obtain ⟨B, hBe⟩ : ∃ B, B = kB (num + 1) ep' s' := ⟨_, rfl⟩
  rw [← ha, ← hAe, ← hBe]
  rw [← hAe] at hA
  rw [← hBe] at hB
  have nl := h.ok.nl
  have l2a : 2 * a < n := by omega
  have l2b : 2 * a + 1 < n := by omega
  have n1 : 2 * a ≠ 2 * par num := by omega
  have n2 : 2 * a ≠ 2 * par num + 1 := by omega
  have n3 : 2 * a + 1 ≠ 2 * par num := by omega
  have n4 : 2 * a + 1 ≠ 2 * par num + 1 := by omega
  -- lists that may lie there
  obtain ⟨N, hN⟩ : ∃ N, N = d.now := ⟨_, rfl⟩
  obtain ⟨N1, hN1⟩ : ∃ N1, N1 = N.set (2 * a) full0 := ⟨_, rfl⟩
  obtain ⟨N2, hN2⟩ : ∃ N2, N2 = N1.set (2 * a + 1) (fullB B) := ⟨_, rfl⟩
  obtain ⟨N3, hN3⟩ : ∃ N3, N3 = N2.set (2 * a) (fullB A) := ⟨_, rfl⟩
  have p0 : Place N (par num) num ep s := hN ▸ h.place
  have p1 : Place N1 (par num) num ep s := hN1 ▸ p0.set n1 n2 _
  have p2 : Place N2 (par num) num ep s := hN2 ▸ p1.set n3 n4 _
  have p3 : Place N3 (par num) num ep s := hN3 ▸ p2.set n1 n2 _
  have ln : N.length = n := hN ▸ nl
  have ln1 : N1.length = n := by rw [hN1, List.length_set, ln]
  have ln2 : N2.length = n := by rw [hN2, List.length_set, ln1]
  have ln3 : N3.length = n := by rw [hN3, List.length_set, ln2]
  have o0 : Other N (1 - par num) num := hN ▸ h.other
  have o1 : Other N1 (1 - par num) num := .inl (by rw [← ha2, hN1, getD_set_eq (by omega)])
  have o2 : Other N2 (1 - par num) num := .inl (by rw [← ha2, hN2, getD_set_ne (by omega), hN1, getD_set_eq (by omega)])
  have q3 : Place N3 (par (num + 1)) (num + 1) ep' s' := by
    rw [← ha]
    refine ⟨?_, ?_, hk⟩
    · rw [hN3, getD_set_eq (by omega), hAe]
    · rw [hN3, getD_set_ne (by omega), hN2, getD_set_eq (by omega), hBe]
  have o3 : Other N3 (1 - par (num + 1)) (num + 1) := .inr ⟨num, ep, s, by omega, by rw [hpn, show 1 - (1 - par num) = par num by omega]; exact p3⟩
  -- the disk's steps
  have ok := h.ok
  have w0 := h.wait
  have k0 : d.kept = N := h.same.trans hN.symm
  have fell : ∀ {x : Dk}, x.ok n → (∀ keep, KD n (x.restart keep) num ep s ∨ KD n (x.restart keep) (num + 1) ep' s') → Fell n x num ep s ep' s' := fun a b => ⟨a, b⟩
  have mk : ∀ {l : List ByteArray}, l.length = n → Place l (par num) num ep s → Other l (1 - par num) num → KD n ⟨l, l, [], -1, false⟩ num ep s := fun a b c => h.kd_of a b c (by omega)
  unfold layD
  dsimp only
  have ok1 := Dk.write_ok ok ((2 * a : Nat) : Int) ⟨#[]⟩
  by_cases s0 : d.steps = false
  · rw [if_pos s0]
    refine ⟨ok1, fun e => (by cases e), fun _ => fell ok1 fun keep => .inl ?_⟩
    rw [Dk.write_stops l2a hE s0] 
    have hl := Dk.step_lists d
    rw [restart_of (hl.2.2.trans w0), hl.1, k0]
    exact mk ln p0 o0
  rw [if_neg s0]
  have s0' : d.steps = true := by simpa using s0
  obtain ⟨d1, hd1⟩ : ∃ d1, d1 = d.write n ((2 * a : Nat) : Int) ⟨#[]⟩ := ⟨_, rfl⟩
  rw [← hd1] at ok1 ⊢
  have f1 : d1.now = N1 ∧ d1.kept = N ∧ d1.wait = [(2 * a, full0)] := by
    rw [hd1, Dk.write_steps l2a hE s0']
    refine ⟨by rw [hN1, hN]; rfl, by show d.step.kept = _; rw [(Dk.step_lists d).1, k0], by show d.wait ++ _ = _; rw [w0]; rfl⟩
  clear hd1
  have ok2 := Dk.flush_ok' ok1
  by_cases s1 : d1.steps = false
  · rw [if_pos s1]
    refine ⟨ok2, fun e => (by cases e), fun _ => fell ok2 fun keep => .inl ?_⟩
    have hl := Dk.step_lists d1
    rw [Dk.flush_stops s1]
    rcases restart_one (keep := keep) (hl.2.2.trans f1.2.2) with e | e
    · rw [e, hl.1, f1.2.1]; exact mk ln p0 o0
    · rw [e, hl.1, f1.2.1, ← hN1]; exact mk ln1 p1 o1
  rw [if_neg s1]
  have s1' : d1.steps = true := by simpa using s1
  obtain ⟨d2, hd2⟩ : ∃ d2, d2 = d1.flush := ⟨_, rfl⟩
  rw [← hd2] at ok2 ⊢
  have f2 : d2.now = N1 ∧ d2.kept = N1 ∧ d2.wait = [] := by
    rw [hd2, Dk.flush_steps s1']
    exact ⟨by show d1.step.now = _; rw [(Dk.step_lists d1).2.1, f1.1], f1.1, rfl⟩
  clear hd2 f1
  have ok3 := Dk.write_ok ok2 ((2 * a + 1 : Nat) : Int) B
  by_cases s2 : d2.steps = false
  · rw [if_pos s2]
    refine ⟨ok3, fun e => (by cases e), fun _ => fell ok3 fun keep => .inl ?_⟩
    rw [Dk.write_stops l2b hB s2]
    have hl := Dk.step_lists d2
    rw [restart_of (hl.2.2.trans f2.2.2), hl.1, f2.2.1]
    exact mk ln1 p1 o1
  rw [if_neg s2]
  have s2' : d2.steps = true := by simpa using s2
  obtain ⟨d3, hd3⟩ : ∃ d3, d3 = d2.write n ((2 * a + 1 : Nat) : Int) B := ⟨_, rfl⟩
  rw [← hd3] at ok3 ⊢
  have f3 : d3.now = N2 ∧ d3.kept = N1 ∧ d3.wait = [(2 * a + 1, fullB B)] := by
    rw [hd3, Dk.write_steps l2b hB s2']
    refine ⟨by rw [hN2, ← f2.1], by show d2.step.kept = _; rw [(Dk.step_lists d2).1, f2.2.1], by show d2.wait ++ _ = _; rw [f2.2.2]; rfl⟩
  clear hd3 f2
  have ok4 := Dk.flush_ok' ok3
  by_cases s3 : d3.steps = false
  · rw [if_pos s3]
    refine ⟨ok4, fun e => (by cases e), fun _ => fell ok4 fun keep => .inl ?_⟩
    have hl := Dk.step_lists d3
    rw [Dk.flush_stops s3]
    rcases restart_one (keep := keep) (hl.2.2.trans f3.2.2) with e | e
    · rw [e, hl.1, f3.2.1]; exact mk ln1 p1 o1
    · rw [e, hl.1, f3.2.1, ← hN2]; exact mk ln2 p2 o2
  rw [if_neg s3]
  have s3' : d3.steps = true := by simpa using s3
  obtain ⟨d4, hd4⟩ : ∃ d4, d4 = d3.flush := ⟨_, rfl⟩
  rw [← hd4] at ok4 ⊢
  have f4 : d4.now = N2 ∧ d4.kept = N2 ∧ d4.wait = [] := by
    rw [hd4, Dk.flush_steps s3']
    exact ⟨by show d3.step.now = _; rw [(Dk.step_lists d3).2.1, f3.1], f3.1, rfl⟩
  clear hd4 f3
  have ok5 := Dk.write_ok ok4 ((2 * a : Nat) : Int) A
  by_cases s4 : d4.steps = false
  · rw [if_pos s4]
    refine ⟨ok5, fun e => (by cases e), fun _ => fell ok5 fun keep => .inl ?_⟩
    rw [Dk.write_stops l2a hA s4]
    have hl := Dk.step_lists d4
    rw [restart_of (hl.2.2.trans f4.2.2), hl.1, f4.2.1]
    exact mk ln2 p2 o2
  rw [if_neg s4]
  have s4' : d4.steps = true := by simpa using s4
  obtain ⟨d5, hd5⟩ : ∃ d5, d5 = d4.write n ((2 * a : Nat) : Int) A := ⟨_, rfl⟩
  rw [← hd5] at ok5 ⊢
  have f5 : d5.now = N3 ∧ d5.kept = N2 ∧ d5.wait = [(2 * a, fullB A)] := by
    rw [hd5, Dk.write_steps l2a hA s4']
    refine ⟨by rw [hN3, ← f4.1], by show d4.step.kept = _; rw [(Dk.step_lists d4).1, f4.2.1], by show d4.wait ++ _ = _; rw [f4.2.2]; rfl⟩
  clear hd5 f4
  have ok6 := Dk.flush_ok' ok5
  have new : ∀ {f : Int}, -1 ≤ f ∧ f ≤ 9223372036854775807 → KD n ⟨N3, N3, [], f, false⟩ (num + 1) ep' s' := fun {f} hf =>
    ⟨⟨ok.n40, ln3, ln3, (fun _ hr => by cases hr), hf.1, hf.2⟩, hn6, rfl, rfl, rfl, by have := h.p1; omega, q3, o3⟩
  by_cases s5 : d5.steps = false
  · rw [if_pos s5]
    refine ⟨ok6, fun e => (by cases e), fun _ => fell ok6 fun keep => ?_⟩
    have hl := Dk.step_lists d5
    rw [Dk.flush_stops s5]
    rcases restart_one (keep := keep) (hl.2.2.trans f5.2.2) with e | e
    · left; rw [e, hl.1, f5.2.1]; exact mk ln2 p2 o2
    · right; rw [e, hl.1, f5.2.1, ← hN3]; exact new (by omega)
  rw [if_neg s5]
  have s5' : d5.steps = true := by simpa using s5
  refine ⟨ok6, fun _ => ?_, fun e => (by cases e)⟩
  have e : d5.flush = ⟨N3, N3, [], d5.step.fuse, false⟩ := by
    rw [Dk.flush_steps s5', ← f5.1, ← Dk.step_up s5', ← (Dk.step_lists d5).2.1]
  rw [e]
  exact new ⟨(Dk.step_ok ok5).fu, (Dk.step_ok ok5).fm⟩
end

/-! ### a disk that goes on -/
theorem Dk.step_fuse {d : Dk} (h : d.fuse = -1) : d.step.fuse = -1 := by
  unfold Dk.step
  split
  · exact h
  · split
    · rfl
    · dsimp only; rw [if_neg (by omega)]
theorem Dk.write_fuse {n : Nat} {d : Dk} (h : d.fuse = -1) (p : Int) (s : ByteArray) : (d.write n p s).fuse = -1 := by
  unfold Dk.write
  split
  · exact h
  · split
    · exact Dk.step_fuse h
    · exact Dk.step_fuse h
theorem Dk.flush_fuse {d : Dk} (h : d.fuse = -1) : d.flush.fuse = -1 := by
  unfold Dk.flush
  split
  · exact Dk.step_fuse h
  · exact Dk.step_fuse h
theorem Dk.steps_of {d : Dk} (h : d.fuse = -1) (hd : d.down = false) : d.steps = true := by unfold Dk.steps; rw [h, hd]; rfl
theorem Dk.step_down {d : Dk} (h : d.fuse = -1) (hd : d.down = false) : d.step.down = false := Dk.step_up (Dk.steps_of h hd)
theorem Dk.write_down {n : Nat} {d : Dk} (h : d.fuse = -1) (hd : d.down = false) (p : Int) (s : ByteArray) : (d.write n p s).down = false := by
  unfold Dk.write
  split
  · exact hd
  · split
    · exact Dk.step_down h hd
    · exact Dk.step_down h hd
theorem Dk.flush_down {d : Dk} (h : d.fuse = -1) (hd : d.down = false) : d.flush.down = false := by
  unfold Dk.flush
  split
  · exact Dk.step_down h hd
  · exact Dk.step_down h hd
theorem layD_live {n : Nat} {d : Dk} (h : d.fuse = -1) (hd : d.down = false) (a : Nat) (A B : ByteArray) : (layD n d a A B).2 = true ∧ (layD n d a A B).1.fuse = -1 := by
  have st : ∀ {x : Dk}, x.fuse = -1 ∧ x.down = false → ¬ (x.steps = false) := fun hx e => by rw [Dk.steps_of hx.1 hx.2] at e; cases e
  have w : ∀ {x : Dk} (p : Int) (s : ByteArray), x.fuse = -1 ∧ x.down = false → (x.write n p s).fuse = -1 ∧ (x.write n p s).down = false := fun p s hx => ⟨Dk.write_fuse hx.1 p s, Dk.write_down hx.1 hx.2 p s⟩
  have f : ∀ {x : Dk}, x.fuse = -1 ∧ x.down = false → x.flush.fuse = -1 ∧ x.flush.down = false := fun hx => ⟨Dk.flush_fuse hx.1, Dk.flush_down hx.1 hx.2⟩
  have h0 : d.fuse = -1 ∧ d.down = false := ⟨h, hd⟩
  unfold layD
  dsimp only
  rw [if_neg (st h0), if_neg (st (w _ _ h0)), if_neg (st (f (w _ _ h0))), if_neg (st (w _ _ (f (w _ _ h0)))), if_neg (st (f (w _ _ (f (w _ _ h0))))), if_neg (st (w _ _ (f (w _ _ (f (w _ _ h0))))))]
  exact ⟨rfl, (f (w _ _ (f (w _ _ (f (w _ _ h0)))))).1⟩
end Go.Proofs.YtkedmlkbepjnfaaGreatDoor
