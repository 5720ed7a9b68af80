/-
  Disks: plain states, the disk in memory; contracts of full, noughts, step.
-/
import Derived.Test.YtkedmlkbepjnfaaGreatDoorKeepsP
import Derived.Test.YtkedmlkbepjnfaaGreatDoorCheck
import Derived.RegionTactic
import Derived.Laws.BytesArg
import Derived.Lib.SlBuf
namespace Go.Proofs.YtkedmlkbepjnfaaGreatDoor
open Go.RowKit

/-! ### plain -/
structure Dk where
  kept : List ByteArray
  now : List ByteArray
  wait : List (Nat × ByteArray)
  fuse : Int
  down : Bool
def zerosB (n : Nat) : ByteArray := strOfNums (List.replicate n 0)
def fullB (s : ByteArray) : ByteArray := s ++ zerosB (64 - s.size)
def Dk.steps (d : Dk) : Bool := !d.down && decide (d.fuse ≠ 0)
def Dk.step (d : Dk) : Dk :=
  if d.down then d else if d.fuse = 0 then { d with down := true, fuse := -1 } else { d with fuse := if 0 < d.fuse then d.fuse - 1 else -1 }
structure Dk.ok (n : Nat) (d : Dk) : Prop where
  n40 : n ≤ 40
  kl : d.kept.length = n
  nl : d.now.length = n
  wl : ∀ r ∈ d.wait, r.1 < n
  fu : -1 ≤ d.fuse
  fm : d.fuse ≤ 9223372036854775807
theorem Dk.step_ok {n : Nat} {d : Dk} (h : d.ok n) : d.step.ok n := by
  have := h.fu
  have := h.fm
  unfold Dk.step
  split
  · exact h
  · split
    · exact ⟨h.n40, h.kl, h.nl, h.wl, by simp, by simp⟩
    · split
      · exact ⟨h.n40, h.kl, h.nl, h.wl, by show -1 ≤ d.fuse - 1; omega, by show d.fuse - 1 ≤ _; omega⟩
      · exact ⟨h.n40, h.kl, h.nl, h.wl, by simp, by simp⟩

/-! ### in memory -/
def strs (l : List ByteArray) : List Value := l.map .string
def wcells (l : List (Nat × ByteArray)) : List Value := l.flatMap fun r => [.int .i64 r.1, .string r.2]
theorem wcells_length (l : List (Nat × ByteArray)) : (wcells l).length = l.length * 2 := by
  induction l with
  | nil => rfl
  | cons r l ih => simp [wcells] at ih ⊢; omega
theorem wcells_append (l m : List (Nat × ByteArray)) : wcells (l ++ m) = wcells l ++ wcells m := by simp [wcells]
theorem wcells_at : ∀ (l : List (Nat × ByteArray)) (i : Nat) (h : i < l.length), (wcells l)[i * 2]? = some (.int .i64 (l[i]).1) ∧ (wcells l)[i * 2 + 1]? = some (.string (l[i]).2)
  | r :: l, 0, _ => by simp [wcells]
  | r :: l, i + 1, h => by
    have := wcells_at l i (by simpa using h)
    have e : wcells (r :: l) = .int .i64 r.1 :: .string r.2 :: wcells l := rfl
    rw [e, show (i + 1) * 2 = i * 2 + 1 + 1 from by omega]
    simpa using this
theorem wcells_one (l : List (Nat × ByteArray)) : ∀ u ∈ wcells l, u.oneCell' = true := by
  intro u hu
  simp only [wcells, List.mem_flatMap, List.mem_cons, List.mem_nil_iff, or_false] at hu
  obtain ⟨r, _, h | h⟩ := hu <;> subst h <;> rfl
theorem strs_one (l : List ByteArray) : ∀ u ∈ strs l, u.oneCell' = true := by
  intro u hu
  simp only [strs, List.mem_map] at hu
  obtain ⟨r, _, h⟩ := hu; subst h; rfl

/-- a row of strings at the head of a block -/
def RowS (w : World) (g : Nat) (l : List ByteArray) : Prop :=
  ∃ cur : Array Value, w.heap[g]? = some (.cells cur 9 (0, 0)) ∧ l.length ≤ cur.size ∧ cur.toList.take l.length = strs l
theorem RowS.lt {w : World} {g : Nat} {l : List ByteArray} (h : RowS w g l) : g < w.heap.size := by
  obtain ⟨cur, h1, -⟩ := h
  exact (Array.getElem?_eq_some_iff.1 h1).1
theorem RowS.cell {w : World} {g : Nat} {l : List ByteArray} (h : RowS w g l) {i : Nat} (hi : i < l.length) : w.cell? ⟨g, i, none⟩ = some (.string l[i]) ∧ w.frozen? ⟨g, i, none⟩ = false := by
  obtain ⟨cur, h1, h2, h3⟩ := h
  refine ⟨?_, by simp [World.frozen?, h1]⟩
  have : (cur.toList.take l.length)[i]? = (strs l)[i]? := by rw [h3]
  rw [List.getElem?_take_of_lt hi] at this
  simp only [World.cell?, h1]
  simpa [strs, hi] using this
theorem RowS.move {w w' : World} {g : Nat} {l : List ByteArray} (h : RowS w g l) (e : w'.heap[g]? = w.heap[g]?) : RowS w' g l := by
  obtain ⟨cur, h1, h2⟩ := h
  exact ⟨cur, e.trans h1, h2⟩
theorem RowS.set {w : World} {g : Nat} {l : List ByteArray} (h : RowS w g l) (i : Nat) (s : ByteArray) : RowS (w.setCell ⟨g, i, none⟩ (.string s)) g (l.set i s) := by
  obtain ⟨cur, h1, h2, h3⟩ := h
  refine ⟨_, block_setCell h1 _, by simpa using h2, ?_⟩
  rw [Array.toList_setIfInBounds, List.length_set, List.take_set, h3]
  simp [strs, List.map_set]
theorem RowS.put {w : World} {g : Nat} {l m : List ByteArray} (h : RowS w g l) (cur : Array Value) (hc : w.heap[g]? = some (.cells cur 9 (0, 0))) : RowS (w.setRow g (cur.toList.take 0 ++ strs m ++ cur.toList.drop (0 + (strs m).length)).toArray) g m := by
  obtain ⟨cur', h1, h2, h3⟩ := h
  obtain rfl : cur' = cur := by rw [h1] at hc; simpa using hc
  refine ⟨_, setRow_heap _ _ _ _ _ _ h1, ?_, ?_⟩
  · simp [strs]
  · simp [strs]

/-- a disk in memory: its block, its two rows, its own slice of turns -/
structure DkR (w : World) (T Tt : TypeId) (D K N ck cn : Nat) (wv : Value) (n : Nat) (d : Dk) : Prop where
  blk : w.heap[D]? = some (.cells #[.slice (some ⟨K, 0, none⟩) n ck, .slice (some ⟨N, 0, none⟩) n cn, wv, .int .i64 d.fuse, .bool d.down] T (0, 0))
  kept : RowS w K d.kept
  now : RowS w N d.now
  wait : w.ownsRow 0 Tt 2 wv d.wait.length (wcells d.wait)
  kd : K ≠ D
  nd : N ≠ D
  kn : K ≠ N
  wd : wv.ownBlock ≠ some D
  wk : wv.ownBlock ≠ some K
  wn : wv.ownBlock ≠ some N
  nc : n ≤ ck ∧ n ≤ cn
def DkAt (S : Nat → Prop) (w : World) (T Tt : TypeId) (D n : Nat) (d : Dk) : Prop :=
  ∃ K N ck cn wv, DkR w T Tt D K N ck cn wv n d ∧ S D ∧ S K ∧ S N ∧ ∀ k, wv.ownBlock = some k → S k
/-- the blocks of S, and those that were made -/
def grow (S : Nat → Prop) (w w' : World) : Nat → Prop := fun k => S k ∨ w.heap.size ≤ k ∧ k < w'.heap.size
theorem own_lt {w : World} {B : Nat} {e : TypeId} {s : Nat} {v : Value} {n : Nat} {xs : List Value} (h : w.ownsRow B e s v n xs) {k : Nat} (hk : v.ownBlock = some k) : k < w.heap.size := by
  rcases h.2 with ⟨rfl, -⟩ | ⟨g, cap, cur, rfl, -, hg, -⟩
  · cases hk
  · obtain rfl : g = k := by simpa [Value.ownBlock] using hk
    exact (Array.getElem?_eq_some_iff.1 hg).1
theorem own_move {w w' : World} {B : Nat} {e : TypeId} {s : Nat} {v : Value} {n : Nat} {xs : List Value} (h : w.ownsRow B e s v n xs) (hb : ∀ k, v.ownBlock = some k → w'.heap[k]? = w.heap[k]?) : w'.ownsRow B e s v n xs := by
  refine ⟨h.1, ?_⟩
  rcases h.2 with h2 | ⟨g, cap, cur, rfl, e2, e3, e4⟩
  · exact .inl h2
  · exact .inr ⟨g, cap, cur, rfl, e2, (hb g rfl).trans e3, e4⟩
theorem DkR.move {w w' : World} {T Tt : TypeId} {D K N ck cn : Nat} {wv : Value} {n : Nat} {d : Dk} (h : DkR w T Tt D K N ck cn wv n d)
    (hb : ∀ k, (k = D ∨ k = K ∨ k = N ∨ wv.ownBlock = some k) → w'.heap[k]? = w.heap[k]?) : DkR w' T Tt D K N ck cn wv n d :=
  ⟨(hb D (.inl rfl)).trans h.blk, h.kept.move (hb K (.inr (.inl rfl))), h.now.move (hb N (.inr (.inr (.inl rfl)))), own_move h.wait (fun k hk => hb k (.inr (.inr (.inr hk)))), h.kd, h.nd, h.kn, h.wd, h.wk, h.wn, h.nc⟩
theorem DkR.lt {w : World} {T Tt : TypeId} {D K N ck cn : Nat} {wv : Value} {n : Nat} {d : Dk} (h : DkR w T Tt D K N ck cn wv n d) : D < w.heap.size := (Array.getElem?_eq_some_iff.1 h.blk).1
theorem DkR.below {w w' : World} {T Tt : TypeId} {D K N ck cn : Nat} {wv : Value} {n : Nat} {d : Dk} (h : DkR w T Tt D K N ck cn wv n d) (b : Below w.heap.size w w') : DkR w' T Tt D K N ck cn wv n d :=
  h.move (fun k hk => b.block k (by
    rcases hk with e | e | e | e
    · exact e ▸ h.lt
    · exact e ▸ h.kept.lt
    · exact e ▸ h.now.lt
    · exact own_lt h.wait e))
theorem DkAt.keeps {S R : Nat → Prop} {w w' : World} {T Tt : TypeId} {D n : Nat} {d : Dk} (h : DkAt S w T Tt D n d) (k : Keeps R w w') (hd : ∀ b, S b → ¬ R b) : DkAt S w' T Tt D n d := by
  obtain ⟨K, N, ck, cn, wv, r, s1, s2, s3, s4⟩ := h
  refine ⟨K, N, ck, cn, wv, r.move (fun b hb => k.block b (hd b ?_) ?_), s1, s2, s3, s4⟩
  · rcases hb with e | e | e | e
    · exact e ▸ s1
    · exact e ▸ s2
    · exact e ▸ s3
    · exact s4 _ e
  · rcases hb with e | e | e | e
    · exact e ▸ r.lt
    · exact e ▸ r.kept.lt
    · exact e ▸ r.now.lt
    · exact own_lt r.wait e
theorem DkAt.below {S : Nat → Prop} {w w' : World} {T Tt : TypeId} {D n : Nat} {d : Dk} (h : DkAt S w T Tt D n d) (b : Below w.heap.size w w') : DkAt S w' T Tt D n d := by
  obtain ⟨K, N, ck, cn, wv, r, s1, s2, s3, s4⟩ := h
  exact ⟨K, N, ck, cn, wv, r.below b, s1, s2, s3, s4⟩
theorem DkAt.mono {S R : Nat → Prop} {w : World} {T Tt : TypeId} {D n : Nat} {d : Dk} (h : DkAt S w T Tt D n d) (hs : ∀ k, S k → R k) : DkAt R w T Tt D n d := by
  obtain ⟨K, N, ck, cn, wv, r, s1, s2, s3, s4⟩ := h
  exact ⟨K, N, ck, cn, wv, r, hs _ s1, hs _ s2, hs _ s3, fun k hk => hs _ (s4 k hk)⟩
/-- the cells of the disk's block -/
theorem DkR.cells {w : World} {T Tt : TypeId} {D K N ck cn : Nat} {wv : Value} {n : Nat} {d : Dk} (h : DkR w T Tt D K N ck cn wv n d) :
    (w.cell? ⟨D, 0, none⟩ = some (.slice (some ⟨K, 0, none⟩) n ck) ∧ w.cell? ⟨D, 1, none⟩ = some (.slice (some ⟨N, 0, none⟩) n cn) ∧ w.cell? ⟨D, 2, none⟩ = some wv ∧ w.cell? ⟨D, 3, none⟩ = some (.int .i64 d.fuse) ∧ w.cell? ⟨D, 4, none⟩ = some (.bool d.down)) ∧
    w.frozen? ⟨D, 0, none⟩ = false ∧ w.frozen? ⟨D, 1, none⟩ = false ∧ w.frozen? ⟨D, 2, none⟩ = false ∧ w.frozen? ⟨D, 3, none⟩ = false ∧ w.frozen? ⟨D, 4, none⟩ = false := by
  simp [World.cell?, World.frozen?, h.blk]
/-- fuse and down are set -/
theorem DkR.setF {w : World} {T Tt : TypeId} {D K N ck cn : Nat} {wv : Value} {n : Nat} {d : Dk} (h : DkR w T Tt D K N ck cn wv n d) (f : Int) : DkR (w.setCell ⟨D, 3, none⟩ (.int .i64 f)) T Tt D K N ck cn wv n { d with fuse := f } := by
  have o : ∀ k, k ≠ D → (w.setCell ⟨D, 3, none⟩ (.int .i64 f)).heap[k]? = w.heap[k]? := fun k hk => Below.heap_setCell _ _ _ _ hk
  exact ⟨block_setCell h.blk _, h.kept.move (o K h.kd), h.now.move (o N h.nd), own_move h.wait (fun k hk => o k (fun e => h.wd (e ▸ hk))), h.kd, h.nd, h.kn, h.wd, h.wk, h.wn, h.nc⟩
theorem DkR.setD {w : World} {T Tt : TypeId} {D K N ck cn : Nat} {wv : Value} {n : Nat} {d : Dk} (h : DkR w T Tt D K N ck cn wv n d) (f : Bool) : DkR (w.setCell ⟨D, 4, none⟩ (.bool f)) T Tt D K N ck cn wv n { d with down := f } := by
  have o : ∀ k, k ≠ D → (w.setCell ⟨D, 4, none⟩ (.bool f)).heap[k]? = w.heap[k]? := fun k hk => Below.heap_setCell _ _ _ _ hk
  exact ⟨block_setCell h.blk _, h.kept.move (o K h.kd), h.now.move (o N h.nd), own_move h.wait (fun k hk => o k (fun e => h.wd (e ▸ hk))), h.kd, h.nd, h.kn, h.wd, h.wk, h.wn, h.nc⟩

end Go.Proofs.YtkedmlkbepjnfaaGreatDoor
