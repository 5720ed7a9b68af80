/-
  Boxes of what is to be told: how they lie in memory; slices.Clone at int.
-/
import Derived.Test.YtclhmpknkinjcaaOthers
import Derived.Lib.LazyBuf
import Derived.WalkSpells
namespace Go.Proofs.Ytclhmpknkinjcaa
open Go.RowKit

theorem ints_cells {B : Nat} {w : World} {b o : Nat} {l : List Int} (h : Ints B w (some ⟨b, o, none⟩) l) : ∀ j u, (l.map (Value.int .i64))[j]? = some u → w.cell? ((⟨b, o, none⟩ : Addr).add j) = some u := by
  intro j u hj
  have hjl : j < l.length := by
    have := (List.getElem?_eq_some_iff.1 hj).1
    simpa using this
  obtain ⟨b', o', e, hb, c1⟩ := h j hjl
  obtain ⟨rfl, rfl⟩ : b = b' ∧ o = o' := by simpa using e
  have hadd : (⟨b, o, none⟩ : Addr).add j = ⟨b, o + j, none⟩ := by unfold Addr.add; split <;> simp_all
  rw [hadd, c1, ← hj]
  simp [hjl]

theorem ints_one (l : List Int) : ∀ u ∈ l.map (Value.int .i64), u.oneCell' = true := by
  intro u hu
  simp only [List.mem_map] at hu
  obtain ⟨r, _, h⟩ := hu
  subst h; rfl

theorem clone_int (l : List Int) (a : Option Addr) (cap : Nat) (w : World) (hl : l.length * 8 ≤ 140737488355328) (hr : Ints w.heap.size w a l) :
    Calls Try.prog 105 #[.slice a l.length cap] w fun e w' => ∃ v, e = .returned v ∧ OwnI w.heap.size w' v l ∧ Below w.heap.size w w' := by
  have hq := fun w => Lib.run_eql_slice_nil (P := Try.prog) w 71 3 a l.length cap 0 0 Try.underlying71
  obtain ⟨i0, hi, hz0, hz1, hz2⟩ := info_parts Try.infoInt
  cases a with
  | none =>
    have hz : l = [] := by
      cases l with
      | nil => rfl
      | cons r l => obtain ⟨b, o, e, _⟩ := hr 0 (by simp); cases e
    subst hz
    simp only [List.length_nil, Option.isNone_none] at hq ⊢
    clear hi hz0 hz1 hz2 hr hl
    go_enter Try.func105, Try.ntmps105
    go_wp2
    go_ret
    exact ⟨_, rfl, ⟨rfl, .inl ⟨rfl, rfl⟩⟩, Below.refl _ _⟩
  | some ad =>
    have hcase : l = [] ∨ ∃ b o, ad = ⟨b, o, none⟩ ∧ b < w.heap.size := by
      cases l with
      | nil => exact .inl rfl
      | cons r l => obtain ⟨b, o, e, hb, _⟩ := hr 0 (by simp); exact .inr ⟨b, o, by simpa using e, hb⟩
    have hnews : ∀ j u, (l.map (Value.int .i64))[j]? = some u → (w.alloc (.cells #[] 3)).cell? (ad.add j) = some u := by
      rcases hcase with rfl | ⟨b, o, rfl, hb⟩
      · intro j u h; simp at h
      · exact ints_cells (hr.below (bal w _) (Nat.le_refl _))
    have hown : (w.alloc (.cells #[] 3)).ownsRow w.heap.size 3 1 (.slice (some ⟨w.heap.size, 0, none⟩) 0 0) 0 [] :=
      ⟨rfl, .inr ⟨w.heap.size, 0, #[], rfl, Nat.le_refl _, heap_alloc_new _ _, Nat.le_refl _, by simp [maxLen], rfl, rfl⟩⟩
    go_enter Try.func105, Try.ntmps105
    go_wp2_with (at_builtin; refine wpList_append_own _ rfl _ _ 71 rfl w.heap.size 3 i0 (.int .i64 0) 1 8 Try.underlying71 hi hz0 hz1 hz2 rfl (by decide) _ _ _ rfl hown ad l.length cap (l.map (Value.int .i64)) rfl (by simp) hnews (ints_one l) ?c3 ?c4 ?c5 ?_)
    case c3 => unfold maxLen; omega
    case c4 => omega
    case c5 => simp
    intro v' w1 hown1 hg1 _
    go_wp2
    go_ret
    refine ⟨_, rfl, ?_, ?_⟩
    · simpa [OwnI] using hown1
    · exact (bal w _).grown hg1 (by simp) (fun k hk => by simp [Value.ownBlock] at hk; omega)

/-- the tail of a slice of integers, wherever it lies -/
theorem slice_tail (B : Nat) (w : World) (a : Option Addr) (l : List Int) (c : Nat) (h : Ints B w a l) (k : Nat) (hk : k ≤ l.length) (hc : l.length ≤ c) :
    ∃ a', (∀ w, (Instr.slice 71 (.slice a l.length c) (some (.int .i64 (k : Int))) none none).run Try.prog w = .ok (.slice a' (l.length - k) (c - k)) w) ∧ Ints B w a' (l.drop k) := by
  refine ⟨if c = k then a else a.map (·.add (k * 1)), fun w => ?_, ?_⟩
  · have ht : Try.prog.underlying 71 = some (.slice (Try.prog.elem 71)) := by kernel_rfl
    rw [run_slice_l (P := Try.prog) w 71 a l.length c ht .i64 (k : Int) (by omega) (by omega)]
    have hs : (sizeOf (Try.prog.elem 71)).run Try.prog w = .ok 1 w := by kernel_rfl
    rw [hs]
    simp [Result.andThen, sliced]
  · intro i hi
    have hi' : k + i < l.length := by simp at hi; omega
    obtain ⟨b, o, rfl, hb, c1⟩ := h (k + i) hi'
    rw [if_neg (by omega)]
    have hadd : (⟨b, o, none⟩ : Addr).add (k * 1) = ⟨b, o + k, none⟩ := by unfold Addr.add; split <;> simp_all
    refine ⟨b, o + k, by simp only [Option.map_some, hadd], hb, ?_⟩
    rw [show o + k + i = o + (k + i) from by omega, c1]
    simp

theorem OwnI.cap {B : Nat} {w : World} {a : Option Addr} {l : List Int} {n c : Nat} (h : OwnI B w (.slice a n c) l) : l.length ≤ c := by
  obtain ⟨h1, h2⟩ := h
  rcases h2 with ⟨e, hn⟩ | ⟨g, cap, cur, e, hg, hh, hc, hm, hs, ht⟩
  · omega
  · cases e; exact hc

structure Sl where
  a : Option Addr
  l : List Int
  c : Nat
abbrev Sl.v (s : Sl) : Value := .slice s.a s.l.length s.c
structure Sl.ok (s : Sl) (w : World) : Prop where
  ints : Ints w.heap.size w s.a s.l
  len : s.l.length ≤ 5
  cap : s.l.length ≤ s.c

theorem Sl.ok.below {s : Sl} {w w' : World} (h : s.ok w) (hb : Below w.heap.size w w') : s.ok w' :=
  ⟨(h.ints.below hb (Nat.le_refl _)).mono hb.size, h.len, h.cap⟩

structure Bx where
  s1 : Sl
  s2 : Sl
  s3 : Sl
  s4 : Sl
abbrev Bx.cells (b : Bx) : Array Value := #[b.s1.v, b.s2.v, b.s3.v, b.s4.v]
def Bx.get (b : Bx) (k : Int) : Sl := if k = 1 then b.s1 else if k = 2 then b.s2 else if k = 3 then b.s3 else b.s4
def Bx.set (b : Bx) (k : Int) (s : Sl) : Bx := if k = 1 then { b with s1 := s } else if k = 2 then { b with s2 := s } else if k = 3 then { b with s3 := s } else { b with s4 := s }
structure Bx.ok (b : Bx) (w : World) : Prop where
  o1 : b.s1.ok w
  o2 : b.s2.ok w
  o3 : b.s3.ok w
  o4 : b.s4.ok w
theorem Bx.ok.below {b : Bx} {w w' : World} (h : b.ok w) (hb : Below w.heap.size w w') : b.ok w' := ⟨h.o1.below hb, h.o2.below hb, h.o3.below hb, h.o4.below hb⟩
theorem Bx.ok.set {b : Bx} {w : World} (h : b.ok w) (k : Int) {s : Sl} (hs : s.ok w) : (b.set k s).ok w := by
  unfold Bx.set
  split
  · exact ⟨hs, h.o2, h.o3, h.o4⟩
  split
  · exact ⟨h.o1, hs, h.o3, h.o4⟩
  split
  · exact ⟨h.o1, h.o2, hs, h.o4⟩
  · exact ⟨h.o1, h.o2, h.o3, hs⟩
theorem Bx.get_set (b : Bx) (k j : Int) (s : Sl) (hk : 1 ≤ k ∧ k ≤ 4) (hj : 1 ≤ j ∧ j ≤ 4) : (b.set k s).get j = if j = k then s else b.get j := by
  have : k = 1 ∨ k = 2 ∨ k = 3 ∨ k = 4 := by omega
  have : j = 1 ∨ j = 2 ∨ j = 3 ∨ j = 4 := by omega
  rcases ‹k = 1 ∨ _› with rfl | rfl | rfl | rfl <;> rcases ‹j = 1 ∨ _› with rfl | rfl | rfl | rfl <;> rfl

/-- added: not what is the last one already; at most five, the eldest lost first -/
def addL (l : List Int) (x : Int) : List Int := if l.getLast? = some x then l else (l ++ [x]).drop (l.length + 1 - 5)
theorem addL_len (l : List Int) (x : Int) (h : l.length ≤ 5) : (addL l x).length ≤ 5 := by
  unfold addL; split
  · exact h
  · simp; omega
theorem addL_last (l : List Int) (x : Int) (n : Nat) (hn : l.length = n + 1) (h : l[n] = x) : addL l x = l := by
  unfold addL; rw [if_pos]
  rw [List.getLast?_eq_getElem?, hn, Nat.add_sub_cancel, List.getElem?_eq_getElem (by omega), h]
theorem addL_new (l : List Int) (x : Int) (n : Nat) (hn : l.length = n + 1) (h : l[n] ≠ x) : addL l x = (l ++ [x]).drop (l.length + 1 - 5) := by
  unfold addL; rw [if_neg]
  rw [List.getLast?_eq_getElem?, hn, Nat.add_sub_cancel, List.getElem?_eq_getElem (by omega)]
  simpa using h
theorem addL_nil (x : Int) : addL [] x = [x] := rfl

/-- all blocks but M that lay there are as they were -/
structure BelowBut (M B : Nat) (w w' : World) : Prop where
  low : Below M w w'
  size : w.heap.size ≤ w'.heap.size
  block : ∀ k, k < B → k ≠ M → w'.heap[k]? = w.heap[k]?

theorem BelowBut.refl (M B : Nat) (w : World) : BelowBut M B w w := ⟨Below.refl _ _, Nat.le_refl _, fun _ _ _ => rfl⟩
theorem BelowBut.trans {M B : Nat} {a b c : World} (h : BelowBut M B a b) (k : BelowBut M B b c) : BelowBut M B a c :=
  ⟨h.low.trans k.low, Nat.le_trans h.size k.size, fun x hx hm => (k.block x hx hm).trans (h.block x hx hm)⟩
theorem BelowBut.of {M B : Nat} {w w' : World} (h : Below B w w') (hM : M ≤ B) : BelowBut M B w w' :=
  ⟨h.mono hM, h.size, fun k hk _ => h.block k hk⟩
theorem BelowBut.cell {M B : Nat} {w w' : World} (h : BelowBut M B w w') {b o : Nat} (hb : b < B) (hm : b ≠ M) : w'.cell? ⟨b, o, none⟩ = w.cell? ⟨b, o, none⟩ := World.cell?_of_block (w := w) (a := ⟨b, o, none⟩) (h.block b hb hm)
end Go.Proofs.Ytclhmpknkinjcaa
