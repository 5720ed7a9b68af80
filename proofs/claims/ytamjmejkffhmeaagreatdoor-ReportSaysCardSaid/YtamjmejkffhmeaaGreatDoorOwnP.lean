/-
  Slices of pairs that a call makes: ownership.
-/
import Derived.Test.YtamjmejkffhmeaaGreatDoorRep
import Derived.WalkSpells
import Derived.Lib.LazyBuf
namespace Go.Proofs.YtamjmejkffhmeaaGreatDoor
open Go.RowKit

def pcells (l : List (Int × Int)) : List Value := l.flatMap fun r => [.int .i64 r.1, .int .i64 r.2]

theorem pcells_length (l : List (Int × Int)) : (pcells l).length = l.length * 2 := by
  induction l with
  | nil => rfl
  | cons r l ih => simp [pcells] at ih ⊢; omega

theorem pcells_append (l m : List (Int × Int)) : pcells (l ++ m) = pcells l ++ pcells m := by simp [pcells]

theorem pcells_at : ∀ (l : List (Int × Int)) (i : Nat) (h : i < l.length), (pcells l)[i * 2]? = some (.int .i64 (l[i]).1) ∧ (pcells l)[i * 2 + 1]? = some (.int .i64 (l[i]).2)
  | r :: l, 0, _ => by simp [pcells]
  | r :: l, i + 1, h => by
    have := pcells_at l i (by simpa using h)
    have e : pcells (r :: l) = .int .i64 r.1 :: .int .i64 r.2 :: pcells l := rfl
    rw [e, show (i + 1) * 2 = i * 2 + 1 + 1 from by omega]
    simpa using this

theorem pcells_one (l : List (Int × Int)) : ∀ u ∈ pcells l, u.oneCell' = true := by
  intro u hu
  simp only [pcells, List.mem_flatMap, List.mem_cons, List.mem_nil_iff, or_false] at hu
  obtain ⟨r, _, h | h⟩ := hu <;> subst h <;> rfl

/-- a slice value that owns a list of pairs, in blocks from B on -/
def OwnP (B : Nat) (w : World) (v : Value) (l : List (Int × Int)) : Prop := w.ownsRow B 48 2 v l.length (pcells l)

theorem OwnP.shape {B : Nat} {w : World} {v : Value} {l : List (Int × Int)} (h : OwnP B w v l) : ∃ a cap, v = .slice a l.length cap ∧ Pairs w.heap.size w a l ∧ (a = none → cap = 0) := by
  obtain ⟨h1, h2⟩ := h
  rcases h2 with ⟨rfl, hn⟩ | ⟨g, cap, cur, rfl, hg, hh, hc, hm, hs, ht⟩
  · have : l = [] := List.length_eq_zero_iff.1 hn
    subst this
    exact ⟨none, 0, rfl, Pairs.nil _ _ _, fun _ => rfl⟩
  · refine ⟨_, cap, rfl, fun i hi => ?_, fun e => by cases e⟩
    have hlt : g < w.heap.size := (Array.getElem?_eq_some_iff.1 hh).1
    obtain ⟨p1, p2⟩ := pcells_at l i hi
    have hcell : ∀ j, j < l.length * 2 → w.cell? ⟨g, 0 + j, none⟩ = (pcells l)[j]? := by
      intro j hj
      rw [← ht, List.getElem?_take_of_lt hj]
      simp [World.cell?, hh]
    exact ⟨g, 0, rfl, hlt, (hcell _ (by omega)).trans p1, by rw [show 0 + i * 2 + 1 = 0 + (i * 2 + 1) from by omega]; exact (hcell _ (by omega)).trans p2⟩

theorem Tryz.infoReg : (Tryz.prog.info? 48).map (fun i => (i.zero, i.size, i.bytes)) = some (some (.agg #[.int .i64 0, .int .i64 0]), 2, 16) := by kernel_rfl

/-- the cells of a list of pairs, at an address -/
theorem pairs_cells {B : Nat} {w : World} {b o : Nat} {l : List (Int × Int)} (h : Pairs B w (some ⟨b, o, none⟩) l) : ∀ j u, (pcells l)[j]? = some u → w.cell? ((⟨b, o, none⟩ : Addr).add j) = some u := by
  intro j u hj
  have hl := pcells_length l
  have hjl : j < l.length * 2 := by
    have := (List.getElem?_eq_some_iff.1 hj).1
    omega
  obtain ⟨b', o', e, hb, c1, c2⟩ := h (j / 2) (by omega)
  obtain ⟨rfl, rfl⟩ : b = b' ∧ o = o' := by simpa using e
  obtain ⟨p1, p2⟩ := pcells_at l (j / 2) (by omega)
  have hadd : (⟨b, o, none⟩ : Addr).add j = ⟨b, o + j, none⟩ := by unfold Addr.add; split <;> simp_all
  rw [hadd]
  rcases (by omega : j = j / 2 * 2 ∨ j = j / 2 * 2 + 1) with e | e
  · rw [e] at hj ⊢
    rw [p1] at hj
    rw [← hj]; exact c1
  · rw [e] at hj ⊢
    rw [p2] at hj
    rw [← hj, show o + (j / 2 * 2 + 1) = o + j / 2 * 2 + 1 from by omega]; exact c2

theorem OwnP.blk {B : Nat} {w : World} {v : Value} {l : List (Int × Int)} (h : OwnP B w v l) : ∀ k, v.ownBlock = some k → B ≤ k := by
  obtain ⟨_, h2⟩ := h
  rcases h2 with ⟨rfl, _⟩ | ⟨g, cap, cur, rfl, hg, _⟩
  · intro k hk; cases hk
  · intro k hk; simp [Value.ownBlock] at hk; omega

theorem own_snoc {B : Nat} {w : World} {v : Value} {l : List (Int × Int)} {x y : Int} (h : w.ownsRow B 48 2 v (l.length + 1) (pcells l ++ pcells [(x, y)])) : OwnP B w v (l ++ [(x, y)]) := by
  unfold OwnP
  rw [pcells_append, List.length_append]
  exact h

theorem OwnP.below {B : Nat} {w w' : World} {v : Value} {l : List (Int × Int)} (h : OwnP B w v l) (hb : Below w.heap.size w w') : OwnP B w' v l := by
  obtain ⟨h1, h2⟩ := h
  refine ⟨h1, ?_⟩
  rcases h2 with h2 | ⟨g, cap, cur, e1, e2, e3, e4⟩
  · exact .inl h2
  · exact .inr ⟨g, cap, cur, e1, e2, by rw [hb.block g ((Array.getElem?_eq_some_iff.1 e3).1)]; exact e3, e4⟩
end Go.Proofs.YtamjmejkffhmeaaGreatDoor
