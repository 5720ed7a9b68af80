/-
  Contracts: hold.Others and the document's Others.
-/
import Derived.Test.YtamjmejkffhmeaaGreatDoorSame
import Derived.Test.YtamjmejkffhmeaaGreatDoorDelPlain
namespace Go.Proofs.YtamjmejkffhmeaaGreatDoor
open Go.RowKit

/-- a slice value that owns a list of integers, in blocks from B on -/
def OwnI (B : Nat) (w : World) (v : Value) (l : List Int) : Prop := w.ownsRow B 3 1 v l.length (l.map (Value.int .i64))

theorem Tryz.infoInt : (Tryz.prog.info? 3).map (fun i => (i.zero, i.size, i.bytes)) = some (some (.int .i64 0), 1, 8) := by kernel_rfl

theorem OwnI.shape {B : Nat} {w : World} {v : Value} {l : List Int} (h : OwnI B w v l) : ∃ a cap, v = .slice a l.length cap ∧ Ints w.heap.size w a l := by
  obtain ⟨h1, h2⟩ := h
  rcases h2 with ⟨rfl, hn⟩ | ⟨g, cap, cur, rfl, hg, hh, hc, hm, hs, ht⟩
  · have : l = [] := List.length_eq_zero_iff.1 hn
    subst this
    exact ⟨none, 0, rfl, Ints.nil _ _ _⟩
  · refine ⟨_, cap, rfl, fun i hi => ?_⟩
    have hlt : g < w.heap.size := (Array.getElem?_eq_some_iff.1 hh).1
    refine ⟨g, 0, rfl, hlt, ?_⟩
    have hcell : w.cell? ⟨g, 0 + i, none⟩ = (l.map (Value.int .i64))[i]? := by
      rw [← ht, List.getElem?_take_of_lt (by omega)]
      simp [World.cell?, hh]
    rw [hcell]; simp [hi]

theorem OwnI.mono {B C : Nat} {w : World} {v : Value} {l : List Int} (h : OwnI C w v l) (hB : B ≤ C) : OwnI B w v l := by
  obtain ⟨h1, h2⟩ := h
  refine ⟨h1, ?_⟩
  rcases h2 with h2 | ⟨g, cap, cur, e1, e2, e3⟩
  · exact .inl h2
  · exact .inr ⟨g, cap, cur, e1, by omega, e3⟩

theorem OwnI.blk {B : Nat} {w : World} {v : Value} {l : List Int} (h : OwnI B w v l) : ∀ k, v.ownBlock = some k → B ≤ k := by
  obtain ⟨_, h2⟩ := h
  rcases h2 with ⟨rfl, _⟩ | ⟨g, cap, cur, rfl, hg, _⟩
  · intro k hk; cases hk
  · intro k hk; simp [Value.ownBlock] at hk; omega

theorem OwnI.below {B : Nat} {w w' : World} {v : Value} {l : List Int} (h : OwnI B w v l) (hb : Below w.heap.size w w') : OwnI B w' v l := by
  obtain ⟨h1, h2⟩ := h
  refine ⟨h1, ?_⟩
  rcases h2 with h2 | ⟨g, cap, cur, e1, e2, e3, e4⟩
  · exact .inl h2
  · exact .inr ⟨g, cap, cur, e1, e2, by rw [hb.block g ((Array.getElem?_eq_some_iff.1 e3).1)]; exact e3, e4⟩

def othersL (who : Int) (l : List (Int × Int)) : List Int := (without who l).map (·.1)

theorem others_hit (who : Int) (l : List (Int × Int)) (k : Nat) (h : k < l.length) (e : l[k].1 = who) : othersL who (l.take (k + 1)) = othersL who (l.take k) := by
  unfold othersL; rw [without_snoc_hit who l k h e]
theorem others_miss (who : Int) (l : List (Int × Int)) (k : Nat) (h : k < l.length) (e : l[k].1 ≠ who) : othersL who (l.take (k + 1)) = othersL who (l.take k) ++ [l[k].1] := by
  unfold othersL; rw [without_snoc_miss who l k h e]; simp
theorem others_len (who : Int) (l : List (Int × Int)) (k : Nat) : (othersL who (l.take k)).length ≤ k := by
  unfold othersL without
  rw [List.length_map]
  exact Nat.le_trans (List.length_filter_le _ _) (by simp; omega)

end Go.Proofs.YtamjmejkffhmeaaGreatDoor
