/-
  Boxes of what is to be told: small laws.
-/
import Derived.Test.YtclhmpknkinjcaaAdd
import Derived.Test.YtclhmpknkinjcaaQNum
import Derived.Test.YtclhmpknkinjcaaWorlds
import Derived.StillTailTactics
namespace Go.Proofs.Ytclhmpknkinjcaa
open Go.RowKit

def Upd (p p' : Bx) (u : Int) (l : List Int) : Prop := ∀ j, 1 ≤ j → j ≤ 4 → (p'.get j).l = if j = u then l else (p.get j).l
theorem upd_set (p : Bx) (u : Int) (s : Sl) (hu : 1 ≤ u ∧ u ≤ 4) : Upd p (p.set u s) u s.l := by
  intro j h1 h2
  rw [Bx.get_set p u j s hu ⟨h1, h2⟩]
  split <;> rfl

theorem take_ts (p : Bx) (u : Int) (w : World) (hr : p.ok w) (hu : 1 ≤ u ∧ u ≤ 4) :
    Calls Try.prog 67 #[.agg #[p.s1.v, p.s2.v, p.s3.v, p.s4.v], .int .i64 u] w fun e w' => ∃ p' : Bx, e = .returned (.tuple #[.agg #[.slice p'.s1.a p'.s1.l.length p'.s1.c, .slice p'.s2.a p'.s2.l.length p'.s2.c, .slice p'.s3.a p'.s3.l.length p'.s3.c, .slice p'.s4.a p'.s4.l.length p'.s4.c], .int .i64 (takeN (p.get u).l)]) ∧ p'.ok w' ∧ Upd p p' u (p.get u).l.tail ∧ Below w.heap.size w w' := by
  refine (take_any p u w hr hu).mono ?_
  rintro e w' ⟨s, h1, h2, h3, h4⟩
  exact ⟨p.set u s, h1, (hr.below h4).set u h2, h3 ▸ upd_set p u s hu, h4⟩
theorem zero_ok (w : World) : Bx.ok ⟨⟨none, [], 0⟩, ⟨none, [], 0⟩, ⟨none, [], 0⟩, ⟨none, [], 0⟩⟩ w := ⟨⟨Ints.nil _ _ _, by simp, by simp⟩, ⟨Ints.nil _ _ _, by simp, by simp⟩, ⟨Ints.nil _ _ _, by simp, by simp⟩, ⟨Ints.nil _ _ _, by simp, by simp⟩⟩

theorem Bx.cells_get (b : Bx) (k : Nat) (hk : k < 4) : b.cells[k]? = some (b.get ((k : Int) + 1)).v := by
  match k, hk with
  | 0, _ => rfl
  | 1, _ => rfl
  | 2, _ => rfl
  | 3, _ => rfl
theorem Bx.ok.get {b : Bx} {w : World} (h : b.ok w) (j : Int) : (b.get j).ok w := by
  unfold Bx.get
  split
  · exact h.o1
  split
  · exact h.o2
  split
  · exact h.o3
  · exact h.o4

theorem sn_quiet (s s' : Sl) (w : World) (n : Nat) (hs : s.ok w) (hs' : s'.ok w) (h : s.l = s'.l) :
    Calls Try.prog 36 #[.slice s.a s.l.length s.c, .slice s'.a s'.l.length s'.c] (w.drewN n) fun e w' => e = .returned (.bool true) ∧ ∃ m, w' = w.drewN m :=
  Calls.quiet_of ((samenumbers_quiet s.l s'.l s.a s'.a s.c s'.c (w.drewN n) (Nat.le_trans hs.len (by unfold maxLen; omega)) (Nat.le_trans hs'.len (by unfold maxLen; omega)) hs.ints hs'.ints).mono fun e w' ⟨h1, h2⟩ => ⟨by rw [h1]; simp [h], h2⟩)

theorem region_tail {P : Program} {id : Nat} {Q : Exit → Act → World → Prop} {a : Act} {w : World} {l : List Oper} (n : Nat) (hm : P.follows .mixedOrders = true) (hB : Region.lexTailB .any l.toArray n = true)
    (h : ∀ wd, Below w.heap.size w wd → wd.heap = w.heap → wpStill P l.toArray wd (fun a' => wpList P l.toArray Q (l.drop n) a' wd) (l.take n) a) : (Code.region id l.toArray true).wp P Q a w :=
  wp_region_still_tail n hm hB (h w.drew (Below.refl _ _).drew rfl)

end Go.Proofs.Ytclhmpknkinjcaa
