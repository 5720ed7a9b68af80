/-
  Contracts in the walks' spelling.
-/
import Derived.Test.YtclhmpknkinjcaaKnownPlain
import Derived.Test.YtclhmpknkinjcaaSameState
import Derived.Test.YtclhmpknkinjcaaWith
import Derived.Test.YtclhmpknkinjcaaSmall
import Derived.Deep.RegionHeld3
namespace Go.Proofs.Ytclhmpknkinjcaa
open Go.RowKit Go.Sort

theorem with_x (g : Int) (l : List (Int × Int)) (t h : Int) (st : Bool) (a : Option Addr) (cap : Nat) (who key : Int) (w : World) (hr : StR w ⟨g, l, t, h, st⟩ a) (hl : l.length ≤ 50) (hw : 0 ≤ who ∧ who ≤ 1000) (hb : ∀ r ∈ l, 0 ≤ r.1 ∧ r.1 ≤ 1000) (hs : l.Pairwise (fun a b => a.1 < b.1)) (L : List (Int × Int)) (hL : withL l who key = L) :
    Calls Try.prog 109 #[.agg #[.int .i64 g, .slice a l.length cap, .int .i64 t, .int .i64 h, .bool st], .int .i64 who, .int .i64 key] w fun e w' => ∃ a' cap', e = .returned (.agg #[.int .i64 g, .slice a' L.length cap', .int .i64 t, .int .i64 h, .bool st]) ∧ StR w' ⟨g, L, t, h, st⟩ a' ∧ Below w.heap.size w w' := by
  subst hL
  exact (with_any ⟨g, l, t, h, st⟩ a cap who key w hr hl hw hb hs).mono fun e w' ⟨a', cap', h1, h2, h3⟩ => ⟨a', cap', h1, h2, h3⟩
theorem key_x (g : Int) (l : List (Int × Int)) (t h : Int) (st : Bool) (a : Option Addr) (cap : Nat) (who v : Int) (w : World) (hr : StR w ⟨g, l, t, h, st⟩ a) (hv : keyOf l who = v) :
    Calls Try.prog 74 #[.agg #[.int .i64 g, .slice a l.length cap, .int .i64 t, .int .i64 h, .bool st], .int .i64 who] w fun e w' => e = .returned (.int .i64 v) ∧ Below w.heap.size w w' := by
  subst hv
  exact key_any ⟨g, l, t, h, st⟩ a cap who w hr
theorem same_x (g : Int) (l : List (Int × Int)) (t h : Int) (st : Bool) (a b : Option Addr) (c d : Nat) (w : World) (ha : StR w ⟨g, l, t, h, st⟩ a) (hb : StR w ⟨g, l, t, h, st⟩ b) :
    Calls Try.prog 61 #[.agg #[.int .i64 g, .slice a l.length c, .int .i64 t, .int .i64 h, .bool st], .agg #[.int .i64 g, .slice b l.length d, .int .i64 t, .int .i64 h, .bool st]] w fun e w' => e = .returned (.bool true) ∧ Below w.heap.size w w' :=
  samestate_true ⟨g, l, t, h, st⟩ a b c d w ha hb
theorem others_x (g : Int) (l : List (Int × Int)) (t h : Int) (st : Bool) (a : Option Addr) (cap : Nat) (who : Int) (w : World) (hr : StR w ⟨g, l, t, h, st⟩ a) (hl : l.length ≤ 100) (O : List Int) (hO : othersL who l = O) :
    Calls Try.prog 93 #[.agg #[.int .i64 g, .slice a l.length cap, .int .i64 t, .int .i64 h, .bool st], .int .i64 who] w fun e w' => ∃ a' c', e = .returned (.slice a' O.length c') ∧ Ints w'.heap.size w' a' O ∧ Below w.heap.size w w' := by
  subst hO
  refine (others_any ⟨g, l, t, h, st⟩ a cap who w hr hl).mono ?_
  rintro e w' ⟨v, rfl, hown, hb⟩
  obtain ⟨a', c', rfl, hi⟩ := hown.shape
  exact ⟨a', c', rfl, hi, hb⟩
theorem numbers_same (l : List Int) (a b : Option Addr) (c d : Nat) (w : World) (hl : l.length ≤ maxLen) (ha : Ints w.heap.size w a l) (hb : Ints w.heap.size w b l) :
    Calls Try.prog 36 #[.slice a l.length c, .slice b l.length d] w fun e w' => e = .returned (.bool true) ∧ Below w.heap.size w w' :=
  (samenumbers_any l l a b c d w hl hl ha hb).mono fun e w' ⟨h1, h2⟩ => ⟨by rw [h1]; simp, h2⟩
theorem state_bounds (s : St) (g : Good s) : (∀ r ∈ s.regs, 0 ≤ r.1 ∧ r.1 ≤ 1000) ∧ s.regs.Pairwise (fun a b => a.1 < b.1) := ⟨fun r hr => by have := g.bounds r hr; omega, g.sorted⟩
end Go.Proofs.Ytclhmpknkinjcaa
