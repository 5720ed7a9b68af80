/-
  append of a list of pairs to nothing.
-/
import Derived.Test.YtkedmlkbepjnfaaGreatDoorOwnP
import Derived.Laws.AppendOwn
namespace Go.Proofs.YtkedmlkbepjnfaaGreatDoor
open Go.RowKit

theorem append_empty (a : Option Addr) (cap : Nat) (ty : TypeId) (w : World) :
    (Builtin.append_ #[35, 35] ty #[.slice none 0 0, .slice a 0 cap]).run Tryz.prog w = .ok (.slice none 0 0) w := by
  obtain ⟨i0, hi, hz0, hz1, hz2⟩ := info_parts Tryz.infoReg
  simp [Builtin.append_, run_underlying Tryz.underlying35, sizeOf, typeInfo, hi, Builtin.lenOf]
  cases a <;> simp [Builtin.firstCells, Result.andThen, loadCells, loadCellsFrom]
theorem append_pairs (l : List (Int × Int)) (a : Option Addr) (cap : Nat) (ty : TypeId) (w : World) (hl : l.length ≤ 1000) (hr : Pairs w.heap.size w a l) :
    ∃ v w', (Builtin.append_ #[35, 35] ty #[.slice none 0 0, .slice a l.length cap]).run Tryz.prog w = .ok v w' ∧ OwnP w.heap.size w' v l ∧ Below w.heap.size w w' := by
  by_cases h0 : l = []
  · subst h0
    exact ⟨_, _, append_empty a cap ty w, ⟨rfl, .inl ⟨rfl, rfl⟩⟩, Below.refl _ _⟩
  · obtain ⟨b, o, rfl, hb, -⟩ := hr 0 (List.length_pos_iff.2 h0)
    obtain ⟨i0, hi, hz0, hz1, hz2⟩ := info_parts Tryz.infoReg
    obtain ⟨v', w', hrun, r1, r2, _⟩ := run_append_own (P := Tryz.prog) w w.heap.size 35 ty 74 i0 _ 2 16 Tryz.underlying35 hi hz0 hz1 hz2 rfl (by omega) (.slice none 0 0) 0 [] (World.ownsRow_nil w _ _ _) ⟨b, o, none⟩ l.length cap (pcells l) (pcells_length l) (pairs_cells hr) (pcells_one l) (by unfold maxLen; omega) (by omega) (Nat.le_refl _)
    refine ⟨v', w', hrun, ?_, (Below.refl _ _).grown r2 (Nat.le_refl _) (fun q hq => by cases hq)⟩
    simpa [OwnP] using r1
end Go.Proofs.YtkedmlkbepjnfaaGreatDoor
