/-
  Contract: report.number.
-/
import Derived.Test.YtamjmejkffhmeaaGreatDoorTabs
namespace Go.Proofs.YtamjmejkffhmeaaGreatDoor
open Go.RowKit Go.Lib

theorem numP_ok {l : Bs} {v : Int} (h : atoiAll l = .ok v) : numP l = v := by unfold numP; rw [h]
theorem numP_bad {l : Bs} (h : ∀ v, atoiAll l ≠ .ok v) : numP l = -1 := by
  unfold numP
  split
  · rename_i v e; exact absurd e (h v)
  · rfl
set_option maxRecDepth 100000 in
theorem number_any (s : ByteArray) (w : World) (t : Tabs w) (hs : s.size ≤ 281474976710656) :
    Calls Tryz.prog 17 #[.string s] w fun e w' => e = .returned (.int .i64 (numP s.data.toList)) ∧ Below w.heap.size w w' := by
  go_enter Tryz.func17, Tryz.ntmps17
  go_wp2_with fail
  refine (atoi_any s _ t hs).mono ?_
  rintro e w1 (⟨v, hv, rfl, hb⟩ | ⟨hv, x, T, p, rfl, hb⟩)
  · go_wp2
    go_ret
    exact ⟨ret_int (numP_ok hv).symm, hb⟩
  · go_wp2
    go_ret
    exact ⟨ret_int (numP_bad hv).symm, hb⟩
end Go.Proofs.YtamjmejkffhmeaaGreatDoor
