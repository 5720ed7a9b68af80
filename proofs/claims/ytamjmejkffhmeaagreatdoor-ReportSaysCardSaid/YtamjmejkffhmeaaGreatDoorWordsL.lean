/-
  How long the words of a text are. (No program in sight.)
-/
import Derived.Test.YtamjmejkffhmeaaGreatDoorText
namespace Go.Proofs.YtamjmejkffhmeaaGreatDoor
open Go.Lib

theorem splitK_short (c : UInt8) : ∀ (n : Nat) (l : Bs), ∀ x ∈ splitK [c] 0 n l, x.length ≤ l.length
  | 0, l => fun x hx => by simp [splitK] at hx; subst hx; exact Nat.le_refl _
  | n + 1, l => fun x hx => by
    unfold splitK at hx
    split at hx
    · simp at hx; subst hx; exact Nat.le_refl _
    · rcases List.mem_cons.1 hx with rfl | hx
      · simp; omega
      · have := splitK_short c n _ x hx
        simp at this
        omega
theorem cut_short (l : Bs) (c : Bs) : (Lib.cut l c).1.length ≤ l.length ∧ (Lib.cut l c).2.1.length ≤ l.length := by
  unfold Lib.cut
  split
  · simp; omega
  · simp
theorem bsB_list (l : Bs) : (bsB l).data.toList = l := by simp [bsB]
theorem list_bsB (s : ByteArray) : bsB s.data.toList = s := by simp [bsB]
end Go.Proofs.YtamjmejkffhmeaaGreatDoor
