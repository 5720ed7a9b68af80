/-
  What the walk of TopKeeper keeps: a keeper and two states at hand.
-/
import Derived.Test.YtkedmlkbepjnfaaGreatDoorKpKept
namespace Go.Proofs.YtkedmlkbepjnfaaGreatDoor
open Go.RowKit

def boxC (s : St) (x : Option Addr) (y : Nat) : Array Value := #[.int .i64 s.gen, .slice x s.regs.length y, .int .i64 s.typ, .int .i64 s.holder, .bool s.stays]
/-- the blocks of two variables -/
def AB (A B : Nat) : Nat → Prop := fun b => b = A ∨ b = B
structure TK (W : World) (A B D K : Nat) (k : Kp) (s s2 : St) (x x2 : Option Addr) (y y2 : Nat) (wx : World) : Prop where
  ki : KI 10 W (AB A B) D K k wx
  ba : wx.heap[A]? = some (.cells (boxC s x y) 37 (0, 0))
  bb : wx.heap[B]? = some (.cells (boxC s2 x2 y2) 37 (0, 0))
  ra : StR W s x
  rb : StR W s2 x2
  ne : A ≠ B
  la : W.heap.size ≤ A
  lb : W.heap.size ≤ B
def fiveS (wx : World) (T : Nat) (s : St) (x : Option Addr) (y : Nat) : World := five wx T (.int .i64 s.gen) (.slice x s.regs.length y) (.int .i64 s.typ) (.int .i64 s.holder) (.bool s.stays)
theorem five_keeps {X : Nat → Prop} (wx : World) {T : Nat} (hT : X T) (v0 v1 v2 v3 v4 : Value) : Keeps X wx (five wx T v0 v1 v2 v3 v4) :=
  Keeps.setCell (p := ⟨T, 4, none⟩) (Keeps.setCell (p := ⟨T, 3, none⟩) (Keeps.setCell (p := ⟨T, 2, none⟩) (Keeps.setCell (p := ⟨T, 1, none⟩) (Keeps.setCell (p := ⟨T, 0, none⟩) (Keeps.refl X wx) hT v0) hT v1) hT v2) hT v3) hT v4
theorem KI.weak {n : Nat} {w wx : World} {X X' : Nat → Prop} {D K : Nat} {k : Kp} (h : KI n w X D K k wx) (hX : ∀ b, X' b → X b) : KI n w X' D K k wx := by
  obtain ⟨S, a, cap, kr, lo, kb, bl, hx, ax⟩ := h
  exact ⟨S, a, cap, kr, lo, kb, bl, fun b hb => hx b (hX b hb), fun b o e hn hb => ax b o e hn (hX b hb)⟩
section
variable {W wx w' : World} {A B D K : Nat} {k : Kp} {s s2 : St} {x x2 : Option Addr} {y y2 : Nat}
theorem TK.below (h : TK W A B D K k s s2 x x2 y y2 wx) : Below W.heap.size W wx := h.ki.below
theorem TK.cellsA (h : TK W A B D K k s s2 x x2 y y2 wx) : (wx.cell? ⟨A, 0, none⟩ = some (.int .i64 s.gen) ∧ wx.cell? ⟨A, 1, none⟩ = some (.slice x s.regs.length y) ∧ wx.cell? ⟨A, 2, none⟩ = some (.int .i64 s.typ) ∧ wx.cell? ⟨A, 3, none⟩ = some (.int .i64 s.holder) ∧ wx.cell? ⟨A, 4, none⟩ = some (.bool s.stays)) ∧
    (wx.frozen? ⟨A, 0, none⟩ = false ∧ wx.frozen? ⟨A, 1, none⟩ = false ∧ wx.frozen? ⟨A, 2, none⟩ = false ∧ wx.frozen? ⟨A, 3, none⟩ = false ∧ wx.frozen? ⟨A, 4, none⟩ = false) := cells5 h.ba
theorem TK.cellsB (h : TK W A B D K k s s2 x x2 y y2 wx) : (wx.cell? ⟨B, 0, none⟩ = some (.int .i64 s2.gen) ∧ wx.cell? ⟨B, 1, none⟩ = some (.slice x2 s2.regs.length y2) ∧ wx.cell? ⟨B, 2, none⟩ = some (.int .i64 s2.typ) ∧ wx.cell? ⟨B, 3, none⟩ = some (.int .i64 s2.holder) ∧ wx.cell? ⟨B, 4, none⟩ = some (.bool s2.stays)) ∧
    (wx.frozen? ⟨B, 0, none⟩ = false ∧ wx.frozen? ⟨B, 1, none⟩ = false ∧ wx.frozen? ⟨B, 2, none⟩ = false ∧ wx.frozen? ⟨B, 3, none⟩ = false ∧ wx.frozen? ⟨B, 4, none⟩ = false) := cells5 h.bb
theorem TK.over (h : TK W A B D K k s s2 x x2 y y2 wx) (b : Below wx.heap.size wx w') : TK W A B D K k s s2 x x2 y y2 w' :=
  ⟨h.ki.over b, (b.block A (h.ki.lt A (.inl rfl))).trans h.ba, (b.block B (h.ki.lt B (.inr rfl))).trans h.bb, h.ra, h.rb, h.ne, h.la, h.lb⟩
theorem TK.next {K' : Nat} {k' : Kp} (h : TK W A B D K k s s2 x x2 y y2 wx) (ki : KI 10 W (AB A B) D K' k' w') (sm : Same (AB A B) wx w') : TK W A B D K' k' s s2 x x2 y y2 w' :=
  ⟨ki, (sm A (.inl rfl)).trans h.ba, (sm B (.inr rfl)).trans h.bb, h.ra, h.rb, h.ne, h.la, h.lb⟩
theorem TK.lo (h : TK W A B D K k s s2 x x2 y y2 wx) : ∀ b, AB A B b → W.heap.size ≤ b := fun b e => by
  rcases e with rfl | rfl
  · exact h.la
  · exact h.lb
theorem TK.setB (h : TK W A B D K k s s2 x x2 y y2 wx) {s3 : St} {x3 : Option Addr} (y3 : Nat) (hr : StR W s3 x3) : TK W A B D K k s s3 x x3 y y3 (fiveS wx B s3 x3 y3) :=
  ⟨h.ki.set (five_keeps wx (.inr rfl) _ _ _ _ _) h.lo, (five_ne h.ne _ _ _ _ _).trans h.ba, five_at h.bb _ _ _ _ _, h.ra, hr, h.ne, h.la, h.lb⟩
theorem TK.setA (h : TK W A B D K k s s2 x x2 y y2 wx) : TK W A B D K k s2 s2 x2 x2 y2 y2 (fiveS wx A s2 x2 y2) :=
  ⟨h.ki.set (five_keeps wx (.inl rfl) _ _ _ _ _) h.lo, five_at h.ba _ _ _ _ _, (five_ne (Ne.symm h.ne) _ _ _ _ _).trans h.bb, h.rb, h.rb, h.ne, h.la, h.lb⟩
end
/-- behind the acts -/
def TKEnd (W : World) (A B D K : Nat) (keep : Int) (e f : Value) (wx : World) : Prop :=
  ∃ (k : Kp) (s s2 : St) (x x2 : Option Addr) (y y2 : Nat) (ep ep2 num : Int), e = .int .i64 ep ∧ f = .int .i64 ep2 ∧ TK W A B D K k s s2 x x2 y y2 wx ∧ k.d.ok 10 ∧ Sz k.d ∧ k.d.wait.length ≤ 1000 ∧ 0 ≤ num ∧ num ≤ 1000 ∧
    (KD 10 (k.d.restart keep) num ep s ∨ KD 10 (k.d.restart keep) (num + 1) ep2 s2)
def s9 : St := ⟨9, [], 0, 0, false⟩
def s8 : St := ⟨8, [], 0, 0, false⟩
theorem fault9 : stateFault s9 = 0 := by decide
theorem fault8 : stateFault s8 = 0 := by decide
theorem str_nil (w : World) (g : Int) : StR w ⟨g, [], 0, 0, false⟩ none := ⟨by simp, Pairs.nil _ _ _⟩
end Go.Proofs.YtkedmlkbepjnfaaGreatDoor
