/-
  keeper.look at either place; what Open finds. (Open's walk follows.)
-/
import Derived.Test.YtkedmlkbepjnfaaGreatDoorKpSome
namespace Go.Proofs.YtkedmlkbepjnfaaGreatDoor
open Go.RowKit Go.Lib

/-- what look reads at a place -/
def Lk (d : Dk) (p : Nat) (m e : Int) (s : St) : Prop := Place d.now p m e s ∨ (d.now.getD (2 * p) ⟨#[]⟩ = full0 ∧ m = 0 ∧ e = 0 ∧ s = sNone)
theorem Lk.num {d : Dk} {p : Nat} {m e : Int} {s : St} (h : Lk d p m e s) : 0 ≤ m ∧ m ≤ 1000000000000000 := by
  rcases h with h | ⟨-, rfl, -⟩
  · exact ⟨h.k.n0, h.k.n1⟩
  · omega
theorem look_any (S : Nat → Prop) (w : World) (D n : Nat) (d : Dk) (p : Nat) (m e : Int) (s : St) (h : DkAt S w 65 78 D n d) (ok : d.ok n) (up : d.down = false) (sz : Sz d) (hp : 2 * p + 1 < n) (hl : Lk d p m e s) (t : Tabs w) :
    Calls Tryz.prog 28 #[.pointer (some ⟨D, 0, none⟩), .int .i64 (p : Int)] w fun x w' => LookPost m e s w x w' := by
  rcases hl with hl | ⟨h0, rfl, rfl, rfl⟩
  · exact look_some S w D n d p m e s h ok up sz hp hl t
  · refine (look_none S w D n d p h ok up sz hp h0 t).mono ?_
    rintro x w' ⟨rfl, hb⟩
    exact ⟨none, 0, rfl, ⟨by simp [sNone], Pairs.nil _ _ _⟩, hb, fun b o q => by cases q⟩
/-- the two places of a disk on which just this is kept: at one of them this, at the other less -/
theorem KD.looks {n : Nat} {d : Dk} {num ep : Int} {s : St} (h : KD n d num ep s) :
    ∃ m e s', Lk d (1 - par num) m e s' ∧ m < num := by
  rcases h.other with h0 | ⟨m, e, s', hlt, hp⟩
  · exact ⟨0, 0, sNone, .inr ⟨h0, rfl, rfl, rfl⟩, by have := h.p1; omega⟩
  · exact ⟨m, e, s', .inl hp, hlt⟩
theorem KD.two {n : Nat} {d : Dk} {num ep : Int} {s : St} (h : KD n d num ep s) :
    (∃ m e s', Lk d 0 num ep s ∧ Lk d 1 m e s' ∧ m < num) ∨ ∃ m e s', Lk d 0 m e s' ∧ Lk d 1 num ep s ∧ m < num := by
  obtain ⟨m, e, s', h1, h2⟩ := h.looks
  have h3 : Lk d (par num) num ep s := .inl h.place
  rcases (by have := par_lt num; omega : par num = 0 ∨ par num = 1) with hp | hp
  · rw [hp] at h1 h3
    exact .inl ⟨m, e, s', h3, h1, h2⟩
  · rw [hp] at h1 h3
    exact .inr ⟨m, e, s', h1, h3, h2⟩
end Go.Proofs.YtkedmlkbepjnfaaGreatDoor
