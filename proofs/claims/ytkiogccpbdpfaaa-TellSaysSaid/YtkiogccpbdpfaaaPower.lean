/-
  Contracts: tell.Power and the document's Power.
-/
import Derived.Test.YtkiogccpbdpfaaaRAdd
namespace Go.Proofs.Ytkiogccpbdpfaaa
open Go.RowKit

def PowerPost (w : World) (e : Ending) (w' : World) : Prop :=
  ∃ b : Bx, e = .returned (.agg b.cells) ∧ b.ok w' ∧ (b.s1.l = [4] ∧ b.s2.l = [4] ∧ b.s3.l = [4] ∧ b.s4.l = [4]) ∧ Below w.heap.size w w'

theorem ints_four {w : World} {b : Nat} {x : Int} {T : TypeId} (h : w.heap[b]? = some (.cells #[.int .i64 x] T (0, 0))) : Ints w.heap.size w (some ⟨b, 0, none⟩) [x] := by
  intro i hi
  obtain rfl : i = 0 := by simp at hi; omega
  exact ⟨b, 0, rfl, (Array.getElem?_eq_some_iff.1 h).1, by simp [World.cell?, h]⟩

theorem at_end (w : World) (o : Obj) {n : Nat} (h : n = w.heap.size) : (w.alloc o).heap[n]? = some o := by subst h; exact heap_alloc_new _ _
theorem at_old {w : World} (o : Obj) {n : Nat} {p : Obj} (h : w.heap[n]? = some p) : (w.alloc o).heap[n]? = some p := by
  rw [Below.heap_alloc _ _ _ (Array.getElem?_eq_some_iff.1 h).1]; exact h

theorem one_ok {w : World} {b : Nat} {x : Int} {T : TypeId} (h : w.heap[b]? = some (.cells #[.int .i64 x] T (0, 0))) : Sl.ok ⟨some ⟨b, 0, none⟩, [x], 1⟩ w := ⟨ints_four h, by simp, by simp⟩

set_option maxRecDepth 100000 in
set_option maxHeartbeats 4000000 in
theorem power_any (w : World) : Calls Try.prog 29 #[] w (PowerPost w) := by
  go_enter Try.func29, Try.ntmps29
  go_wp2
  refine wp_loop_rounds 5 ?_
  rw [rounds_succ]
  go_wp2
  rw [rounds_succ]
  go_wp2
  rw [rounds_succ]
  go_wp2
  rw [rounds_succ]
  go_wp2
  rw [rounds_succ]
  go_wp2
  refine bodyPost_ret (v := .agg #[.slice (some ⟨w.heap.size + 1 + 1, 0, none⟩) 1 1, .slice (some ⟨w.heap.size + 1 + 1 + 1, 0, none⟩) 1 1, .slice (some ⟨w.heap.size + 1 + 1 + 1 + 1, 0, none⟩) 1 1, .slice (some ⟨w.heap.size + 1 + 1 + 1 + 1 + 1, 0, none⟩) 1 1]) (by simp [results, Try.results29, go_sem]) rfl ?_
  refine ⟨⟨⟨_, [4], 1⟩, ⟨_, [4], 1⟩, ⟨_, [4], 1⟩, ⟨_, [4], 1⟩⟩, rfl, ⟨one_ok (T := 3) ?_, one_ok (T := 3) ?_, one_ok (T := 3) ?_, one_ok (T := 3) ?_⟩, ⟨rfl, rfl, rfl, rfl⟩, ?_⟩
  · exact at_old _ (at_old _ (at_old _ (at_end _ _ (by simp))))
  · exact at_old _ (at_old _ (at_end _ _ (by simp)))
  · exact at_old _ (at_end _ _ (by simp))
  · exact at_end _ _ (by simp)
  · exact ((((((Below.refl _ _).alloc (Nat.le_refl _) _).alloc (by simp) _).alloc (by simp; omega) _).alloc (by simp; omega) _).alloc (by simp; omega) _).alloc (by simp; omega) _

theorem set4 {cs : Array Value} (h : cs.size = 4) (a b c d : Value) : (((cs.setIfInBounds 0 a).setIfInBounds 1 b).setIfInBounds 2 c).setIfInBounds 3 d = #[a, b, c, d] := by
  obtain ⟨l⟩ := cs
  match l, h with
  | [_, _, _, _], _ => rfl

def RPowerPost (M : Nat) (w : World) (e : Ending) (w' : World) : Prop :=
  ∃ b : Bx, e = .returned (.tuple #[]) ∧ b.ok w' ∧ (b.s1.l = [4] ∧ b.s2.l = [4] ∧ b.s3.l = [4] ∧ b.s4.l = [4]) ∧ Apart b M ∧ w'.heap[M]? = some (.cells b.cells 41 (0, 0)) ∧ Keeps (· = M) w w'

theorem at_set {w : World} {M n o : Nat} {v : Value} {p : Obj} (h : w.heap[n]? = some p) (hn : n ≠ M) : (w.setCell ⟨M, o, none⟩ v).heap[n]? = some p := by
  rw [Below.heap_setCell _ _ _ _ hn]; exact h

set_option maxRecDepth 100000 in
set_option maxHeartbeats 4000000 in
theorem rpower_any (M : Nat) (cs : Array Value) (w : World) (hM : w.heap[M]? = some (.cells cs 41 (0, 0))) (hs : cs.size = 4) :
    Calls Try.prog 30 #[.pointer (some ⟨M, 0, none⟩)] w (RPowerPost M w) := by
  have hlt : M < w.heap.size := (Array.getElem?_eq_some_iff.1 hM).1
  have hM4 : ((((w.alloc (.cells #[.int .i64 4] 3)).alloc (.cells #[.int .i64 4] 3)).alloc (.cells #[.int .i64 4] 3)).alloc (.cells #[.int .i64 4] 3)).heap[M]? = some (.cells cs 41 (0, 0)) := at_old _ (at_old _ (at_old _ (at_old _ hM)))
  obtain ⟨d0, f0⟩ := cells_at hM4 (k := 0) (v := cs[0]) (by simp)
  obtain ⟨d1, f1⟩ := cells_at hM4 (k := 1) (v := cs[1]) (by simp)
  obtain ⟨d2, f2⟩ := cells_at hM4 (k := 2) (v := cs[2]) (by simp)
  obtain ⟨d3, f3⟩ := cells_at hM4 (k := 3) (v := cs[3]) (by simp)
  have HM := Lib.hid hM4
  clear hM hM4
  go_enter Try.func30, Try.ntmps30
  go_wp2
  go_end0
  refine ⟨⟨⟨some ⟨w.heap.size, 0, none⟩, [4], 1⟩, ⟨some ⟨w.heap.size + 1, 0, none⟩, [4], 1⟩, ⟨some ⟨w.heap.size + 1 + 1, 0, none⟩, [4], 1⟩, ⟨some ⟨w.heap.size + 1 + 1 + 1, 0, none⟩, [4], 1⟩⟩, rfl, ⟨one_ok (T := 3) ?_, one_ok (T := 3) ?_, one_ok (T := 3) ?_, one_ok (T := 3) ?_⟩, ⟨rfl, rfl, rfl, rfl⟩, ?_, ?_, ?_⟩
  · exact at_set (at_set (at_set (at_set (at_old _ (at_old _ (at_old _ (at_end _ _ rfl)))) (by omega)) (by omega)) (by omega)) (by omega)
  · exact at_set (at_set (at_set (at_set (at_old _ (at_old _ (at_end _ _ (by simp)))) (by omega)) (by omega)) (by omega)) (by omega)
  · exact at_set (at_set (at_set (at_set (at_old _ (at_end _ _ (by simp))) (by omega)) (by omega)) (by omega)) (by omega)
  · exact at_set (at_set (at_set (at_set (at_end _ _ (by simp)) (by omega)) (by omega)) (by omega)) (by omega)
  · rintro s (rfl | rfl | rfl | rfl) - x ⟨⟩ <;> simp <;> omega
  · have := block_setCell (o := 3) (block_setCell (o := 2) (block_setCell (o := 1) (block_setCell (o := 0) HM.out (.slice (some ⟨w.heap.size, 0, none⟩) 1 1)) (.slice (some ⟨w.heap.size + 1, 0, none⟩) 1 1)) (.slice (some ⟨w.heap.size + 1 + 1, 0, none⟩) 1 1)) (.slice (some ⟨w.heap.size + 1 + 1 + 1, 0, none⟩) 1 1)
    rw [set4 hs] at this
    exact this
  · have hk : Keeps (· = M) w ((((w.alloc (.cells #[.int .i64 4] 3)).alloc (.cells #[.int .i64 4] 3)).alloc (.cells #[.int .i64 4] 3)).alloc (.cells #[.int .i64 4] 3)) := ((((Keeps.refl _ _).alloc _).alloc _).alloc _).alloc _
    exact (((hk.setCell rfl _).setCell rfl _).setCell rfl _).setCell rfl _

/-- behind the document's Add, said of the whole box -/
def RAddB (b : Bx) (M : Nat) (who what : Int) (w : World) (e : Ending) (w' : World) : Prop :=
  ∃ s : Sl, e = .returned (.tuple #[]) ∧ s.ok w' ∧ s.l = addL (b.get who).l what ∧ w'.heap[M]? = some (.cells (b.set who s).cells 41 (0, 0)) ∧ Keeps (· = M) w w'

theorem radd_any (b : Bx) (M : Nat) (who what : Int) (w : World) (hr : b.ok w) (hM : w.heap[M]? = some (.cells b.cells 41 (0, 0))) (hw : 1 ≤ who ∧ who ≤ 4) :
    Calls Try.prog 32 #[.pointer (some ⟨M, 0, none⟩), .agg #[.int .i64 who, .int .i64 what]] w (RAddB b M who what w) := by
  have core : ∀ (k : Nat) (s : Sl) (hk : k < 4) (hs : b.cells[k]? = some s.v) (ho : s.ok w) (hg : s = b.get ((k : Int) + 1)) (hset : ∀ s' : Sl, b.cells.setIfInBounds k s'.v = (b.set ((k : Int) + 1) s').cells),
      Calls Try.prog 32 #[.pointer (some ⟨M, 0, none⟩), .agg #[.int .i64 ((k : Int) + 1), .int .i64 what]] w (RAddB b M ((k : Int) + 1) what w) := by
    intro k s hk hs ho hg hset
    obtain ⟨a, l, c⟩ := s
    have fin : Calls Try.prog 32 #[.pointer (some ⟨M, 0, none⟩), .agg #[.int .i64 ((k : Int) + 1), .int .i64 what]] w (RAddPost b.cells l M k what w) := by
      by_cases hl : l = []
      · subst hl
        exact radd_nil a c M k b.cells what w hM hk hs
      · exact radd_core l a c M k b.cells what w ho hM hk hs (far_of ho.ints hl hM)
    refine fin.mono ?_
    rintro e w' ⟨s', h1, h2, h3, _, h4, h5⟩
    exact ⟨s', h1, h2, by rw [← hg]; exact h3, by rw [← hset]; exact h4, h5⟩
  have h4 : who = 1 ∨ who = 2 ∨ who = 3 ∨ who = 4 := by omega
  rcases h4 with rfl | rfl | rfl | rfl
  · exact core 0 b.s1 (by omega) rfl hr.o1 rfl (fun _ => rfl)
  · exact core 1 b.s2 (by omega) rfl hr.o2 rfl (fun _ => rfl)
  · exact core 2 b.s3 (by omega) rfl hr.o3 rfl (fun _ => rfl)
  · exact core 3 b.s4 (by omega) rfl hr.o4 rfl (fun _ => rfl)
end Go.Proofs.Ytkiogccpbdpfaaa
