/-
  Contract: order.release.
-/
import Derived.Test.YtclhmpknkinjcaaOrdSteps
import Derived.Test.YtclhmpknkinjcaaKeeps
namespace Go.Proofs.Ytclhmpknkinjcaa
open Go.RowKit Go.Sort

def RelPost (s : St) (a : Option Addr) (cap : Nat) (r : St × List (Int × Int) × Int) (w : World) (e : Ending) (w' : World) : Prop :=
  ∃ v, e = .returned (.tuple #[stT s a cap r.1.typ r.1.holder, v, errV r.2.2]) ∧ OwnT w.heap.size w' v r.2.1 ∧ Below w.heap.size w w'
theorem RelPost.mk {s : St} {a : Option Addr} {cap : Nat} {r : St × List (Int × Int) × Int} {w w' : World} {e : Ending} {t : St} {l : List (Int × Int)} {f : Int} {v : Value} (hp : r = (t, l, f)) (he : e = .returned (.tuple #[stT s a cap t.typ t.holder, v, errV f])) (ho : OwnT w.heap.size w' v l) (hb : Below w.heap.size w w') : RelPost s a cap r w e w' := by
  subst hp; exact ⟨v, he, ho, hb⟩
theorem own_none (B : Nat) (w : World) : OwnT B w (.slice none 0 0) [] := ⟨rfl, .inl ⟨rfl, rfl⟩⟩

theorem OwnT.keeps {S : Nat → Prop} {B : Nat} {w w' : World} {v : Value} {l : List (Int × Int)} (h : OwnT B w v l) (k : Keeps S w w') (hS : ∀ k, S k → k < B) : OwnT B w' v l := by
  obtain ⟨h1, h2⟩ := h
  refine ⟨h1, ?_⟩
  rcases h2 with h2 | ⟨g, cap, cur, e1, e2, e3, e4⟩
  · exact .inl h2
  · refine .inr ⟨g, cap, cur, e1, e2, ?_, e4⟩
    rw [k.block g (fun e => by have := hS g e; omega) (Array.getElem?_eq_some_iff.1 e3).1]
    exact e3

theorem keep_rel {W : World} {b b' N : Nat} {v0 v1 v2 v3 v4 u : Value} {T : TypeId} {cs : Array Value} {T' : TypeId} (hb : b < N) (hb' : b' < N) (h : W.heap[b]? = some (.cells #[v0, v1, v2, v3, v4] T (0, 0))) (h' : W.heap[b']? = some (.cells cs T' (0, 0))) (hu : cs[1]? = some u) :
    ∀ w', Below N W w' → Below N W w' ∧ w'.cell? ⟨b, 0, none⟩ = some v0 ∧ w'.cell? ⟨b, 1, none⟩ = some v1 ∧ w'.cell? ⟨b, 2, none⟩ = some v2 ∧ w'.cell? ⟨b, 3, none⟩ = some v3 ∧ w'.cell? ⟨b, 4, none⟩ = some v4 ∧ w'.cell? ⟨b', 1, none⟩ = some u := by
  intro w' hw
  obtain ⟨⟨d0, d1, d2, d3, d4⟩, -⟩ := box5 hw hb h
  refine ⟨hw, d0, d1, d2, d3, d4, ?_⟩
  have := (hw.block b' hb').trans h'
  simp [World.cell?, this, hu]

set_option maxRecDepth 100000 in
set_option maxHeartbeats 4000000 in
theorem release_any (s : St) (a : Option Addr) (cap : Nat) (c : Cmd) (w : World) (hr : StR w s a) (hl : s.regs.length ≤ 50) :
    Calls Try.prog 91 #[stV s a cap, cmdV c] w (RelPost s a cap (prelease s c) w) := by
  have hr3 : ∀ o p q, StR (((w.alloc o).alloc p).alloc q) s a := fun o p q => ((hr.below (bal w o)).below (bal _ p)).below (bal _ q)
  have HR := Lib.hid hr3
  have HR0 := Lib.hid hr
  clear hr3 hr
  cases hh : holds s c.who
  · have P1 := Lib.hid (show prelease s c = (s, [], 0) from by unfold prelease; rw [if_pos hh])
    go_enter Try.func91, Try.ntmps91
    go_wp2_with fail
    refine (holds_any s a cap c.who _ (HR.out _ _ _)).mono ?_
    rintro e w1 ⟨rfl, b1⟩
    rw [hh]
    clear hh
    obtain ⟨hcc, hf⟩ := bcell b1
    go_wp2
    refine bodyPost_ret (v := .tuple #[.agg #[.int .i64 s.gen, .slice a s.regs.length cap, .int .i64 s.typ, .int .i64 s.holder, .bool s.stays], .slice none 0 0, .nilIface]) (by simp [results, Try.results91, go_sem, *]) rfl ?_
    refine RelPost.mk P1.out rfl (own_none _ _) ?_
    repeat (first | with_reducible refine Below.setCell ?_ (by simp <;> omega) _ | exact (bal3' w _ _ _).trans (b1.mono (by simp; omega)))
  by_cases ht : s.typ = c.typ
  · have htb : (s.typ != c.typ) = false := by simp [ht]
    by_cases h5 : 5 ≤ s.typ
    · have P1 := Lib.hid (show prelease s c = (s.free, toldL (othersL c.who s.regs) 2, 0) from by unfold prelease; rw [if_neg (by rw [hh]; simp), if_neg (by simpa using ht), if_pos h5])
      clear ht
      go_enter Try.func91, Try.ntmps91
      go_wp2_with fail
      refine (holds_any s a cap c.who _ (HR.out _ _ _)).mono ?_
      rintro e w1 ⟨rfl, b1⟩
      rw [hh]
      clear hh
      have hr1 : StR w1 s a := (HR.out _ _ _).below b1
      have hN : w.heap.size + 1 + 1 < w1.heap.size := by have := b1.size; simp at this; omega
      have HR1 := Lib.hid hr1
      have KEEP := Lib.hid (keep_rel (W := w1) (b := w.heap.size) (b' := w.heap.size + 1) (N := w.heap.size + 1 + 1) (by omega) (by omega) ((b1.block _ (by simp <;> omega)).trans (heap3 w _ _ _).1) ((b1.block _ (by simp <;> omega)).trans (heap3 w _ _ _).2.1) rfl)
      obtain ⟨⟨d0, d1, d2, d3, d4⟩, f0, f1, f2, f3, f4⟩ := box5 b1 (b := w.heap.size) (by simp; omega) (heap3 w _ _ _).1
      obtain ⟨⟨e0, e1, e2, e3, e4⟩, g0, g1, g2, g3, g4⟩ := box5 b1 (b := w.heap.size + 1 + 1) (by simp) (heap3 w _ _ _).2.2
      have u4 : w1.cell? ⟨w.heap.size + 1, 4, none⟩ = some (.int .i64 c.typ) := by
        have := (b1.block (w.heap.size + 1) (by simp <;> omega)).trans (heap3 w _ _ _).2.1
        simp [World.cell?, this]
      have u1 : w1.cell? ⟨w.heap.size + 1, 1, none⟩ = some (.int .i64 c.who) := by
        have := (b1.block (w.heap.size + 1) (by simp <;> omega)).trans (heap3 w _ _ _).2.1
        simp [World.cell?, this]
      have OT := Lib.hid (fun (w' : World) (hw : StR w' s a) => others_x s.gen s.regs s.typ s.holder s.stays a cap c.who w' hw (by omega) _ rfl)
      have ol : (othersL c.who s.regs).length ≤ 50 := by have := others_len c.who s.regs s.regs.length; rw [List.take_length] at this; omega
      have B1 := Lib.hid ((bal3' w _ _ _).trans (b1.mono (bal3' w _ _ _).size))
      have HE := Lib.hid ((b1.block (w.heap.size + 1 + 1) (by simp)).trans (heap3 w _ _ _).2.2)
      clear hr1 b1
      have HRN := Lib.hid (fun (w' : World) (hb : Below (w.heap.size + 1 + 1) w1 w') => HR0.out.below (B1.out.trans (hb.mono (by omega))))
      go_wp2
      go_region_held3 (fun w' => Below (w.heap.size + 1 + 1) w1 w' ∧ w'.cell? ⟨w.heap.size, 0, none⟩ = some (.int .i64 s.gen) ∧ w'.cell? ⟨w.heap.size, 1, none⟩ = some (.slice a s.regs.length cap) ∧ w'.cell? ⟨w.heap.size, 2, none⟩ = some (.int .i64 s.typ) ∧ w'.cell? ⟨w.heap.size, 3, none⟩ = some (.int .i64 s.holder) ∧ w'.cell? ⟨w.heap.size, 4, none⟩ = some (.bool s.stays) ∧ w'.cell? ⟨w.heap.size + 1, 1, none⟩ = some (.int .i64 c.who))
        ((refine KEEP.out _ ?_; repeat (first | with_reducible exact And.left (by with_reducible assumption) | exact (Below.refl _ _).drew | (with_reducible refine Below.setCell ?_ (by simp <;> omega) _) | exact Below.trans (And.left (by assumption)) (Below.mono (by assumption) (Nat.le_trans (Nat.le_of_lt hN) (Below.size (And.left (by assumption))))))))
        (first
          | (go_at_call 94; (with_reducible refine (free_any s.gen s.regs s.typ s.holder s.stays a cap _).mono ?_); rintro e w2 ⟨rfl, hb2⟩)
          | (go_at_call 93; (with_reducible refine (OT.out _ (HRN.out _ (And.left (by assumption)))).mono ?_); rintro e w3 ⟨a3, c3, rfl, hi3, hb3⟩)
          | (go_at_call 92; (with_reducible refine (told_any _ a3 c3 2 _ (Nat.le_trans ol (by omega)) hi3).mono ?_); rintro e w4 ⟨v4, rfl, ho4, hb4⟩; have H14 : Below w1.heap.size w1 w4 := (((Below.refl w1.heap.size w1).drew.trans hb2).trans (hb3.mono hb2.size)).trans (hb4.mono (Nat.le_trans hb2.size hb3.size)); obtain ⟨⟨p0, p1, p2, p3, p4⟩, q0, q1, q2, q3, q4⟩ := box5 H14 (b := w.heap.size + 1 + 1) hN HE.out))
      go_wp2
      refine bodyPost_ret (v := .tuple #[.agg #[.int .i64 s.gen, .slice a s.regs.length cap, .int .i64 0, .int .i64 0, .bool s.stays], v4, .nilIface]) (by simp [results, Try.results91, go_sem, *]) rfl ?_
      have z2 : w.heap.size + 1 + 1 < w3.heap.size := Nat.lt_of_lt_of_le hN (Nat.le_trans hb2.size hb3.size)
      have kp : ∀ w', Keeps (· = w.heap.size + 1 + 1) w4 w' → RelPost s a cap (prelease s c) w (.returned (.tuple #[.agg #[.int .i64 s.gen, .slice a s.regs.length cap, .int .i64 0, .int .i64 0, .bool s.stays], v4, .nilIface])) w' := by
        intro w' k
        have hb := B1.out.trans (H14.mono B1.out.size)
        exact RelPost.mk P1.out rfl ((ho4.keeps k (fun m hm => by omega)).mono (Nat.le_trans B1.out.size (Nat.le_trans hb2.size hb3.size))) (hb.trans (k.below hb.size (fun m hm => by omega)))
      refine kp _ ?_
      exact Keeps.setCell (S := (· = w.heap.size + 1 + 1)) (Keeps.setCell (S := (· = w.heap.size + 1 + 1)) (Keeps.setCell (S := (· = w.heap.size + 1 + 1)) (Keeps.setCell (S := (· = w.heap.size + 1 + 1)) (Keeps.setCell (S := (· = w.heap.size + 1 + 1)) (Keeps.refl _ _) rfl _) rfl _) rfl _) rfl _) rfl _
    · have P1 := Lib.hid (show prelease s c = (s.free, [], 0) from by unfold prelease; rw [if_neg (by rw [hh]; simp), if_neg (by simpa using ht), if_neg h5])
      clear ht
      go_enter Try.func91, Try.ntmps91
      go_wp2_with fail
      refine (holds_any s a cap c.who _ (HR.out _ _ _)).mono ?_
      rintro e w1 ⟨rfl, b1⟩
      rw [hh]
      clear hh
      obtain ⟨hcc, hf⟩ := bcell b1
      have hN : w.heap.size + 1 + 1 < w1.heap.size := by have := b1.size; simp at this; omega
      have HE := Lib.hid ((b1.block (w.heap.size + 1 + 1) (by simp)).trans (heap3 w _ _ _).2.2)
      have B1 := Lib.hid ((bal3' w _ _ _).trans (b1.mono (bal3' w _ _ _).size))
      go_wp2_with fail
      refine (free_any s.gen s.regs s.typ s.holder s.stays a cap _).mono ?_
      rintro e w2 ⟨rfl, hb2⟩
      obtain ⟨⟨p0, p1, p2, p3, p4⟩, q0, q1, q2, q3, q4⟩ := box5 hb2 (b := w.heap.size + 1 + 1) hN HE.out
      go_wp2
      refine bodyPost_ret (v := .tuple #[.agg #[.int .i64 s.gen, .slice a s.regs.length cap, .int .i64 0, .int .i64 0, .bool s.stays], .slice none 0 0, .nilIface]) (by simp [results, Try.results91, go_sem, *]) rfl ?_
      refine RelPost.mk P1.out rfl (own_none _ _) ?_
      repeat (first | with_reducible refine Below.setCell ?_ (by simp <;> omega) _ | exact B1.out.trans (hb2.mono B1.out.size))
  · have htb : (s.typ != c.typ) = true := by simp [ht]
    have P1 := Lib.hid (show prelease s c = (s, [], 5) from by unfold prelease; rw [if_neg (by rw [hh]; simp), if_pos ht])
    clear ht
    go_enter Try.func91, Try.ntmps91
    go_wp2_with fail
    refine (holds_any s a cap c.who _ (HR.out _ _ _)).mono ?_
    rintro e w1 ⟨rfl, b1⟩
    rw [hh]
    clear hh
    obtain ⟨hcc, hf⟩ := bcell b1
    go_wp2
    refine bodyPost_ret (v := .tuple #[.agg #[.int .i64 s.gen, .slice a s.regs.length cap, .int .i64 s.typ, .int .i64 s.holder, .bool s.stays], .slice none 0 0, .iface 138 (.int .i64 5)]) (by simp [results, Try.results91, go_sem, *]) rfl ?_
    refine RelPost.mk P1.out rfl (own_none _ _) ?_
    repeat (first | with_reducible refine Below.setCell ?_ (by simp <;> omega) _ | exact (bal3' w _ _ _).trans (b1.mono (by simp; omega)))
end Go.Proofs.Ytclhmpknkinjcaa
