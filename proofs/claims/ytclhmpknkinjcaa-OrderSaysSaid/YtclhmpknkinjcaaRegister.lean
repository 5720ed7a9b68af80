/-
  Contract: order.register.
-/
import Derived.Test.YtclhmpknkinjcaaRelease
namespace Go.Proofs.Ytclhmpknkinjcaa
open Go.RowKit Go.Sort

/-- what a step of order leaves: a state, in memory, and what is told -/
def StepPost (r : St × List (Int × Int)) (w : World) (e : Ending) (w' : World) : Prop :=
  ∃ a cap v, e = .returned (.tuple #[.agg #[.int .i64 r.1.gen, .slice a r.1.regs.length cap, .int .i64 r.1.typ, .int .i64 r.1.holder, .bool r.1.stays], v]) ∧ StR w' r.1 a ∧ (∀ b o, a = some ⟨b, o, none⟩ → w.heap.size ≤ b) ∧ OwnT w.heap.size w' v r.2 ∧ Below w.heap.size w w'
theorem StepPost.mk {r : St × List (Int × Int)} {w w' : World} {e : Ending} {t : St} {l : List (Int × Int)} {a : Option Addr} {cap : Nat} {v : Value} (hp : r = (t, l)) (he : e = .returned (.tuple #[.agg #[.int .i64 t.gen, .slice a t.regs.length cap, .int .i64 t.typ, .int .i64 t.holder, .bool t.stays], v])) (hs : StR w' t a) (lo : ∀ b o, a = some ⟨b, o, none⟩ → w.heap.size ≤ b) (ho : OwnT w.heap.size w' v l) (hb : Below w.heap.size w w') : StepPost r w e w' := by
  subst hp; exact ⟨a, cap, v, he, hs, lo, ho, hb⟩

theorem with_xlo (g : Int) (l : List (Int × Int)) (t h : Int) (st : Bool) (a : Option Addr) (cap : Nat) (who key : Int) (w : World) (hr : StR w ⟨g, l, t, h, st⟩ a) (hl : l.length ≤ 50) (hw : 0 ≤ who ∧ who ≤ 1000) (hb : ∀ r ∈ l, 0 ≤ r.1 ∧ r.1 ≤ 1000) (hs : l.Pairwise (fun a b => a.1 < b.1)) (L : List (Int × Int)) (hL : withL l who key = L) :
    Calls Try.prog 109 #[.agg #[.int .i64 g, .slice a l.length cap, .int .i64 t, .int .i64 h, .bool st], .int .i64 who, .int .i64 key] w fun e w' => ∃ a' cap', e = .returned (.agg #[.int .i64 g, .slice a' L.length cap', .int .i64 t, .int .i64 h, .bool st]) ∧ StR w' ⟨g, L, t, h, st⟩ a' ∧ (∀ b o, a' = some ⟨b, o, none⟩ → w.heap.size ≤ b) ∧ Below w.heap.size w w' := by
  subst hL
  exact (with_lo ⟨g, l, t, h, st⟩ a cap who key w hr hl hw hb hs).mono fun e w' ⟨a', cap', h1, h2, h3, h4⟩ => ⟨a', cap', h1, h2, h4, h3⟩
theorem str_keeps {S : Nat → Prop} {w w' : World} {s : St} {a : Option Addr} {B : Nat} (h : StR w s a) (lo : ∀ b o, a = some ⟨b, o, none⟩ → B ≤ b) (k : Keeps S w w') (hS : ∀ m, S m → m < B) : StR w' s a := by
  refine ⟨h.len, fun i hi => ?_⟩
  obtain ⟨b, o, e, hb, c1, c2⟩ := h.rep i hi
  have hB := lo b o e
  have hn : ¬ S b := fun x => by have := hS b x; omega
  exact ⟨b, o, e, Nat.lt_of_lt_of_le hb k.size, by rw [k.cell hn hb]; exact c1, by rw [k.cell hn hb]; exact c2⟩
theorem str_any {w : World} {s : St} {a : Option Addr} (h : StR w s a) (t : St) (e : t.regs = s.regs) : StR w t a := ⟨by rw [e]; exact h.len, by rw [e]; exact h.rep⟩

theorem keeps_set {N : Nat} {a w : World} (h : Keeps (· = N) a w) (o : Nat) (u : Value) : Keeps (· = N) a (w.setCell ⟨N, o, none⟩ u) := Keeps.setCell (S := (· = N)) h rfl u
theorem keep_reg {w7 : World} {o : Obj} {b' N : Nat} {v0 v1 v2 v3 v4 u : Value} {T : TypeId} (ho : o = .cells #[v0, v1, v2, v3, v4] T (0, 0)) (hN : N < w7.heap.size) (hb : b' ≠ N) (hb' : b' < w7.heap.size) (hu : w7.cell? ⟨b', 1, none⟩ = some u) :
    ∀ w', Keeps (· = N) (w7.alloc o) w' → Keeps (· = N) (w7.alloc o) w' ∧ w'.cell? ⟨w7.heap.size, 0, none⟩ = some v0 ∧ w'.cell? ⟨w7.heap.size, 1, none⟩ = some v1 ∧ w'.cell? ⟨w7.heap.size, 2, none⟩ = some v2 ∧ w'.cell? ⟨w7.heap.size, 3, none⟩ = some v3 ∧ w'.cell? ⟨w7.heap.size, 4, none⟩ = some v4 ∧ w'.cell? ⟨b', 1, none⟩ = some u := by
  subst ho
  intro w' k
  have hX : w'.heap[w7.heap.size]? = some (.cells #[v0, v1, v2, v3, v4] T (0, 0)) := (k.block _ (by omega) (by simp)).trans (heap_alloc_new _ _)
  obtain ⟨⟨d0, d1, d2, d3, d4⟩, -⟩ := box5 (Below.refl (w7.heap.size + 1) w') (by omega) hX
  refine ⟨k, d0, d1, d2, d3, d4, ?_⟩
  rw [k.cell hb (by simp; omega), (bal w7 _).cell (p := ⟨b', 1, none⟩) hb']
  exact hu

/-- the end of each way: the answer laid in the result's block -/
theorem reg_fin (s : St) (a7 : Option Addr) (c7 : Nat) (c : Cmd) (w w7 : World) (L : List (Int × Int)) (B7 : Below w.heap.size w w7) (hs7 : StR w7 ⟨s.gen, L, s.typ, s.holder, s.stays⟩ a7) {n1 : Nat} (lo7 : ∀ b o, a7 = some ⟨b, o, none⟩ → n1 ≤ b) (z1 : w.heap.size + 1 + 1 < n1) :
    ∀ (t h : Int) (l : List (Int × Int)) (v : Value), pregister s c = (⟨s.gen, L, t, h, c.stays⟩, l) → OwnT w.heap.size w7 v l → ∀ w', Keeps (· = w.heap.size + 1 + 1) w7 w' → (v = .slice none 0 0) →
      StepPost (pregister s c) w (.returned (.tuple #[.agg #[.int .i64 s.gen, .slice a7 L.length c7, .int .i64 t, .int .i64 h, .bool c.stays], v])) w' := by
  intro t h l v hp ho w' k hv
  subst hv
  have hl : l = [] := by
    have := ho.2
    rcases this with ⟨_, h⟩ | ⟨_, _, _, e, _⟩
    · exact List.length_eq_zero_iff.1 h
    · cases e
  subst hl
  exact StepPost.mk (a := a7) (cap := c7) hp rfl (str_any (str_keeps hs7 lo7 k (fun m hm => by omega)) _ rfl) (fun b o e => by have := lo7 b o e; omega) (own_none _ _) (B7.trans (k.below B7.size (fun m hm => by omega)))

theorem reg_told {s : St} {a7 : Option Addr} {c7 : Nat} {c : Cmd} {w w7 w4 w' : World} {L : List (Int × Int)} {l : List (Int × Int)} {v : Value} {n1 n3 : Nat} (hp : pregister s c = (⟨s.gen, L, 0, 0, c.stays⟩, l)) (B7 : Below w.heap.size w w7) (hs7 : StR w7 ⟨s.gen, L, s.typ, s.holder, s.stays⟩ a7) (lo7 : ∀ b o, a7 = some ⟨b, o, none⟩ → n1 ≤ b) (z1 : w.heap.size + 1 + 1 < n1)
    (k4 : Keeps (· = w.heap.size + 1 + 1) w7 w4) (ho : OwnT n3 w4 v l) (z2 : w.heap.size + 1 + 1 < n3) (zw : w.heap.size ≤ n3) (k : Keeps (· = w.heap.size + 1 + 1) w4 w') :
    StepPost (pregister s c) w (.returned (.tuple #[.agg #[.int .i64 s.gen, .slice a7 L.length c7, .int .i64 0, .int .i64 0, .bool c.stays], v])) w' :=
  StepPost.mk (a := a7) (cap := c7) hp rfl (str_any (str_keeps hs7 lo7 (k4.trans k) (fun m hm => by omega)) _ rfl) (fun b o e => by have := lo7 b o e; omega) ((ho.keeps k (fun m hm => by omega)).mono zw) (B7.trans ((k4.trans k).below B7.size (fun m hm => by omega)))

set_option maxRecDepth 100000 in
set_option maxHeartbeats 4000000 in
theorem register_any (s : St) (a : Option Addr) (cap : Nat) (c : Cmd) (w : World) (hr : StR w s a) (hl : s.regs.length ≤ 40) (hw : 0 ≤ c.who ∧ c.who ≤ 1000) (hb0 : ∀ r ∈ s.regs, 0 ≤ r.1 ∧ r.1 ≤ 1000) (hs0 : s.regs.Pairwise (fun a b => a.1 < b.1)) :
    Calls Try.prog 89 #[stV s a cap, cmdV c] w (StepPost (pregister s c) w) := by
  have hq := fun (o p q : Obj) => bregrown (Below.refl (((w.alloc o).alloc p).alloc q).heap.size (((w.alloc o).alloc p).alloc q))
  have hqr : ∀ o p q d os, StR (grow (redrawn (((w.alloc o).alloc p).alloc q) d) os) s a := fun o p q d os => (hr.below (bal3' w o p q)).below (below_regrown _ d os)
  obtain ⟨L, hL⟩ : ∃ L, withL s.regs c.who c.new = L := ⟨_, rfl⟩
  have HLS := Lib.hid hL
  have hLl : L.length ≤ 41 := by have := with_len s.regs c.who c.new; rw [hL] at this; omega
  have HR0 := Lib.hid hr
  have HB0 := Lib.hid hb0
  have HS0 := Lib.hid hs0
  have PR := Lib.hid (show pregister s c = (if 0 < c.new ∨ holds s c.who = false then (⟨s.gen, L, s.typ, s.holder, c.stays⟩, [])
    else if allT s.typ = true ∧ 0 < L.length then (⟨s.gen, L, s.typ, s.holder, c.stays⟩, [])
    else if s.typ = 5 ∨ s.typ = 6 then (⟨s.gen, L, 0, 0, c.stays⟩, toldL (othersL c.who L) 2)
    else (⟨s.gen, L, 0, 0, c.stays⟩, [])) from by rw [← hL]; rfl)
  clear hL hr hb0 hs0
  go_enter Try.func89, Try.ntmps89
  go_wp2
  refine wp_region_quiet_below (by kernel_rfl) (by kernel_rfl) ?_
  repeat (go_big_quiet_step (first | exact Calls.regrown_of (holds_any s a cap c.who _ (hqr _ _ _ _ _)) | exact Calls.regrown_of (all_any s a cap _)))
  refine wpQuiet_nil ?_
  rintro w1 ⟨⟨dq, osq⟩, hw1⟩
  have b1 := hw1 ▸ below_regrown _ dq osq
  clear hq hqr
  have hr1 : StR w1 s a := HR0.out.below ((bal3' w _ _ _).trans (b1.mono (bal3' w _ _ _).size))
  obtain ⟨hcc, hf⟩ := bcell b1
  clear hw1
  go_wp2_with fail
  refine (with_xlo s.gen s.regs s.typ s.holder s.stays a cap c.who c.new _ hr1 (by omega) hw HB0.out HS0.out L HLS.out).mono ?_
  rintro e w7 ⟨a7, c7, rfl, hs7, lo7, h7⟩
  have b7 := b1.trans (h7.mono b1.size)
  have z7 : w.heap.size + 1 + 1 < w7.heap.size := by have := b7.size; simp at this; omega
  have z71 : w.heap.size + 1 + 1 < w1.heap.size := by have := b1.size; simp at this; omega
  have z72 : w.heap.size + 1 < w7.heap.size := by omega
  have z73 : w.heap.size < w7.heap.size := by omega
  obtain ⟨⟨d0, d1, d2, d3, d4⟩, -⟩ := box5 b7 (b := w.heap.size) (by simp <;> omega) (heap3 w _ _ _).1
  obtain ⟨⟨e0, e1, e2, e3, e4⟩, g0, g1, g2, g3, g4⟩ := box5 b7 (b := w.heap.size + 1 + 1) (by simp <;> omega) (heap3 w _ _ _).2.2
  have hcm := (b7.block (w.heap.size + 1) (by simp <;> omega)).trans (heap3 w _ _ _).2.1
  have k1 : w7.cell? ⟨w.heap.size + 1, 1, none⟩ = some (.int .i64 c.who) := by simp [World.cell?, hcm]
  have k3 : w7.cell? ⟨w.heap.size + 1, 3, none⟩ = some (.int .i64 c.new) := by simp [World.cell?, hcm]
  have k6 : w7.cell? ⟨w.heap.size + 1, 6, none⟩ = some (.bool c.stays) := by simp [World.cell?, hcm]
  have B7 := Lib.hid ((bal3' w _ _ _).trans (b7.mono (bal3' w _ _ _).size))
  have HS7 := Lib.hid hs7
  have LO7 := Lib.hid lo7
  have HE := Lib.hid ((b7.block (w.heap.size + 1 + 1) (by simp <;> omega)).trans (heap3 w _ _ _).2.2)
  clear hcc hf b1 b7 h7 hr1 hs7 lo7 hcm
  have FIN := Lib.hid (reg_fin s a7 c7 c w w7 L B7.out HS7.out LO7.out z71)
  by_cases hn : 0 < c.new
  · have P1 := Lib.hid (PR.out.trans (if_pos (.inl hn)))
    clear PR
    go_wp2
    refine bodyPost_ret (v := .tuple #[.agg #[.int .i64 s.gen, .slice a7 L.length c7, .int .i64 s.typ, .int .i64 s.holder, .bool c.stays], .slice none 0 0]) (by simp [results, Try.results89, go_sem, *]) rfl ?_
    refine FIN.out _ _ _ _ P1.out (own_none _ _) _ ?_ rfl
    repeat (first | with_reducible exact Keeps.refl _ _ | (with_reducible refine Keeps.drew ?_) | (with_reducible refine Keeps.alloc ?_ _) | (with_reducible refine keeps_set ?_ _ _))
  cases hh : holds s c.who
  · have P1 := Lib.hid (PR.out.trans (if_pos (.inr hh)))
    clear PR
    go_wp2
    refine bodyPost_ret (v := .tuple #[.agg #[.int .i64 s.gen, .slice a7 L.length c7, .int .i64 s.typ, .int .i64 s.holder, .bool c.stays], .slice none 0 0]) (by simp [results, Try.results89, go_sem, *]) rfl ?_
    refine FIN.out _ _ _ _ P1.out (own_none _ _) _ ?_ rfl
    repeat (first | with_reducible exact Keeps.refl _ _ | (with_reducible refine Keeps.drew ?_) | (with_reducible refine Keeps.alloc ?_ _) | (with_reducible refine keeps_set ?_ _ _))
  have PR2 := Lib.hid (PR.out.trans (if_neg (by rw [hh]; simp; omega)))
  clear PR
  cases ha : allT s.typ
  · by_cases h56 : s.typ = 5 ∨ s.typ = 6
    · have P1 := Lib.hid (PR2.out.trans ((if_neg (by rw [ha]; simp)).trans (if_pos h56)))
      have hEN := at_old (.cells #[.int .i64 s.gen, .slice a7 L.length c7, .int .i64 s.typ, .int .i64 s.holder, .bool c.stays] 47) HE.out
      have HEN := Lib.hid hEN
      have HRN := Lib.hid (fun (w' : World) (k : Keeps (· = w.heap.size + 1 + 1) (w7.alloc (.cells #[.int .i64 s.gen, .slice a7 L.length c7, .int .i64 s.typ, .int .i64 s.holder, .bool c.stays] 47)) w') => str_any (str_keeps HS7.out LO7.out ((Keeps.alloc (Keeps.refl (· = w.heap.size + 1 + 1) w7) _).trans k) (fun m hm => by omega)) ⟨s.gen, L, s.typ, s.holder, c.stays⟩ rfl)
      have OT := Lib.hid (fun (w' : World) (hw : StR w' ⟨s.gen, L, s.typ, s.holder, c.stays⟩ a7) => others_x s.gen L s.typ s.holder c.stays a7 c7 c.who w' hw (by omega) _ rfl)
      have ol : (othersL c.who L).length ≤ 50 := by have := others_len c.who L L.length; rw [List.take_length] at this; omega
      have KEEP := Lib.hid (keep_reg (N := w.heap.size + 1 + 1) (b' := w.heap.size + 1) (o := .cells #[.int .i64 s.gen, .slice a7 L.length c7, .int .i64 s.typ, .int .i64 s.holder, .bool c.stays] 47) (w7 := w7) rfl z7 (by omega) z72 k1)
      have hN8 : w.heap.size + 1 + 1 < (w7.alloc (.cells #[.int .i64 s.gen, .slice a7 L.length c7, .int .i64 s.typ, .int .i64 s.holder, .bool c.stays] 47)).heap.size := by simp; omega
      clear PR2 hEN
      rcases h56 with h5 | h6
      · have t5 : (s.typ == 5) = true := by simp [h5]
        clear h5
        go_wp2
        go_region_held3 (fun w' => Keeps (· = w.heap.size + 1 + 1) (w7.alloc (.cells #[.int .i64 s.gen, .slice a7 L.length c7, .int .i64 s.typ, .int .i64 s.holder, .bool c.stays] 47)) w' ∧ w'.cell? ⟨w7.heap.size, 0, none⟩ = some (.int .i64 s.gen) ∧ w'.cell? ⟨w7.heap.size, 1, none⟩ = some (.slice a7 L.length c7) ∧ w'.cell? ⟨w7.heap.size, 2, none⟩ = some (.int .i64 s.typ) ∧ w'.cell? ⟨w7.heap.size, 3, none⟩ = some (.int .i64 s.holder) ∧ w'.cell? ⟨w7.heap.size, 4, none⟩ = some (.bool c.stays) ∧ w'.cell? ⟨w.heap.size + 1, 1, none⟩ = some (.int .i64 c.who))
          ((refine KEEP.out _ ?_; repeat (first | with_reducible exact And.left (by with_reducible assumption) | exact (Keeps.refl _ _).drew | (with_reducible refine keeps_set ?_ _ _) | exact Keeps.trans (And.left (by assumption)) (Keeps.of_below (by assumption)))))
          (first
            | (go_at_call 94; (with_reducible refine (free_any s.gen L s.typ s.holder c.stays a7 c7 _).mono ?_); rintro e w2 ⟨rfl, hb2⟩)
            | (go_at_call 93; (with_reducible refine (OT.out _ (HRN.out _ (And.left (by assumption)))).mono ?_); rintro e w3 ⟨a3, c3, rfl, hi3, hb3⟩)
            | (go_at_call 92; (with_reducible refine (told_any _ a3 c3 2 _ (Nat.le_trans ol (by omega)) hi3).mono ?_); rintro e w4 ⟨v4, rfl, ho4, hb4⟩; have H14 : Below (w7.alloc (.cells #[.int .i64 s.gen, .slice a7 L.length c7, .int .i64 s.typ, .int .i64 s.holder, .bool c.stays] 47)).heap.size (w7.alloc (.cells #[.int .i64 s.gen, .slice a7 L.length c7, .int .i64 s.typ, .int .i64 s.holder, .bool c.stays] 47)) w4 := (((Below.refl _ _).drew.trans hb2).trans (hb3.mono hb2.size)).trans (hb4.mono (Nat.le_trans hb2.size hb3.size)); obtain ⟨⟨p0, p1, p2, p3, p4⟩, q0, q1, q2, q3, q4⟩ := box5 H14 (b := w.heap.size + 1 + 1) hN8 HEN.out))
        go_wp2
        refine bodyPost_ret (v := .tuple #[.agg #[.int .i64 s.gen, .slice a7 L.length c7, .int .i64 0, .int .i64 0, .bool c.stays], v4]) (by simp [results, Try.results89, go_sem, *]) rfl ?_
        have z2 : w.heap.size + 1 + 1 < w3.heap.size := Nat.lt_of_lt_of_le hN8 (Nat.le_trans hb2.size hb3.size)
        have zw : w.heap.size ≤ w3.heap.size := by omega
        refine reg_told P1.out B7.out HS7.out LO7.out z71 ((Keeps.alloc (Keeps.refl (· = w.heap.size + 1 + 1) w7) _).trans (Keeps.of_below H14)) ho4 z2 zw ?_
        exact Keeps.setCell (S := (· = w.heap.size + 1 + 1)) (Keeps.setCell (S := (· = w.heap.size + 1 + 1)) (Keeps.setCell (S := (· = w.heap.size + 1 + 1)) (Keeps.setCell (S := (· = w.heap.size + 1 + 1)) (Keeps.setCell (S := (· = w.heap.size + 1 + 1)) (Keeps.refl _ _) rfl _) rfl _) rfl _) rfl _) rfl _
      · have t5 : (s.typ == 5) = false := by simp; omega
        have t6 : (s.typ == 6) = true := by simp [h6]
        clear h6
        go_wp2
        go_region_held3 (fun w' => Keeps (· = w.heap.size + 1 + 1) (w7.alloc (.cells #[.int .i64 s.gen, .slice a7 L.length c7, .int .i64 s.typ, .int .i64 s.holder, .bool c.stays] 47)) w' ∧ w'.cell? ⟨w7.heap.size, 0, none⟩ = some (.int .i64 s.gen) ∧ w'.cell? ⟨w7.heap.size, 1, none⟩ = some (.slice a7 L.length c7) ∧ w'.cell? ⟨w7.heap.size, 2, none⟩ = some (.int .i64 s.typ) ∧ w'.cell? ⟨w7.heap.size, 3, none⟩ = some (.int .i64 s.holder) ∧ w'.cell? ⟨w7.heap.size, 4, none⟩ = some (.bool c.stays) ∧ w'.cell? ⟨w.heap.size + 1, 1, none⟩ = some (.int .i64 c.who))
          ((refine KEEP.out _ ?_; repeat (first | with_reducible exact And.left (by with_reducible assumption) | exact (Keeps.refl _ _).drew | (with_reducible refine keeps_set ?_ _ _) | exact Keeps.trans (And.left (by assumption)) (Keeps.of_below (by assumption)))))
          (first
            | (go_at_call 94; (with_reducible refine (free_any s.gen L s.typ s.holder c.stays a7 c7 _).mono ?_); rintro e w2 ⟨rfl, hb2⟩)
            | (go_at_call 93; (with_reducible refine (OT.out _ (HRN.out _ (And.left (by assumption)))).mono ?_); rintro e w3 ⟨a3, c3, rfl, hi3, hb3⟩)
            | (go_at_call 92; (with_reducible refine (told_any _ a3 c3 2 _ (Nat.le_trans ol (by omega)) hi3).mono ?_); rintro e w4 ⟨v4, rfl, ho4, hb4⟩; have H14 : Below (w7.alloc (.cells #[.int .i64 s.gen, .slice a7 L.length c7, .int .i64 s.typ, .int .i64 s.holder, .bool c.stays] 47)).heap.size (w7.alloc (.cells #[.int .i64 s.gen, .slice a7 L.length c7, .int .i64 s.typ, .int .i64 s.holder, .bool c.stays] 47)) w4 := (((Below.refl _ _).drew.trans hb2).trans (hb3.mono hb2.size)).trans (hb4.mono (Nat.le_trans hb2.size hb3.size)); obtain ⟨⟨p0, p1, p2, p3, p4⟩, q0, q1, q2, q3, q4⟩ := box5 H14 (b := w.heap.size + 1 + 1) hN8 HEN.out))
        go_wp2
        refine bodyPost_ret (v := .tuple #[.agg #[.int .i64 s.gen, .slice a7 L.length c7, .int .i64 0, .int .i64 0, .bool c.stays], v4]) (by simp [results, Try.results89, go_sem, *]) rfl ?_
        have z2 : w.heap.size + 1 + 1 < w3.heap.size := Nat.lt_of_lt_of_le hN8 (Nat.le_trans hb2.size hb3.size)
        have zw : w.heap.size ≤ w3.heap.size := by omega
        refine reg_told P1.out B7.out HS7.out LO7.out z71 ((Keeps.alloc (Keeps.refl (· = w.heap.size + 1 + 1) w7) _).trans (Keeps.of_below H14)) ho4 z2 zw ?_
        exact Keeps.setCell (S := (· = w.heap.size + 1 + 1)) (Keeps.setCell (S := (· = w.heap.size + 1 + 1)) (Keeps.setCell (S := (· = w.heap.size + 1 + 1)) (Keeps.setCell (S := (· = w.heap.size + 1 + 1)) (Keeps.setCell (S := (· = w.heap.size + 1 + 1)) (Keeps.refl _ _) rfl _) rfl _) rfl _) rfl _) rfl _
    · have P1 := Lib.hid (PR2.out.trans ((if_neg (by rw [ha]; simp)).trans (if_neg h56)))
      have t5 : (s.typ == 5) = false := by simp; omega
      have t6 : (s.typ == 6) = false := by simp; omega
      clear PR2 h56
      go_wp2_with fail
      refine (free_any s.gen L s.typ s.holder c.stays a7 c7 _).mono ?_
      rintro e w8 ⟨rfl, hb8⟩
      obtain ⟨⟨p0, p1, p2, p3, p4⟩, q0, q1, q2, q3, q4⟩ := box5 hb8 (b := w.heap.size + 1 + 1) (by simp; omega) (at_old _ HE.out)
      go_wp2
      refine bodyPost_ret (v := .tuple #[.agg #[.int .i64 s.gen, .slice a7 L.length c7, .int .i64 0, .int .i64 0, .bool c.stays], .slice none 0 0]) (by simp [results, Try.results89, go_sem, *]) rfl ?_
      refine FIN.out _ _ _ _ P1.out (own_none _ _) _ ?_ rfl
      repeat (first | with_reducible exact Keeps.refl _ _ | (with_reducible refine Keeps.drew ?_) | exact (Keeps.alloc (Keeps.refl _ _) _).trans (Keeps.of_below hb8) | (with_reducible refine keeps_set ?_ _ _))
  · have hty : s.typ = 7 ∨ s.typ = 8 := by simpa [allT] using ha
    by_cases hL0 : 0 < L.length
    · have P1 := Lib.hid (PR2.out.trans (if_pos ⟨ha, hL0⟩))
      clear PR2 hty
      go_wp2
      refine bodyPost_ret (v := .tuple #[.agg #[.int .i64 s.gen, .slice a7 L.length c7, .int .i64 s.typ, .int .i64 s.holder, .bool c.stays], .slice none 0 0]) (by simp [results, Try.results89, go_sem, *]) rfl ?_
      refine FIN.out _ _ _ _ P1.out (own_none _ _) _ ?_ rfl
      repeat (first | with_reducible exact Keeps.refl _ _ | (with_reducible refine Keeps.drew ?_) | (with_reducible refine Keeps.alloc ?_ _) | (with_reducible refine keeps_set ?_ _ _))
    · have P1 := Lib.hid (PR2.out.trans ((if_neg (fun x => hL0 x.2)).trans (if_neg (by omega))))
      have t5 : (s.typ == 5) = false := by simp; omega
      have t6 : (s.typ == 6) = false := by simp; omega
      clear PR2 hty
      go_wp2_with fail
      refine (free_any s.gen L s.typ s.holder c.stays a7 c7 _).mono ?_
      rintro e w8 ⟨rfl, hb8⟩
      obtain ⟨⟨p0, p1, p2, p3, p4⟩, q0, q1, q2, q3, q4⟩ := box5 hb8 (b := w.heap.size + 1 + 1) (by simp; omega) (at_old _ HE.out)
      go_wp2
      refine bodyPost_ret (v := .tuple #[.agg #[.int .i64 s.gen, .slice a7 L.length c7, .int .i64 0, .int .i64 0, .bool c.stays], .slice none 0 0]) (by simp [results, Try.results89, go_sem, *]) rfl ?_
      refine FIN.out _ _ _ _ P1.out (own_none _ _) _ ?_ rfl
      repeat (first | with_reducible exact Keeps.refl _ _ | (with_reducible refine Keeps.drew ?_) | exact (Keeps.alloc (Keeps.refl _ _) _).trans (Keeps.of_below hb8) | (with_reducible refine keeps_set ?_ _ _))
end Go.Proofs.Ytclhmpknkinjcaa
