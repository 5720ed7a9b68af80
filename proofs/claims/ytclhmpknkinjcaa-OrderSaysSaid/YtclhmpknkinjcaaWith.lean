/-
  Contract: hold.With.
-/
import Derived.Test.YtclhmpknkinjcaaInsGrow
import Derived.Test.YtclhmpknkinjcaaBin
import Derived.Test.YtclhmpknkinjcaaHold
namespace Go.Proofs.Ytclhmpknkinjcaa
open Go.RowKit

theorem OwnP.below {B : Nat} {w w' : World} {v : Value} {l : List (Int × Int)} (h : OwnP B w v l) (hb : Below w.heap.size w w') : OwnP B w' v l := by
  obtain ⟨h1, h2⟩ := h
  refine ⟨h1, ?_⟩
  rcases h2 with h2 | ⟨g, cap, cur, e1, e2, e3, e4⟩
  · exact .inl h2
  · exact .inr ⟨g, cap, cur, e1, e2, by rw [hb.block g ((Array.getElem?_eq_some_iff.1 e3).1)]; exact e3, e4⟩

theorem OwnP.lo {B : Nat} {w : World} {a : Option Addr} {n c : Nat} {l : List (Int × Int)} (h : OwnP B w (.slice a n c) l) : ∀ b o, a = some ⟨b, o, none⟩ → B ≤ b := by
  obtain ⟨_, h2⟩ := h
  rcases h2 with ⟨e1, _⟩ | ⟨g, cap', cur, e1, hg, _⟩
  · simp at e1; intro b o hk; rw [e1.1] at hk; cases hk
  · simp at e1; intro b o hk; rw [e1.1] at hk; simp at hk; omega

theorem Pairs.setCell {B : Nat} {w : World} {a : Option Addr} {l : List (Int × Int)} (h : Pairs B w a l) {p : Addr} (hp : ∀ b o, a = some ⟨b, o, none⟩ → b ≠ p.block) (u : Value) : Pairs B (w.setCell p u) a l := by
  intro i hi
  obtain ⟨b, o, rfl, hb, h1, h2⟩ := h i hi
  have hne := hp b o rfl
  have hh : (w.setCell p u).heap[b]? = w.heap[b]? := Below.heap_setCell _ _ _ _ hne
  exact ⟨b, o, rfl, hb, (World.cell?_of_block (w := w) hh).trans h1, (World.cell?_of_block (w := w) hh).trans h2⟩

theorem insert_any (l : List (Int × Int)) (a : Option Addr) (cap B i : Nat) (x y : Int) (T : TypeId) (w : World) (hl : l.length ≤ 100) (hi : i ≤ l.length) (hr : OwnP B w (.slice a l.length cap) l) (hB : B ≤ w.heap.size) :
    Calls Try.prog 122 #[.slice a l.length cap, .int .i64 i, .slice (some ⟨w.heap.size, 0, none⟩) 1 1] (w.alloc (.cells #[.int .i64 x, .int .i64 y] T)) fun e w' => ∃ v', e = .returned v' ∧ OwnP B w' v' (insertAt l i (x, y)) ∧ Below B (w.alloc (.cells #[.int .i64 x, .int .i64 y] T)) w' := by
  have hr1 := hr.below (bal w (.cells #[.int .i64 x, .int .i64 y] T))
  have hB1 : B ≤ (w.alloc (.cells #[.int .i64 x, .int .i64 y] T)).heap.size := by simp; omega
  rcases (by omega : i = l.length ∨ i < l.length) with rfl | hlt
  · exact insert_end l a cap B x y w.heap.size 1 _ hl hr1 hB1 (by simp) (by simp)
  · obtain ⟨h1, h2⟩ := hr
    rcases h2 with ⟨_, h0⟩ | ⟨g, cap', cur, e1, hgB, hgh, hnc, hcm, hcs, ht⟩
    · omega
    · obtain ⟨rfl, rfl⟩ : a = some ⟨g, 0, none⟩ ∧ cap = cap' := by simpa using e1
      have hglt : g < w.heap.size := (Array.getElem?_eq_some_iff.1 hgh).1
      have hgh1 : (w.alloc (.cells #[.int .i64 x, .int .i64 y] T)).heap[g]? = some (.cells cur 134 (0, 0)) := by rw [Below.heap_alloc w _ _ hglt]; exact hgh
      rcases (by omega : l.length + 1 ≤ cap ∨ cap = l.length) with hroom | rfl
      · exact insert_mid l g cap B i x y w.heap.size 1 T cur _ hl hlt hroom hcm hgB hgh1 hcs ht (heap_alloc_new _ _) (by omega)
      · exact insert_grow l g B i x y w.heap.size 1 T cur _ hl hlt hB1 hgh1 hcs ht (heap_alloc_new _ _)

/-- a pair laid in where it belongs -/
def ins (who key : Int) : List (Int × Int) → List (Int × Int)
  | [] => [(who, key)]
  | r :: l => if r.1 < who then r :: ins who key l else (who, key) :: r :: l

def withL (l : List (Int × Int)) (who key : Int) : List (Int × Int) := if 0 < key then ins who key (without who l) else without who l

theorem insertAt_ins (who key : Int) : ∀ (l : List (Int × Int)) (i : Nat), i ≤ l.length → (∀ j (h : j < l.length), j < i → l[j].1 < who) → (∀ j (h : j < l.length), i ≤ j → who ≤ l[j].1) → insertAt l i (who, key) = ins who key l
  | [], i, hi, _, _ => by
    have : i = 0 := by simpa using hi
    subst this; rfl
  | r :: l, 0, _, _, h2 => by
    have := h2 0 (by simp) (by omega)
    simp at this
    unfold ins
    rw [if_neg (by omega)]; rfl
  | r :: l, i + 1, hi, h1, h2 => by
    have := h1 0 (by simp) (by omega)
    simp at this
    unfold ins
    rw [if_pos this, ← insertAt_ins who key l i (by simpa using hi) (fun j h hj => by have := h1 (j + 1) (by simp; omega) (by omega); simpa using this) (fun j h hj => by have := h2 (j + 1) (by simp; omega) (by omega); simpa using this)]
    rfl

def St.withRegs (s : St) (l : List (Int × Int)) : St := ⟨s.gen, l, s.typ, s.holder, s.stays⟩

theorem without_len (who : Int) (l : List (Int × Int)) : (without who l).length ≤ l.length := List.length_filter_le _ _
theorem ins_len (who key : Int) : ∀ l : List (Int × Int), (ins who key l).length = l.length + 1
  | [] => rfl
  | r :: l => by unfold ins; split <;> simp [ins_len who key l]

set_option maxHeartbeats 2000000 in
set_option maxRecDepth 100000 in
theorem with_lo (s : St) (a : Option Addr) (cap : Nat) (who key : Int) (w : World) (hr : StR w s a) (hl : s.regs.length ≤ 50) (hw : 0 ≤ who ∧ who ≤ 1000) (hb : ∀ r ∈ s.regs, 0 ≤ r.1 ∧ r.1 ≤ 1000) (hs : s.regs.Pairwise (fun a b => a.1 < b.1)) :
    Calls Try.prog 109 #[stV s a cap, .int .i64 who, .int .i64 key] w fun e w' => ∃ a' cap', e = .returned (stV (s.withRegs (withL s.regs who key)) a' cap') ∧ StR w' (s.withRegs (withL s.regs who key)) a' ∧ Below w.heap.size w w' ∧ (∀ b o, a' = some ⟨b, o, none⟩ → w.heap.size ≤ b) := by
  obtain ⟨g, l, t, h, st⟩ := s
  dsimp only at hl hb hs
  obtain ⟨_, hp⟩ := hr
  dsimp only at hp
  have hp1 : ∀ o, Pairs (w.alloc o).heap.size (w.alloc o) a l := fun o => (hp.below (bal w o) (Nat.le_refl _)).mono (by simp)
  have hp2 : ∀ o1 o2, Pairs ((w.alloc o1).alloc o2).heap.size ((w.alloc o1).alloc o2) a l := fun o1 o2 => ((hp1 o1).below (bal _ o2) (Nat.le_refl _)).mono (by simp)
  have hp3 : ∀ o1 o2 o3, Pairs (((w.alloc o1).alloc o2).alloc o3).heap.size (((w.alloc o1).alloc o2).alloc o3) a l := fun o1 o2 o3 => ((hp2 o1 o2).below (bal _ o3) (Nat.le_refl _)).mono (by simp)
  have HB := Lib.hid hb
  have HS := Lib.hid hs
  clear hb hs hp hp1 hp2
  go_enter Try.func109, Try.ntmps109
  go_wp2_with fail
  refine (clone_reg l a cap _ (by omega) (hp3 _ _ _)).mono ?_
  rintro e w1 ⟨v1, rfl, own1, b1⟩
  obtain ⟨hc, hf⟩ := bcell b1
  have cw : w1.cell? ⟨w.heap.size + 1, 0, none⟩ = some (.int .i64 who) := by
    have := (b1.block (w.heap.size + 1) (by simp)).trans (heap3 w _ _ _).2.1
    simp [World.cell?, this]
  go_wp2_with fail
  refine (deletefunc_any l v1 _ who (w.heap.size + 1) 0 w1 (by unfold maxLen; omega) own1 cw (by simp) (b1.size)).mono ?_
  rintro e w2 ⟨v2, rfl, own2, h2⟩
  have b2 := b1.trans h2
  clear hc hf own1
  obtain ⟨hc, hf⟩ := bcell b2
  have b02 : Below w.heap.size w w2 := bover (bover (bover b2 (by simp)) (by simp)) (by simp)
  obtain ⟨a2, c2, rfl, pr2, _⟩ := own2.shape
  have hdl := without_len who l
  by_cases hk : 0 < key
  · have hwl : withL l who key = ins who key (without who l) := by unfold withL; rw [if_pos hk]
    have HWL := Lib.hid hwl
    clear hwl
    have HOWN := Lib.hid own2
    have hbb : ∀ r ∈ without who l, 0 ≤ r.1 ∧ r.1 ≤ 1000 := fun r hr' => HB.out r ((List.mem_filter.1 hr').1)
    have hss : (without who l).Pairwise (fun a b => a.1 < b.1) := HS.out.sublist List.filter_sublist
    have HBB := Lib.hid hbb
    have HSS := Lib.hid hss
    clear hbb hss
    go_wp2_with fail
    refine (binsearch_any (without who l) a2 c2 who w2 (by omega) pr2 hw HBB.out HSS.out).mono ?_
    rintro e w3 ⟨i, f, rfl, hi, q1, q2, h3⟩
    have hins : insertAt (without who l) i (who, key) = ins who key (without who l) := insertAt_ins who key _ i hi q1 q2
    have HINS := Lib.hid hins
    clear hins q1 q2
    have b3 := b2.trans (h3.mono b2.size)
    clear hc hf
    obtain ⟨hc, hf⟩ := bcell b3
    go_wp2_with fail
    refine (insert_any (without who l) a2 c2 _ i who key _ w3 (by omega) hi (HOWN.out.below h3) b3.size).mono ?_
    rintro e w4 ⟨v4, rfl, own4, h4⟩
    have b4 := b3.trans ((bal w3 _).mono b3.size) |>.trans h4
    clear hc hf
    obtain ⟨hc, hf⟩ := bcell b4
    rw [HINS.out] at own4
    have hsz4 := b4.size
    obtain ⟨a4, c4, rfl, pr4, _⟩ := own4.shape
    obtain ⟨⟨e0, e1, e2, e3, e4⟩, f0, f1, f2, f3, f4⟩ := box5 b4 (b := w.heap.size) (by simp; omega) (heap3 w _ _ _).1
    obtain ⟨⟨g0, g1, g2, g3, g4⟩, k0, k1, k2, k3, k4⟩ := box5 b4 (b := w.heap.size + 1 + 1) (by simp) (heap3 w _ _ _).2.2
    clear hc hf
    go_wp2
    rw [HWL.out]
    refine bodyPost_ret (v := stV ⟨g, ins who key (without who l), t, h, st⟩ a4 c4) (by simp [results, Try.results109, go_sem, g0, g1, g2, g3, g4]) rfl ⟨a4, c4, rfl, ⟨?_, ?_⟩, ?_, ?_⟩
    · show (ins who key (without who l)).length ≤ maxLen; rw [ins_len]; unfold maxLen; omega
    · have lo := own4.lo
      simp only [World.size_alloc] at lo
      have hn : ∀ q : Nat, q < w.heap.size + 1 + 1 + 1 → ∀ b o, a4 = some ⟨b, o, none⟩ → b ≠ q := fun q hq b o e => by have := lo b o e; omega
      refine (?_ : Pairs w4.heap.size _ _ _).mono (by simp [World.setCell])
      iterate 6 (with_reducible refine Pairs.setCell ?_ (hn _ (by dsimp only; omega)) _)
      exact pr4
    · exact ((((((bover (bover (bover b4 (by simp)) (by simp)) (by simp)).setCell (Nat.le_refl _) _).setCell (by show w.heap.size ≤ w.heap.size + 1 + 1; omega) _).setCell (by show w.heap.size ≤ w.heap.size + 1 + 1; omega) _).setCell (by show w.heap.size ≤ w.heap.size + 1 + 1; omega) _).setCell (by show w.heap.size ≤ w.heap.size + 1 + 1; omega) _).setCell (by show w.heap.size ≤ w.heap.size + 1 + 1; omega) _
    · have lo := own4.lo
      simp only [World.size_alloc] at lo
      intro b o e
      have := lo b o e
      omega
  · have hwl : withL l who key = without who l := by unfold withL; rw [if_neg hk]
    have HWL := Lib.hid hwl
    clear hwl
    obtain ⟨⟨e0, e1, e2, e3, e4⟩, f0, f1, f2, f3, f4⟩ := box5 b2 (b := w.heap.size) (by simp; omega) (heap3 w _ _ _).1
    obtain ⟨⟨g0, g1, g2, g3, g4⟩, k0, k1, k2, k3, k4⟩ := box5 b2 (b := w.heap.size + 1 + 1) (by simp) (heap3 w _ _ _).2.2
    clear hc hf
    go_wp2
    rw [HWL.out]
    refine bodyPost_ret (v := stV ⟨g, without who l, t, h, st⟩ a2 c2) (by simp [results, Try.results109, go_sem, g0, g1, g2, g3, g4]) rfl ⟨a2, c2, rfl, ⟨?_, ?_⟩, ?_, ?_⟩
    · show (without who l).length ≤ maxLen; unfold maxLen; omega
    · have lo := own2.lo
      simp only [World.size_alloc] at lo
      have hn : ∀ q : Nat, q < w.heap.size + 1 + 1 + 1 → ∀ b o, a2 = some ⟨b, o, none⟩ → b ≠ q := fun q hq b o e => by have := lo b o e; omega
      refine (?_ : Pairs w2.heap.size _ _ _).mono (by simp [World.setCell])
      iterate 6 (with_reducible refine Pairs.setCell ?_ (hn _ (by dsimp only; omega)) _)
      exact pr2
    · exact ((((((bover (bover (bover b2 (by simp)) (by simp)) (by simp)).setCell (Nat.le_refl _) _).setCell (by show w.heap.size ≤ w.heap.size + 1 + 1; omega) _).setCell (by show w.heap.size ≤ w.heap.size + 1 + 1; omega) _).setCell (by show w.heap.size ≤ w.heap.size + 1 + 1; omega) _).setCell (by show w.heap.size ≤ w.heap.size + 1 + 1; omega) _).setCell (by show w.heap.size ≤ w.heap.size + 1 + 1; omega) _
    · have lo := own2.lo
      simp only [World.size_alloc] at lo
      intro b o e
      have := lo b o e
      omega

theorem with_any (s : St) (a : Option Addr) (cap : Nat) (who key : Int) (w : World) (hr : StR w s a) (hl : s.regs.length ≤ 50) (hw : 0 ≤ who ∧ who ≤ 1000) (hb : ∀ r ∈ s.regs, 0 ≤ r.1 ∧ r.1 ≤ 1000) (hs : s.regs.Pairwise (fun a b => a.1 < b.1)) :
    Calls Try.prog 109 #[stV s a cap, .int .i64 who, .int .i64 key] w fun e w' => ∃ a' cap', e = .returned (stV (s.withRegs (withL s.regs who key)) a' cap') ∧ StR w' (s.withRegs (withL s.regs who key)) a' ∧ Below w.heap.size w w' :=
  (with_lo s a cap who key w hr hl hw hb hs).mono fun _ _ ⟨a', cap', h1, h2, h3, _⟩ => ⟨a', cap', h1, h2, h3⟩
end Go.Proofs.Ytclhmpknkinjcaa
