/-
  TopKnown: the walk.
-/
import Derived.Test.YtkiogccpbdpfaaaKnownPlain
import Derived.Test.YtkiogccpbdpfaaaHoldsFact
import Derived.Test.YtkiogccpbdpfaaaSameState
import Derived.Deep.RegionHeld3
namespace Go.Proofs.Ytkiogccpbdpfaaa
open Go.RowKit Go.Sort

theorem with_x (g : Int) (l : List (Int × Int)) (t h : Int) (st : Bool) (a : Option Addr) (cap : Nat) (who key : Int) (w : World) (hr : StR w ⟨g, l, t, h, st⟩ a) (hl : l.length ≤ 50) (hw : 0 ≤ who ∧ who ≤ 1000) (hb : ∀ r ∈ l, 0 ≤ r.1 ∧ r.1 ≤ 1000) (hs : l.Pairwise (fun a b => a.1 < b.1)) (L : List (Int × Int)) (hL : withL l who key = L) :
    Calls Try.prog 74 #[.agg #[.int .i64 g, .slice a l.length cap, .int .i64 t, .int .i64 h, .bool st], .int .i64 who, .int .i64 key] w fun e w' => ∃ a' cap', e = .returned (.agg #[.int .i64 g, .slice a' L.length cap', .int .i64 t, .int .i64 h, .bool st]) ∧ StR w' ⟨g, L, t, h, st⟩ a' ∧ Below w.heap.size w w' := by
  subst hL
  exact (with_any ⟨g, l, t, h, st⟩ a cap who key w hr hl hw hb hs).mono fun e w' ⟨a', cap', h1, h2, h3⟩ => ⟨a', cap', h1, h2, h3⟩
theorem key_x (g : Int) (l : List (Int × Int)) (t h : Int) (st : Bool) (a : Option Addr) (cap : Nat) (who v : Int) (w : World) (hr : StR w ⟨g, l, t, h, st⟩ a) (hv : keyOf l who = v) :
    Calls Try.prog 68 #[.agg #[.int .i64 g, .slice a l.length cap, .int .i64 t, .int .i64 h, .bool st], .int .i64 who] w fun e w' => e = .returned (.int .i64 v) ∧ Below w.heap.size w w' := by
  subst hv
  exact key_any ⟨g, l, t, h, st⟩ a cap who w hr
theorem same_x (g : Int) (l : List (Int × Int)) (t h : Int) (st : Bool) (a b : Option Addr) (c d : Nat) (w : World) (ha : StR w ⟨g, l, t, h, st⟩ a) (hb : StR w ⟨g, l, t, h, st⟩ b) :
    Calls Try.prog 73 #[.agg #[.int .i64 g, .slice a l.length c, .int .i64 t, .int .i64 h, .bool st], .agg #[.int .i64 g, .slice b l.length d, .int .i64 t, .int .i64 h, .bool st]] w fun e w' => e = .returned (.bool true) ∧ Below w.heap.size w w' :=
  samestate_true ⟨g, l, t, h, st⟩ a b c d w ha hb
theorem others_x (g : Int) (l : List (Int × Int)) (t h : Int) (st : Bool) (a : Option Addr) (cap : Nat) (who : Int) (w : World) (hr : StR w ⟨g, l, t, h, st⟩ a) (hl : l.length ≤ 100) (O : List Int) (hO : othersL who l = O) :
    Calls Try.prog 76 #[.agg #[.int .i64 g, .slice a l.length cap, .int .i64 t, .int .i64 h, .bool st], .int .i64 who] w fun e w' => ∃ a' c', e = .returned (.slice a' O.length c') ∧ Ints w'.heap.size w' a' O ∧ Below w.heap.size w w' := by
  subst hO
  refine (others_any ⟨g, l, t, h, st⟩ a cap who w hr hl).mono ?_
  rintro e w' ⟨v, rfl, hown, hb⟩
  obtain ⟨a', c', rfl, hi⟩ := hown.shape
  exact ⟨a', c', rfl, hi, hb⟩

theorem known_zero (a : Option Addr) (cap : Nat) (w : World) (hr : StR w ⟨0, [(2, 7)], 0, 0, false⟩ a) :
    Calls Try.prog 74 #[.agg #[.int .i64 0, .slice a 1 cap, .int .i64 0, .int .i64 0, .bool false], .int .i64 2, .int .i64 0] w fun e w' => ∃ a' cap', e = .returned (.agg #[.int .i64 0, .slice a' 0 cap', .int .i64 0, .int .i64 0, .bool false]) ∧ Below w.heap.size w w' :=
  (with_any ⟨0, [(2, 7)], 0, 0, false⟩ a cap 2 0 w hr (by simp) (by omega) (by simp) (by simp)).mono fun _ _ ⟨a', cap', h1, _, h3⟩ => ⟨a', cap', h1, h3⟩
theorem key_none (a : Option Addr) (cap : Nat) (w : World) : Calls Try.prog 68 #[.agg #[.int .i64 0, .slice a 0 cap, .int .i64 0, .int .i64 0, .bool false], .int .i64 2] w fun e w' => e = .returned (.int .i64 0) ∧ Below w.heap.size w w' :=
  (key_any ⟨0, [], 0, 0, false⟩ a cap 2 w ⟨by simp, Pairs.nil _ _ _⟩).mono fun e w' h => h
theorem key_seven (a : Option Addr) (cap : Nat) (w : World) (hr : StR w ⟨0, [(2, 7)], 0, 0, false⟩ a) : Calls Try.prog 68 #[.agg #[.int .i64 0, .slice a 1 cap, .int .i64 0, .int .i64 0, .bool false], .int .i64 2] w fun e w' => e = .returned (.int .i64 7) ∧ Below w.heap.size w w' :=
  (key_any ⟨0, [(2, 7)], 0, 0, false⟩ a cap 2 w hr).mono fun e w' h => h

structure OthersF (s : St) (who : Int) (O : List Int) : Prop where
  len : O.length ≤ 6
  ne : ∀ k (h : k < O.length), O[k] ≠ who
  key : ∀ k (h : k < O.length), keyOf s.regs O[k] ≠ 0
  lt : ∀ j (h : j + 1 < O.length), O[j] < O[j + 1]
theorem others_facts (s : St) (g : Good s) (who : Int) (O : List Int) (hO : othersL who s.regs = O) (hl : s.regs.length ≤ 6) : OthersF s who O := by
  subst hO
  refine ⟨?_, fun k h => (others_mem (List.getElem_mem h)).1, fun k h => ?_, fun j h => ?_⟩
  · have := others_len who s.regs s.regs.length
    rw [List.take_length] at this
    omega
  · obtain ⟨_, r, hr, e⟩ := others_mem (List.getElem_mem h)
    rw [← e]
    exact keyOf_of_mem s.regs (fun r hr => by have := g.bounds r hr; omega) r hr
  · exact List.pairwise_iff_getElem.1 (others_sorted (who := who) g.sorted) j (j + 1) (by omega) h (by omega)

theorem numbers_same (l : List Int) (a b : Option Addr) (c d : Nat) (w : World) (hl : l.length ≤ maxLen) (ha : Ints w.heap.size w a l) (hb : Ints w.heap.size w b l) :
    Calls Try.prog 33 #[.slice a l.length c, .slice b l.length d] w fun e w' => e = .returned (.bool true) ∧ Below w.heap.size w w' :=
  (samenumbers_any l l a b c d w hl hl ha hb).mono fun e w' ⟨h1, h2⟩ => ⟨by rw [h1]; simp, h2⟩

structure Known (l : List (Int × Int)) (who key other : Int) (L : List (Int × Int)) : Prop where
  self : keyOf L who = key
  other : keyOf L other = keyOf l other
  len : L.length ≤ 50
  bound : ∀ r ∈ L, 0 ≤ r.1 ∧ r.1 ≤ 1000
  sort : L.Pairwise (fun a b => a.1 < b.1)
  back : withL L who (keyOf l who) = l
  others : othersL who L = othersL who l

theorem known_facts (l : List (Int × Int)) (who key other : Int) (hb : ∀ r ∈ l, 1 ≤ r.1 ∧ r.1 ≤ 4 ∧ 1 ≤ r.2 ∧ r.2 ≤ 999) (hs : l.Pairwise (fun a b => a.1 < b.1)) (hl : l.length ≤ 6) (hw : 1 ≤ who) (hw4 : who ≤ 4) (hk : 0 ≤ key) (ho : other ≠ who) (L : List (Int × Int)) (hL : withL l who key = L) : Known l who key other L := by
  subst hL
  refine ⟨keyOf_with_self l who key hk, keyOf_with l who key other ho, by have := with_len l who key; omega, fun r hr => ?_, sorted_with who key hs, with_back l who key hs (fun r hr => by have := hb r hr; omega), others_with l who key⟩
  rcases mem_with hr with ⟨rfl, _⟩ | ⟨h, _⟩
  · show 0 ≤ who ∧ who ≤ 1000; omega
  · have := hb r h; omega
theorem state_bounds (s : St) (g : Good s) : (∀ r ∈ s.regs, 0 ≤ r.1 ∧ r.1 ≤ 1000) ∧ s.regs.Pairwise (fun a b => a.1 < b.1) := ⟨fun r hr => by have := g.bounds r hr; omega, g.sorted⟩

theorem keep_known {w7 : World} {o : Obj} {b : Nat} {v0 v1 v2 v3 v4 u0 u1 u2 u3 u4 : Value} {T : TypeId} (hb : b < w7.heap.size) (ho : o = .cells #[u0, u1, u2, u3, u4] T (0, 0)) (c0 : w7.cell? ⟨b, 0, none⟩ = some v0) (c1 : w7.cell? ⟨b, 1, none⟩ = some v1) (c2 : w7.cell? ⟨b, 2, none⟩ = some v2) (c3 : w7.cell? ⟨b, 3, none⟩ = some v3) (c4 : w7.cell? ⟨b, 4, none⟩ = some v4) :
    ∀ w', Below (w7.alloc o).heap.size (w7.alloc o) w' → Below (w7.alloc o).heap.size (w7.alloc o) w' ∧ (w'.cell? ⟨b, 0, none⟩ = some v0 ∧ w'.cell? ⟨b, 1, none⟩ = some v1 ∧ w'.cell? ⟨b, 2, none⟩ = some v2 ∧ w'.cell? ⟨b, 3, none⟩ = some v3 ∧ w'.cell? ⟨b, 4, none⟩ = some v4) ∧
      w'.cell? ⟨w7.heap.size, 0, none⟩ = some u0 ∧ w'.cell? ⟨w7.heap.size, 1, none⟩ = some u1 ∧ w'.cell? ⟨w7.heap.size, 2, none⟩ = some u2 ∧ w'.cell? ⟨w7.heap.size, 3, none⟩ = some u3 ∧ w'.cell? ⟨w7.heap.size, 4, none⟩ = some u4 := by
  subst ho
  intro w' h
  have e : ∀ o, w'.cell? ⟨b, o, none⟩ = w7.cell? ⟨b, o, none⟩ := fun o => (((bal w7 _).trans (h.mono (bal w7 _).size)).cell (p := ⟨b, o, none⟩) hb)
  obtain ⟨⟨d0, d1, d2, d3, d4⟩, -⟩ := box5 h (b := w7.heap.size) (by simp) (heap_alloc_new _ _)
  exact ⟨h, ⟨(e _).trans c0, (e _).trans c1, (e _).trans c2, (e _).trans c3, (e _).trans c4⟩, d0, d1, d2, d3, d4⟩

set_option maxRecDepth 100000 in
set_option maxHeartbeats 4000000 in
theorem topknown_walk (s : St) (a : Option Addr) (cap : Nat) (who key other : Int) (w : World) (hr : StR w s a) :
    Calls Try.prog 15 #[stV s a cap, .int .i64 who, .int .i64 key, .int .i64 other] w fun e w' => e = .returned (.bool true) ∧ Below w.heap.size w w' := by
  have hr1 : ∀ o, StR (w.alloc o) s a := fun o => hr.below (bal w o)
  go_enter Try.func15, Try.ntmps15
  go_wp2_with fail
  refine (with_zero _).mono ?_
  rintro e w1 ⟨a1, c1, rfl, hs1, b1⟩
  have hal : ∀ o, StR (w1.alloc o) ⟨0, [(2, 7)], 0, 0, false⟩ a1 := fun o => hs1.below (bal w1 o)
  go_wp2_with fail
  refine (key_seven a1 c1 _ (hal _)).mono ?_
  rintro e w2 ⟨rfl, b2⟩
  obtain ⟨hc, hf⟩ := bcell b2
  go_wp2_with fail
  refine (known_zero a1 c1 _ ((hal _).below b2)).mono ?_
  rintro e w3 ⟨a3, c3, rfl, b3⟩
  go_wp2_with fail
  refine (key_none a3 c3 _).mono ?_
  rintro e w4 ⟨rfl, b4⟩
  have B4 : Below (w.alloc (.cells #[.int .i64 s.gen, .slice a s.regs.length cap, .int .i64 s.typ, .int .i64 s.holder, .bool s.stays] 64)).heap.size (w.alloc (.cells #[.int .i64 s.gen, .slice a s.regs.length cap, .int .i64 s.typ, .int .i64 s.holder, .bool s.stays] 64)) w4 :=
    b1.trans (((bover b2 (by simp)).trans ((b3.trans (b4.mono b3.size)).mono (bover b2 (by simp)).size)).mono b1.size)
  clear hc hf b1 b2 b3 b4 hal hs1
  have b4 := B4
  obtain ⟨hc, hf⟩ := bcell B4
  go_wp2_with fail
  refine (light_any s a cap _).mono ?_
  rintro e w5 ⟨rfl, h5⟩
  have b5 := b4.trans (h5.mono b4.size)
  clear hc hf
  obtain ⟨hc, hf⟩ := bcell b5
  have fin : Below w.heap.size w w5 := bover b5 (by simp)
  cases hl6 : decide (s.regs.length ≤ 6)
  · go_wp2
    go_ret
    exact ⟨rfl, fin⟩
  by_cases hg : stateFault s ≠ 0
  · go_wp2_with fail
    refine (check_bad s a cap _ ((hr1 _).below b5) hg).mono ?_
    rintro e w6 ⟨rfl, h6⟩
    have b6 := b5.trans (h6.mono b5.size)
    clear hc hf
    obtain ⟨hc, hf⟩ := bcell b6
    have fin : Below w.heap.size w w6 := bover b6 (by simp)
    clear hg
    go_wp2
    go_ret
    exact ⟨rfl, fin⟩
  have hg0 : stateFault s = 0 := by omega
  have good := Lib.hid ((good_iff s).1 hg0)
  go_wp2_with fail
  refine (check_good s a cap _ ((hr1 _).below b5) hg0).mono ?_
  rintro e w6 ⟨rfl, h6⟩
  have b6 := b5.trans (h6.mono b5.size)
  clear hc hf
  obtain ⟨hc, hf⟩ := bcell b6
  have fin6 : Below w.heap.size w w6 := bover b6 (by simp)
  clear hg hg0
  by_cases g1 : who < 1
  · go_wp2
    go_ret
    exact ⟨rfl, fin6⟩
  by_cases g2 : 4 < who
  · go_wp2
    go_ret
    exact ⟨rfl, fin6⟩
  by_cases g3 : key < 0
  · go_wp2
    go_ret
    exact ⟨rfl, fin6⟩
  by_cases g4 : 999 < key
  · go_wp2
    go_ret
    exact ⟨rfl, fin6⟩
  rcases (by omega : other = who ∨ other ≠ who) with g5 | g5
  · have g5b : (other == who) = true := by simp [g5]
    clear g5
    go_wp2
    go_ret
    exact ⟨rfl, fin6⟩
  have g5b : (other == who) = false := by simp [g5]
  have G5 := Lib.hid g5
  clear g5
  have hlen : s.regs.length ≤ 6 := by simpa using hl6
  obtain ⟨L, hL⟩ : ∃ L, withL s.regs who key = L := ⟨_, rfl⟩
  have FL := Lib.hid (known_facts s.regs who key other good.out.bounds good.out.sorted hlen (by omega) (by omega) (by omega) G5.out L hL)
  have HLS := Lib.hid hL
  clear hL
  have SB := Lib.hid (state_bounds s good.out)
  go_wp2_with fail
  refine (with_x s.gen s.regs s.typ s.holder s.stays a cap who key _ ((hr1 _).below b6) (by omega) (by omega) SB.out.1 SB.out.2 L HLS.out).mono ?_
  rintro e w7 ⟨a7, c7, rfl, hs7, h7⟩
  have b7 := b6.trans (h7.mono b6.size)
  have hr7 : ∀ o, StR (w7.alloc o) s a := fun o => ((hr1 _).below b7).below (bal w7 o)
  have ht7 : ∀ o, StR (w7.alloc o) ⟨s.gen, L, s.typ, s.holder, s.stays⟩ a7 := fun o => hs7.below (bal w7 o)
  obtain ⟨⟨c0, c1', c2, c3', c4⟩, -⟩ := box5 b7 (b := w.heap.size) (by simp) (heap_alloc_new _ _)
  have hlt7 : w.heap.size < w7.heap.size := bsz b7
  have fin7 : Below w.heap.size w w7 := bover b7 (by simp)
  have KEEP := Lib.hid (keep_known (o := .cells #[.int .i64 s.gen, .slice a7 L.length c7, .int .i64 s.typ, .int .i64 s.holder, .bool s.stays] 64) hlt7 rfl c0 c1' c2 c3' c4)
  have HR7 := Lib.hid hr7
  have HT7 := Lib.hid ht7
  clear hc hf b4 b5 b6 b7 h5 h6 h7 B4 hr7 ht7 hs7 hr1 hr fin6
  have AK1 := Lib.hid (fun (W : World) (h : Below (w7.alloc (.cells #[.int .i64 s.gen, .slice a7 L.length c7, .int .i64 s.typ, .int .i64 s.holder, .bool s.stays] 64)).heap.size (w7.alloc (.cells #[.int .i64 s.gen, .slice a7 L.length c7, .int .i64 s.typ, .int .i64 s.holder, .bool s.stays] 64)) W) => key_x s.gen L s.typ s.holder s.stays a7 c7 who key W ((HT7.out _).below h) FL.out.self)
  have AK2 := Lib.hid (fun (W : World) (h : Below (w7.alloc (.cells #[.int .i64 s.gen, .slice a7 L.length c7, .int .i64 s.typ, .int .i64 s.holder, .bool s.stays] 64)).heap.size (w7.alloc (.cells #[.int .i64 s.gen, .slice a7 L.length c7, .int .i64 s.typ, .int .i64 s.holder, .bool s.stays] 64)) W) => key_x s.gen L s.typ s.holder s.stays a7 c7 other (keyOf s.regs other) W ((HT7.out _).below h) FL.out.other)
  have AK3 := Lib.hid (fun (W : World) (h : Below (w7.alloc (.cells #[.int .i64 s.gen, .slice a7 L.length c7, .int .i64 s.typ, .int .i64 s.holder, .bool s.stays] 64)).heap.size (w7.alloc (.cells #[.int .i64 s.gen, .slice a7 L.length c7, .int .i64 s.typ, .int .i64 s.holder, .bool s.stays] 64)) W) (o : Int) => key_x s.gen s.regs s.typ s.holder s.stays a cap o (keyOf s.regs o) W ((HR7.out _).below h) rfl)
  have AW := Lib.hid (fun (W : World) (h : Below (w7.alloc (.cells #[.int .i64 s.gen, .slice a7 L.length c7, .int .i64 s.typ, .int .i64 s.holder, .bool s.stays] 64)).heap.size (w7.alloc (.cells #[.int .i64 s.gen, .slice a7 L.length c7, .int .i64 s.typ, .int .i64 s.holder, .bool s.stays] 64)) W) => with_x s.gen L s.typ s.holder s.stays a7 c7 who (keyOf s.regs who) W ((HT7.out _).below h) FL.out.len (by omega) FL.out.bound FL.out.sort s.regs FL.out.back)
  have AS := Lib.hid (fun (W : World) (h : Below (w7.alloc (.cells #[.int .i64 s.gen, .slice a7 L.length c7, .int .i64 s.typ, .int .i64 s.holder, .bool s.stays] 64)).heap.size (w7.alloc (.cells #[.int .i64 s.gen, .slice a7 L.length c7, .int .i64 s.typ, .int .i64 s.holder, .bool s.stays] 64)) W) (a9 : Option Addr) (c9 : Nat) (h9 : StR W ⟨s.gen, s.regs, s.typ, s.holder, s.stays⟩ a9) => same_x s.gen s.regs s.typ s.holder s.stays a9 a c9 cap W h9 ((HR7.out _).below h))
  go_wp2
  go_region_held3 (fun w' => Below (w7.alloc (.cells #[.int .i64 s.gen, .slice a7 L.length c7, .int .i64 s.typ, .int .i64 s.holder, .bool s.stays] 64)).heap.size (w7.alloc (.cells #[.int .i64 s.gen, .slice a7 L.length c7, .int .i64 s.typ, .int .i64 s.holder, .bool s.stays] 64)) w' ∧ (w'.cell? ⟨w.heap.size, 0, none⟩ = some (.int .i64 s.gen) ∧ w'.cell? ⟨w.heap.size, 1, none⟩ = some (.slice a s.regs.length cap) ∧ w'.cell? ⟨w.heap.size, 2, none⟩ = some (.int .i64 s.typ) ∧ w'.cell? ⟨w.heap.size, 3, none⟩ = some (.int .i64 s.holder) ∧ w'.cell? ⟨w.heap.size, 4, none⟩ = some (.bool s.stays)) ∧ w'.cell? ⟨w7.heap.size, 0, none⟩ = some (.int .i64 s.gen) ∧ w'.cell? ⟨w7.heap.size, 1, none⟩ = some (.slice a7 L.length c7) ∧ w'.cell? ⟨w7.heap.size, 2, none⟩ = some (.int .i64 s.typ) ∧ w'.cell? ⟨w7.heap.size, 3, none⟩ = some (.int .i64 s.holder) ∧ w'.cell? ⟨w7.heap.size, 4, none⟩ = some (.bool s.stays))
    ((refine KEEP.out _ ?_; first | with_reducible exact And.left (by with_reducible assumption) | exact (Below.refl _ _).drew | exact Below.trans (And.left (by assumption)) (Below.mono (by assumption) (Below.size (And.left (by assumption))))))
    (first
      | (go_at_call 68; (with_reducible refine (AK1.out _ (And.left (by assumption))).mono ?_); rintro e w8 ⟨rfl, hb8⟩)
      | (go_at_call 68; (with_reducible refine (AK2.out _ (And.left (by assumption))).mono ?_); rintro e w8 ⟨rfl, hb8⟩)
      | (go_at_call 68; (with_reducible refine (AK3.out _ (And.left (by assumption)) _).mono ?_); rintro e w8 ⟨rfl, hb8⟩)
      | (go_at_call 74; (with_reducible refine (AW.out _ (And.left (by assumption))).mono ?_); rintro e w8 ⟨a9, c9, rfl, hs9, hb8⟩)
      | (go_at_call 73; (with_reducible refine (AS.out _ (And.left (by assumption)) a9 c9 hs9).mono ?_); rintro e w8 ⟨rfl, hb8⟩))
  have FS : Below (w7.alloc (.cells #[.int .i64 s.gen, .slice a7 L.length c7, .int .i64 s.typ, .int .i64 s.holder, .bool s.stays] 64)).heap.size (w7.alloc (.cells #[.int .i64 s.gen, .slice a7 L.length c7, .int .i64 s.typ, .int .i64 s.holder, .bool s.stays] 64)) _ := And.left (by assumption)
  obtain ⟨O, hO⟩ : ∃ O, othersL who s.regs = O := ⟨_, rfl⟩
  have HO := Lib.hid hO
  have OM := Lib.hid (others_facts s good.out who O hO hlen)
  clear hO
  have FSH := Lib.hid FS
  go_wp2_with fail
  refine (others_x s.gen L s.typ s.holder s.stays a7 c7 who _ ((HT7.out _).below FS) (Nat.le_trans FL.out.len (by omega)) O (FL.out.others.trans HO.out)).mono ?_
  rintro e w9 ⟨a9, c9, rfl, hi9, hb9⟩
  have B9 : Below (w7.alloc (.cells #[.int .i64 s.gen, .slice a7 L.length c7, .int .i64 s.typ, .int .i64 s.holder, .bool s.stays] 64)).heap.size (w7.alloc (.cells #[.int .i64 s.gen, .slice a7 L.length c7, .int .i64 s.typ, .int .i64 s.holder, .bool s.stays] 64)) w9 := FSH.out.trans (hb9.mono FSH.out.size)
  have K9 := KEEP.out w9 B9
  have H9 : StR w9 s a := (HR7.out _).below B9
  have fin9 : Below w.heap.size w w9 := fin7.trans ((bover B9 (by simp)).mono fin7.size)
  have z9 : w.heap.size < w9.heap.size := by have := B9.size; simp at this; omega
  obtain ⟨-, ⟨d0, d1, d2, d3, d4⟩, -⟩ := K9
  clear FS hb9 B9 FSH c0 c1' c2 c3' c4 AK1 AK2 AK3 AW AS
  have HI9 := Lib.hid hi9
  have ol := OM.out.len
  go_wp2
  go_loopw [12] (fun i wr => ∃ k : Nat, k ≤ O.length ∧ i = .int .i64 k ∧ Below w9.heap.size w9 wr) (fun i _ => O.length - (intOf i).toNat)
  case atStart => exact ⟨0, by omega, rfl, Below.refl _ _⟩
  case round =>
    obtain ⟨k, hk, rfl, hby⟩ := hrel
    by_cases hlt : k < O.length
    · obtain ⟨bo, oo, rfl, hbo, h1⟩ := hi9 k hlt
      have hq := bregrown hby
      have hqr : ∀ d os, StR (grow (redrawn wr d) os) s a := fun d os => H9.below (bclass hby (Nat.le_refl _) d os)
      have q1 : (O[k] == who) = false := by simpa using (OM.out.ne k hlt)
      have q2 : (keyOf s.regs O[k] == 0) = false := by simpa using (OM.out.key k hlt)
      cases k with
      | zero =>
        have d0' : decide ((0 : Int) < ((0 : Nat) : Int)) = false := by simp
        simp only [Nat.add_zero] at h1
        go_wp2
        refine wp_region_quiet_below (by kernel_rfl) (by kernel_rfl) ?_
        repeat (go_big_quiet_step (first | (go_at_call 68; exact Calls.regrown_of (key_x s.gen s.regs s.typ s.holder s.stays a cap _ _ _ (hqr _ _) rfl))))
        refine wpQuiet_nil ?_
        rintro w' ⟨⟨dq, osq⟩, rfl⟩
        go_wp2
        go_roundw
        case rel => exact ⟨1, by omega, rfl, hby.trans ((below_regrown wr dq osq).mono hby.size)⟩
        case measure => simp [intOf]; omega
      | succ j =>
        obtain ⟨bo', oo', hbo', -, h2⟩ := hi9 j (by omega)
        obtain ⟨rfl, rfl⟩ : bo = bo' ∧ oo = oo' := by simpa using hbo'
        have x1 : IntKind.i64.wrap ((j : Int) + 1 - 1) = (j : Int) := by rw [IntWalk.i64_in _ (by omega)]; omega
        have x2 : (j : Int) + 1 - 1 = (j : Int) := by omega
        have q3 : decide (O[j + 1] ≤ O[j]) = false := by have := OM.out.lt j hlt; simpa using this
        go_wp2
        refine wp_region_quiet_below (by kernel_rfl) (by kernel_rfl) ?_
        repeat (go_big_quiet_step (first | (go_at_call 68; exact Calls.regrown_of (key_x s.gen s.regs s.typ s.holder s.stays a cap _ _ _ (hqr _ _) rfl))))
        refine wpQuiet_nil ?_
        rintro w' ⟨⟨dq, osq⟩, rfl⟩
        go_wp2
        go_roundw
        case rel => exact ⟨j + 2, by omega, by go_num, hby.trans ((below_regrown wr dq osq).mono hby.size)⟩
        case measure => simp [intOf]; omega
    · obtain ⟨hc, hf⟩ := bcell hby
      go_wp2_with fail
      refine (others_x s.gen s.regs s.typ s.holder s.stays a cap who _ (H9.below hby) (by omega) O HO.out).mono ?_
      rintro e w10 ⟨a10, c10, rfl, hi10, hb10⟩
      have hb := hby.trans (hb10.mono hby.size)
      have NT := Lib.hid (numbers_same O a9 a10 c9 c10 w10 (by unfold maxLen; omega) ((HI9.out.below hb (Nat.le_refl _)).mono hb.size) hi10)
      go_wp2_with fail
      refine NT.out.mono ?_
      rintro e w11 ⟨rfl, hb11⟩
      go_wp2
      go_ret
      exact ⟨rfl, fin9.trans ((hb.trans (hb11.mono hb.size)).mono fin9.size)⟩
end Go.Proofs.Ytkiogccpbdpfaaa
