/-
  TopBox: the walk.
-/
import Derived.Test.YtclhmpknkinjcaaTellKit
import Derived.Maps.AppendAt
import Derived.Deep.DeepCutAuto
namespace Go.Proofs.Ytclhmpknkinjcaa
open Go.RowKit

theorem add_zero_one (w : World) : Calls Try.prog 68 #[.agg #[.slice none 0 0, .slice none 0 0, .slice none 0 0, .slice none 0 0], .agg #[.int .i64 1, .int .i64 2]] w fun e w' =>
    ∃ a c, e = .returned (.agg #[.slice a 1 c, .slice none 0 0, .slice none 0 0, .slice none 0 0]) ∧ Sl.ok ⟨a, [2], c⟩ w' ∧ Below w.heap.size w w' := by
  refine (add_any _ 1 2 w (zero_ok w) (by omega)).mono ?_
  rintro e w' ⟨⟨a, l, c⟩, h1, h2, h3, h4⟩
  obtain rfl : l = [2] := h3
  exact ⟨a, c, h1, h2, h4⟩
theorem take_one (a : Option Addr) (c : Nat) (w : World) (h : Sl.ok ⟨a, [2], c⟩ w) : Calls Try.prog 67 #[.agg #[.slice a 1 c, .slice none 0 0, .slice none 0 0, .slice none 0 0], .int .i64 1] w fun e w' =>
    ∃ a' c', e = .returned (.tuple #[.agg #[.slice a' 0 c', .slice none 0 0, .slice none 0 0, .slice none 0 0], .int .i64 2]) ∧ Below w.heap.size w w' := by
  have hz : Bx.ok ⟨⟨a, [2], c⟩, ⟨none, [], 0⟩, ⟨none, [], 0⟩, ⟨none, [], 0⟩⟩ w := ⟨h, ⟨Ints.nil _ _ _, by simp, by simp⟩, ⟨Ints.nil _ _ _, by simp, by simp⟩, ⟨Ints.nil _ _ _, by simp, by simp⟩⟩
  refine (take_any _ 1 w hz (by omega)).mono ?_
  rintro e w' ⟨⟨a', l', c'⟩, h1, h2, h3, h4⟩
  obtain rfl : l' = [] := h3
  exact ⟨a', c', h1, h4⟩

/-- no slice of the box lies in that block -/
def Bx.off (p : Bx) (o : Option Nat) : Prop := ∀ j, 1 ≤ j → j ≤ 4 → ∀ a, (p.get j).a = some a → (p.get j).l ≠ [] → some a.block ≠ o
theorem Bx.ok.grown {p : Bx} {w w' : World} {o : Option Nat} (h : p.ok w) (ho : p.off o) (hg : w.grownBy w' o) : p.ok w' := by
  have key : ∀ j, 1 ≤ j → j ≤ 4 → (p.get j).ok w' := by
    intro j h1 h2
    have hj := h.get j
    refine ⟨fun i hi => ?_, hj.len, hj.cap⟩
    obtain ⟨b, o', ha, hb, hc⟩ := hj.ints i hi
    have hne := ho j h1 h2 _ ha (by intro e; rw [e] at hi; simp at hi)
    exact ⟨b, o', ha, Nat.lt_of_lt_of_le hb hg.size, hg.cell hc hne⟩
  exact ⟨key 1 (by omega) (by omega), key 2 (by omega) (by omega), key 3 (by omega) (by omega), key 4 (by omega) (by omega)⟩
/-- a new block is no block of the box -/
theorem Bx.off_new {p : Bx} {w : World} (h : p.ok w) {n : Nat} (hn : w.heap.size ≤ n) : p.off (some n) := by
  intro j h1 h2 a ha hl e
  obtain ⟨b, o, hb, hlt, -⟩ := (h.get j).ints 0 (by cases hh : (p.get j).l with | nil => exact absurd hh hl | cons x t => simp)
  rw [ha] at hb
  cases hb
  have : b = n := by simpa using e
  omega
theorem Bx.off_none (p : Bx) : p.off none := fun _ _ _ _ _ _ => by simp
theorem Bx.off_set {p : Bx} {u : Int} {s : Sl} {o : Option Nat} {B : Nat} {w : World} (h : p.off o) (hu : 1 ≤ u ∧ u ≤ 4) (hs : s = p.get u ∨ HiI B w s.a s.l) (ho : ∀ k, o = some k → k < B) : (p.set u s).off o := by
  intro j h1 h2 a ha hl
  rw [Bx.get_set p u j s hu ⟨h1, h2⟩] at ha hl
  split at ha
  · rename_i hj
    subst hj
    rw [if_pos rfl] at hl
    rcases hs with rfl | hs
    · exact h j h1 h2 a ha hl
    · obtain ⟨b, o', hb, hB, -⟩ := hs 0 (by cases hh : s.l with | nil => exact absurd hh hl | cons x t => simp)
      rw [ha] at hb
      cases hb
      intro e
      have := ho b e.symm
      omega
  · rename_i hj
    rw [if_neg hj] at hl
    exact h j h1 h2 a ha hl

/-- a block of slices holds no integer: so no slice of integers lies in it -/
theorem far_of {w : World} {a : Option Addr} {l : List Int} {n M : Nat} {b : Bx} {T : TypeId} (h : Ints n w a l) (hl : l ≠ []) (hM : w.heap[M]? = some (.cells b.cells T (0, 0))) : ∀ x, a = some x → x.block ≠ M := by
  rintro x rfl
  obtain ⟨b', o', e, _, c⟩ := h 0 (List.length_pos_iff.2 hl)
  cases e
  rintro rfl
  simp only [World.cell?, hM] at c
  have : ∀ (o' : Nat) (z : Int), (b.cells)[o']? ≠ some (.int .i64 z) := by
    intro o' z
    match o' with
    | 0 => simp
    | 1 => simp
    | 2 => simp
    | 3 => simp
    | n + 4 => simp
  simp at c
  exact this _ _ (by simpa using c)

theorem Sl.ok.keeps {S : Nat → Prop} {s : Sl} {w w' : World} (h : s.ok w) (k : Keeps S w w') (hS : ∀ m, S m → m < w.heap.size → ∃ (b : Bx) (T : TypeId), w.heap[m]? = some (.cells b.cells T (0, 0))) : s.ok w' := by
  refine ⟨?_, h.len, h.cap⟩
  by_cases hl : s.l = []
  · rw [hl]; exact Ints.nil _ _ _
  intro i hi
  obtain ⟨b', o', e, hb, c⟩ := h.ints i hi
  refine ⟨b', o', e, Nat.lt_of_lt_of_le hb k.size, ?_⟩
  rw [k.cell (fun hs => ?_) hb]
  · exact c
  · obtain ⟨b, T, hM⟩ := hS _ hs hb
    exact far_of h.ints hl hM _ e rfl
theorem Bx.ok.keeps {S : Nat → Prop} {b : Bx} {w w' : World} (h : b.ok w) (k : Keeps S w w') (hS : ∀ m, S m → m < w.heap.size → ∃ (b : Bx) (T : TypeId), w.heap[m]? = some (.cells b.cells T (0, 0))) : b.ok w' :=
  ⟨h.o1.keeps k hS, h.o2.keeps k hS, h.o3.keeps k hS, h.o4.keeps k hS⟩

theorem set4 {cs : Array Value} (h : cs.size = 4) (a b c d : Value) : (((cs.setIfInBounds 0 a).setIfInBounds 1 b).setIfInBounds 2 c).setIfInBounds 3 d = #[a, b, c, d] := by
  obtain ⟨l⟩ := cs
  match l, h with
  | [_, _, _, _], _ => rfl

theorem OwnI.blk_lt {B : Nat} {w : World} {v : Value} {l : List Int} (h : OwnI B w v l) : ∀ k, v.ownBlock = some k → k < w.heap.size := by
  intro k hk
  obtain ⟨-, h2⟩ := h
  rcases h2 with ⟨rfl, -⟩ | ⟨g, cap, cur, rfl, hg, hh, -⟩
  · cases hk
  · obtain rfl : g = k := by simpa [Value.ownBlock] using hk
    exact (Array.getElem?_eq_some_iff.1 hh).1

/-- what the first loop keeps: the box p in block N; what is to be told to one, L, lies in a row v of its own -/
structure TB (w : World) (N : Nat) (p : Bx) (v : Value) (L : List Int) (wr : World) : Prop where
  pok : p.ok wr
  hB : wr.heap[N]? = some (.cells p.cells 116 (0, 0))
  own : OwnI (N + 1) wr v L
  off : p.off v.ownBlock
  below : Below w.heap.size w wr
  lo : w.heap.size ≤ N
theorem TB.lt {w wr : World} {N : Nat} {p : Bx} {v : Value} {L : List Int} (h : TB w N p v L wr) : N < wr.heap.size := (Array.getElem?_eq_some_iff.1 h.hB).1
theorem TB.over {w wr w' : World} {N : Nat} {p : Bx} {v : Value} {L : List Int} (h : TB w N p v L wr) (b : Below wr.heap.size wr w') : TB w N p v L w' :=
  ⟨h.pok.below b, (b.block _ h.lt).trans h.hB, h.own.below b, h.off, h.below.trans (b.mono h.below.size), h.lo⟩
abbrev st4 (w : World) (N : Nat) (p : Bx) : World := (((w.setCell ⟨N, 0, none⟩ (.slice p.s1.a p.s1.l.length p.s1.c)).setCell ⟨N, 1, none⟩ (.slice p.s2.a p.s2.l.length p.s2.c)).setCell ⟨N, 2, none⟩ (.slice p.s3.a p.s3.l.length p.s3.c)).setCell ⟨N, 3, none⟩ (.slice p.s4.a p.s4.l.length p.s4.c)
theorem keeps_st4 (w : World) (N : Nat) (p : Bx) : Keeps (· = N) w (st4 w N p) := Keeps.setCell (S := (· = N)) (Keeps.setCell (S := (· = N)) (Keeps.setCell (S := (· = N)) (Keeps.setCell (S := (· = N)) (Keeps.refl _ _) rfl _) rfl _) rfl _) rfl _
theorem st4_at {w : World} {N : Nat} {b : Bx} (p : Bx) (h : w.heap[N]? = some (.cells b.cells 116 (0, 0))) : (st4 w N p).heap[N]? = some (.cells p.cells 116 (0, 0)) := by
  have := block_setCell (o := 3) (block_setCell (o := 2) (block_setCell (o := 1) (block_setCell (o := 0) h (.slice p.s1.a p.s1.l.length p.s1.c)) (.slice p.s2.a p.s2.l.length p.s2.c)) (.slice p.s3.a p.s3.l.length p.s3.c)) (.slice p.s4.a p.s4.l.length p.s4.c)
  rw [set4 rfl] at this
  exact this
theorem tb_store {w w2 : World} {N : Nat} {p p' : Bx} {v : Value} {L : List Int} (h : TB w N p v L w2) (hp : p'.ok w2) (ho : p'.off v.ownBlock) : TB w N p' v L ((((w2.setCell ⟨N, 0, none⟩ (.slice p'.s1.a p'.s1.l.length p'.s1.c)).setCell ⟨N, 1, none⟩ (.slice p'.s2.a p'.s2.l.length p'.s2.c)).setCell ⟨N, 2, none⟩ (.slice p'.s3.a p'.s3.l.length p'.s3.c)).setCell ⟨N, 3, none⟩ (.slice p'.s4.a p'.s4.l.length p'.s4.c)) := by
  have kp := keeps_st4 w2 N p'
  have hS : ∀ m, m = N → m < w2.heap.size → ∃ (b : Bx) (T : TypeId), w2.heap[m]? = some (.cells b.cells T (0, 0)) := by rintro m rfl _; exact ⟨_, _, h.hB⟩
  have hlo := h.lo
  exact ⟨hp.keeps kp hS, st4_at p' h.hB, h.own.keeps kp (fun k hk => by omega), ho, h.below.trans (kp.below h.below.size (fun k hk => by omega)), h.lo⟩
theorem tb_append {w w4 w5 : World} {N : Nat} {p : Bx} {v v' : Value} {L : List Int} {x : Int} (o : Obj) (h : TB w N p v L w4) (hown : w5.ownsRow (N + 1) 3 1 v' (L.length + 1) (L.map (Value.int .i64) ++ [.int .i64 x]))
    (hg : (w4.alloc o).grownBy w5 v.ownBlock) (hat : v'.ownBlock = v.ownBlock ∨ v'.ownBlock = some (w4.alloc o).heap.size) : TB w N p v' (L ++ [x]) w5 := by
  have hlo := h.lo
  have hlt := h.lt
  have hblk := h.own.blk
  have hok : p.ok (w4.alloc o) := h.pok.below (bal w4 o)
  refine ⟨hok.grown h.off hg, ?_, by simpa [OwnI] using hown, ?_, ?_, hlo⟩
  · rw [hg.block N (by simp; omega) (fun e => by have := hblk N e.symm; omega), Below.heap_alloc _ _ _ hlt]
    exact h.hB
  · rcases hat with e | e
    · rw [e]; exact h.off
    · rw [e]; exact Bx.off_new hok (Nat.le_refl _)
  · exact (h.below.trans ((bal w4 o).mono h.below.size)).grown hg (Nat.le_trans h.below.size (bal w4 o).size) (fun k hk => by have := hblk k hk; omega)
theorem box_step {p p' : Bx} {u x who : Int} (hup : Upd p p' u (addL (p.get u).l x)) (hw : 1 ≤ who ∧ who ≤ 4) (h4 : (p.get who).l.length ≤ 4) :
    (p'.get who).l = if u = who ∧ (p.get who).l.getLast? ≠ some x then (p.get who).l ++ [x] else (p.get who).l := by
  rw [hup who hw.1 hw.2]
  by_cases hu : who = u
  · subst hu
    simp only [if_true, true_and]
    unfold addL
    split
    · rename_i h; simp [h]
    · rw [show (p.get who).l.length + 1 - 5 = 0 from by omega]; simp
  · rw [if_neg hu, if_neg (fun h => hu h.1.symm)]

/-- what the second loop keeps -/
structure T2 (wz : World) (N : Nat) (q : Bx) (wy : World) : Prop where
  qok : q.ok wy
  hB : wy.heap[N]? = some (.cells q.cells 116 (0, 0))
  kp : Keeps (· = N) wz wy
theorem T2.lt {wz wy : World} {N : Nat} {q : Bx} (h : T2 wz N q wy) : N < wy.heap.size := (Array.getElem?_eq_some_iff.1 h.hB).1
theorem T2.over {wz wy w' : World} {N : Nat} {q : Bx} (h : T2 wz N q wy) (b : Below wy.heap.size wy w') : T2 wz N q w' :=
  ⟨h.qok.below b, (b.block _ h.lt).trans h.hB, h.kp.trans (Keeps.of_below b)⟩
theorem t2_store {wz w2 : World} {N : Nat} {q q' : Bx} (h : T2 wz N q w2) (hp : q'.ok w2) : T2 wz N q' ((((w2.setCell ⟨N, 0, none⟩ (.slice q'.s1.a q'.s1.l.length q'.s1.c)).setCell ⟨N, 1, none⟩ (.slice q'.s2.a q'.s2.l.length q'.s2.c)).setCell ⟨N, 2, none⟩ (.slice q'.s3.a q'.s3.l.length q'.s3.c)).setCell ⟨N, 3, none⟩ (.slice q'.s4.a q'.s4.l.length q'.s4.c)) := by
  have kp := keeps_st4 w2 N q'
  have hS : ∀ m, m = N → m < w2.heap.size → ∃ (b : Bx) (T : TypeId), w2.heap[m]? = some (.cells b.cells T (0, 0)) := by rintro m rfl _; exact ⟨_, _, h.hB⟩
  exact ⟨hp.keeps kp hS, st4_at q' h.hB, h.kp.trans kp⟩

theorem add_tb (p : Bx) (u x : Int) (w : World) (hr : p.ok w) (hu : 1 ≤ u ∧ u ≤ 4) :
    Calls Try.prog 68 #[.agg #[p.s1.v, p.s2.v, p.s3.v, p.s4.v], .agg #[.int .i64 u, .int .i64 x]] w fun e w' => ∃ p' : Bx, e = .returned (.agg #[.slice p'.s1.a p'.s1.l.length p'.s1.c, .slice p'.s2.a p'.s2.l.length p'.s2.c, .slice p'.s3.a p'.s3.l.length p'.s3.c, .slice p'.s4.a p'.s4.l.length p'.s4.c]) ∧ p'.ok w' ∧ Upd p p' u (addL (p.get u).l x) ∧ (∀ o, p.off o → (∀ k, o = some k → k < w.heap.size) → p'.off o) ∧ Below w.heap.size w w' := by
  refine (add_any2 p u x w hr hu).mono ?_
  rintro e w' ⟨s, h1, h2, h3, h4, h5⟩
  exact ⟨p.set u s, h1, (hr.below h4).set u h2, h3 ▸ upd_set p u s hu, fun o ho hk => Bx.off_set ho hu h5 hk, h4⟩

set_option maxRecDepth 100000 in
set_option maxHeartbeats 4000000 in
theorem topbox_walk (l : List (Int × Int)) (a : Option Addr) (cap : Nat) (who : Int) (w : World) (hl : l.length ≤ maxLen) (hr : Pairs w.heap.size w a l) :
    Calls Try.prog 8 #[.slice a l.length cap, .int .i64 who] w fun e w' => e = .returned (.bool true) ∧ Below w.heap.size w w' := by
  unfold maxLen at hl
  go_enter Try.func8, Try.ntmps8
  go_wp2_with fail
  refine (add_zero_one _).mono ?_
  rintro e w1 ⟨a1, c1, rfl, hs1, b1⟩
  go_wp2_with fail
  refine (take_one a1 c1 _ hs1).mono ?_
  rintro e w2 ⟨a2, c2, rfl, b2⟩
  have HB2 := Lib.hid (b1.trans (b2.mono b1.size))
  clear hs1 b1 b2
  by_cases h5 : l.length > 5
  · go_wp2
    go_ret
    exact ⟨rfl, HB2.out.trans ((bal w2 _).mono HB2.out.size)⟩
  by_cases h1 : who < 1
  · go_wp2
    go_ret
    exact ⟨rfl, HB2.out.trans ((bal w2 _).mono HB2.out.size)⟩
  by_cases h4 : who > 4
  · go_wp2
    go_ret
    exact ⟨rfl, HB2.out.trans ((bal w2 _).mono HB2.out.size)⟩
  go_upto_region 7 with fail
  obtain ⟨w3, hw3⟩ : ∃ w3, w3 = w2.alloc (.cells (⟨⟨none, [], 0⟩, ⟨none, [], 0⟩, ⟨none, [], 0⟩, ⟨none, [], 0⟩⟩ : Bx).cells 116) := ⟨_, rfl⟩
  have hw3' := hw3
  dsimp only [Bx.cells, Sl.v, List.length_nil] at hw3
  rw [← hw3]
  clear hw3
  have HT := Lib.hid (show TB w w2.heap.size ⟨⟨none, [], 0⟩, ⟨none, [], 0⟩, ⟨none, [], 0⟩, ⟨none, [], 0⟩⟩ (.slice none 0 0) [] w3 from by
    subst hw3'
    exact ⟨zero_ok _, heap_alloc_new _ _, ⟨rfl, .inl ⟨rfl, rfl⟩⟩, Bx.off_none _, HB2.out.trans ((bal w2 _).mono HB2.out.size), HB2.out.size⟩)
  clear hw3'
  obtain ⟨N, hN⟩ : ∃ N, w2.heap.size = N := ⟨_, rfl⟩
  rw [hN] at HT
  rw [hN]
  clear hN
  go_wp2
  go_loopw [7, 8] (fun v i wr => ∃ (k : Nat) (p : Bx), k ≤ l.length ∧ i = .int .i64 k ∧ (p.get who).l.length ≤ k ∧ TB w N p v (p.get who).l wr) (fun _ i _ => l.length - (intOf i).toNat)
  case atStart =>
    have e : ((⟨⟨none, [], 0⟩, ⟨none, [], 0⟩, ⟨none, [], 0⟩, ⟨none, [], 0⟩⟩ : Bx).get who).l = [] := by unfold Bx.get; (repeat' split) <;> rfl
    exact ⟨0, _, by omega, rfl, by rw [e]; simp, by rw [e]; exact HT.out⟩
  case round =>
    obtain ⟨k, p, hk, rfl, hlen, tb⟩ := hrel
    obtain ⟨L, hL⟩ : ∃ L, (p.get who).l = L := ⟨_, rfl⟩
    rw [hL] at tb hlen
    obtain ⟨av, cv, rfl, -⟩ := tb.own.shape
    obtain ⟨n, hn⟩ : ∃ n, L.length = n := ⟨_, rfl⟩
    rw [hn] at tb hlen ⊢
    have hNw : N < wr.heap.size := tb.lt
    have hlo := tb.lo
    by_cases hlt : k < l.length
    · obtain ⟨bb, oo, rfl, hbs, h1', h2'⟩ := hr k hlt
      have c1 := (tb.below.cell (p := ⟨bb, oo + k * 2, none⟩) hbs).trans h1'
      have c2 := (tb.below.cell (p := ⟨bb, oo + k * 2 + 1, none⟩) hbs).trans h2'
      have hbw : bb < wr.heap.size := Nat.lt_of_lt_of_le hbs tb.below.size
      have hbN : bb ≠ N := by omega
      have G1 := Lib.hid h1'
      have G2 := Lib.hid h2'
      have TH := Lib.hid tb
      clear hr h1' h2'
      obtain ⟨u, hu⟩ : ∃ u, l[k].1 = u := ⟨_, rfl⟩
      obtain ⟨x, hx⟩ : ∃ x, l[k].2 = x := ⟨_, rfl⟩
      rw [hu] at c1 G1
      rw [hx] at c2 G2
      clear hu hx
      by_cases d1 : u < 1
      · go_wp2
        go_ret
        exact ⟨rfl, TH.out.below⟩
      by_cases d2 : 4 < u
      · go_wp2
        go_ret
        exact ⟨rfl, TH.out.below⟩
      by_cases d3 : x < 1
      · go_wp2
        go_ret
        exact ⟨rfl, TH.out.below⟩
      by_cases d4 : 4 < x
      · go_wp2
        go_ret
        exact ⟨rfl, TH.out.below⟩
      have ADD := Lib.hid (fun (w' : World) (hb : Below wr.heap.size wr w') => add_tb p u x w' (TH.out.pok.below hb) (by omega))
      clear tb
      go_upto_region 13 with fail
      refine region_tail 5 (by kernel_rfl) (by kernel_rfl) ?_
      intro wd hwd hwh
      have tbd := TH.out.over hwd
      obtain ⟨⟨n0, n1, n2, n3⟩, -⟩ := box4 (Below.refl (N + 1) wd) (by omega) tbd.hB
      have m1 := (hwd.cell (p := ⟨bb, oo + k * 2, none⟩) hbw).trans c1
      have m2 := (hwd.cell (p := ⟨bb, oo + k * 2 + 1, none⟩) hbw).trans c2
      have HWD := Lib.hid hwd
      have TD := Lib.hid tbd
      clear tbd hwd hwh c1 c2
      simp only [List.take_succ_cons, List.take_zero, List.drop_succ_cons, List.drop_zero]
      repeat still_step
      refine wpStill_nil ?_
      go_wp2_with fail
      refine (ADD.out wd HWD.out).mono ?_
      rintro e w4 ⟨p', rfl, hp', hup, hoff, hb2⟩
      have t2 := TD.out.over hb2
      obtain ⟨⟨r0, r1, r2, r3⟩, s0, s1, s2, s3⟩ := box4 (Below.refl (N + 1) w4) (by omega) t2.hB
      have T3 := Lib.hid (tb_store t2 hp' (hoff _ TD.out.off TD.out.own.blk_lt))
      have STEP := Lib.hid (box_step hup (who := who) (by omega) (by rw [hL, hn]; omega))
      rw [hL] at STEP
      clear t2 hp' hup hoff hb2 n0 n1 n2 n3 m1 m2 TH TD ADD HWD
      go_upto_region 14 with fail
      clear r0 r1 r2 r3 s0 s1 s2 s3
      revert T3
      generalize (((w4.setCell ⟨N, 0, none⟩ (.slice p'.s1.a p'.s1.l.length p'.s1.c)).setCell ⟨N, 1, none⟩ (.slice p'.s2.a p'.s2.l.length p'.s2.c)).setCell ⟨N, 2, none⟩ (.slice p'.s3.a p'.s3.l.length p'.s3.c)).setCell ⟨N, 3, none⟩ (.slice p'.s4.a p'.s4.l.length p'.s4.c) = w5
      intro T3
      have c1 := (T3.out.below.cell (p := ⟨bb, oo + k * 2, none⟩) hbs).trans G1.out
      have c2 := (T3.out.below.cell (p := ⟨bb, oo + k * 2 + 1, none⟩) hbs).trans G2.out
      obtain ⟨Y, hY⟩ : ∃ Y : Bool, decide (u = who ∧ L.getLast? ≠ some x) = Y := ⟨_, rfl⟩
      have HY := Lib.hid hY
      have HI := Lib.hid T3.out.own.hi
      clear hY
      go_cut [108] (fun v wx => v = .bool Y ∧ Below w5.heap.size w5 wx)
      case first =>
        have HLN := Lib.hid hn
        clear hn
        by_cases hu : u = who
        · have hub : (u == who) = true := by simp [hu]
          have HU := Lib.hid hu
          clear hu
          rcases n with _ | m
          · have HYt : Y = true := by
              rw [← HY.out, List.length_eq_zero_iff.1 HLN.out]
              simp [HU.out]
            subst HYt
            clear c1 c2
            have c1 := (T3.out.below.cell (p := ⟨bb, oo + k * 2, none⟩) hbs).trans G1.out
            go_quiet (fail)
            go_wp2_with fail
            go_meet
            exact ⟨rfl, below_drewN (Below.refl _ _) _⟩
          · obtain ⟨b', o', rfl, -, -, cl⟩ := HI.out m (by rw [HLN.out]; omega)
            have hlast : L.getLast? = some (L[m]'(by rw [HLN.out]; omega)) := by
              rw [List.getLast?_eq_getElem?, show L.length - 1 = m from by have := HLN.out; omega]
              exact List.getElem?_eq_getElem _
            obtain ⟨z, hz⟩ : ∃ z, L[m]'(by rw [HLN.out]; omega) = z := ⟨_, rfl⟩
            rw [hz] at cl hlast
            clear hz
            have q1 : IntKind.i64.wrap ((m : Int) + 1 - 1) = (m : Int) := by rw [IntWalk.i64_in _ (by omega)]; omega
            have q2 : (m : Int) + 1 - 1 = (m : Int) := by omega
            have q3 : ((m : Int) + 1 == 0) = false := by simp; omega
            by_cases hzx : z = x
            · have hzb : (z != x) = false := by simp [hzx]
              have HYt : Y = false := by rw [← HY.out, hlast]; simp [hzx]
              clear hzx hlast
              subst HYt
              go_quiet (fail)
              go_wp2_with fail
              go_meet
              exact ⟨rfl, below_drewN (Below.refl _ _) _⟩
            · have hzb : (z != x) = true := by simp [hzx]
              have HYt : Y = true := by rw [← HY.out, hlast]; simp [hzx, HU.out]
              clear hzx hlast
              subst HYt
              go_quiet (fail)
              go_wp2_with fail
              go_meet
              exact ⟨rfl, below_drewN (Below.refl _ _) _⟩
        · have hub : (u == who) = false := by simp [hu]
          have HYt : Y = false := by rw [← HY.out]; simp [hu]
          clear hu
          subst HYt
          go_quiet (fail)
          go_wp2_with fail
          go_meet
          exact ⟨rfl, below_drewN (Below.refl _ _) _⟩
      case rest =>
        obtain ⟨wo, rfl⟩ : ∃ wo : World, wo = wr := ⟨_, rfl⟩
        obtain ⟨rfl, b6⟩ := hcut
        have T6 := Lib.hid (T3.out.over b6)
        have HS := Lib.hid (show (p'.get who).l = if Y = true then L ++ [x] else L from by rw [STEP.out, ← HY.out]; simp)
        have HLN := Lib.hid hn
        clear b6 c1 c2 hn STEP HY
        cases Y
        · go_wp2
          go_roundw
          case rel => exact ⟨k + 1, p', by omega, by go_num, by rw [HS.out]; simp [HLN.out]; omega, by rw [HS.out]; exact T6.out⟩
          case measure => simp [intOf]; omega
        · have c2 := (T6.out.below.cell (p := ⟨bb, oo + k * 2 + 1, none⟩) hbs).trans G2.out
          obtain ⟨i0, hi, hz0, hz1, hz2⟩ := info_parts Try.infoInt
          have OW := Lib.hid (fun o => show (wc.alloc o).ownsRow (N + 1) 3 1 (.slice av n cv) n (L.map (Value.int .i64)) from by
            have := T6.out.own.below (bal wc o)
            unfold OwnI at this
            rwa [HLN.out] at this)
          go_wp2_with (at_builtin; refine wpList_append_own_at _ rfl _ _ 71 rfl (N + 1) 3 i0 (.int .i64 0) 1 8 Try.underlying71 hi hz0 hz1 hz2 rfl (by decide) _ _ _ rfl (OW.out _) ⟨wc.heap.size, 0, none⟩ 1 1 [.int .i64 x] rfl rfl ?c1 ?c2 ?c3 ?c4 ?c5 ?_)
          case c2 => rfl
          case c3 => unfold maxLen; omega
          case c4 => omega
          case c5 => exact Nat.le_of_lt T6.out.lt
          intro v' w7 hown1 hg1 _ hat
          have T7 := Lib.hid (tb_append _ T6.out (HLN.out ▸ hown1) hg1 (by simpa using hat))
          clear hown1 hg1 hat c2
          go_wp2
          go_roundw
          case rel => exact ⟨k + 1, p', by omega, by go_num, by rw [HS.out]; simp [HLN.out]; omega, by rw [HS.out]; exact T7.out⟩
          case measure => simp [intOf]; omega
    · clear hr
      have T0 := Lib.hid tb
      have HLN := Lib.hid hn
      have HI := Lib.hid tb.own.hi
      clear tb hn
      go_wp2
      obtain ⟨wz, rfl⟩ : ∃ wz : World, wz = wr := ⟨_, rfl⟩
      have HT0 := Lib.hid (show T2 wz N p wz from ⟨T0.out.pok, T0.out.hB, Keeps.refl _ _⟩)
      go_loopw [9] (fun i wy => ∃ (j : Nat) (q : Bx), j ≤ n + 1 ∧ i = .int .i64 j ∧ (q.get who).l = L.drop j ∧ T2 wz N q wy) (fun i _ => n + 1 - (intOf i).toNat)
      case atStart => exact ⟨0, p, by omega, rfl, by rw [List.drop_zero]; exact hL, HT0.out⟩
      case round =>
        obtain ⟨j, q, hj, rfl, hq, t2⟩ := hrel
        have HQ := Lib.hid hq
        have hNy : N < wr.heap.size := t2.lt
        clear hq
        by_cases hjn : j ≤ n
        · obtain ⟨⟨n0, n1, n2, n3⟩, -⟩ := box4 (Below.refl (N + 1) wr) (by omega) t2.hB
          have TK := Lib.hid (fun (hu : 1 ≤ who ∧ who ≤ 4) => take_ts q who wr t2.qok hu)
          have TY := Lib.hid t2
          clear t2
          go_wp2_with fail
          refine (TK.out (by omega)).mono ?_
          rintro e w4 ⟨p', rfl, hp', hup, hb2⟩
          rw [HQ.out] at hup
          have HUP := Lib.hid hup
          have HP' := Lib.hid hp'
          have HB2 := Lib.hid hb2
          clear n0 n1 n2 n3 hup hp' hb2 TK
          obtain ⟨tk, htk⟩ : ∃ tk, takeN (q.get who).l = tk := ⟨_, rfl⟩
          rw [htk]
          have HTK := Lib.hid (show takeN (L.drop j) = tk from by rw [← HQ.out]; exact htk)
          clear htk
          go_upto_region 20 with fail
          obtain ⟨w5, hw5⟩ : ∃ w5, w5 = w4.alloc (.cells p'.cells 116) := ⟨_, rfl⟩
          have hw5' := hw5
          dsimp only [Bx.cells, Sl.v] at hw5
          rw [← hw5]
          clear hw5
          have TY5 := Lib.hid (show T2 wz N q w5 from by subst hw5'; exact (TY.out.over HB2.out).over (bal w4 _))
          have HP5 := Lib.hid (show p'.ok w5 from by subst hw5'; exact HP'.out.below (bal w4 _))
          have HC5 := Lib.hid (show w5.heap[w4.heap.size]? = some (.cells p'.cells 116 (0, 0)) from by subst hw5'; exact heap_alloc_new _ _)
          have hNC : N < w4.heap.size := Nat.lt_of_lt_of_le TY.out.lt HB2.out.size
          clear hw5' HP' HB2 TY
          obtain ⟨C, hC⟩ : ∃ C, w4.heap.size = C := ⟨_, rfl⟩
          rw [hC] at HC5 hNC
          rw [hC]
          clear hC
          go_cut [150] (fun v wx => v = .bool false ∧ wx = w5)
          case first =>
            by_cases hjn2 : j < n
            · obtain ⟨b', o', rfl, hb1, hb2, cl⟩ := HI.out j (by rw [HLN.out]; exact hjn2)
              have cl5 := (TY5.out.kp.cell (b := b') (o := o' + j) (by omega) hb2).trans cl
              have hz : L[j]'(by rw [HLN.out]; exact hjn2) = tk := by
                rw [← HTK.out, List.drop_eq_getElem_cons (by rw [HLN.out]; exact hjn2)]; rfl
              rw [hz] at cl5
              have q1 : ((j : Int) == (n : Int)) = false := by simp; omega
              clear cl hz
              go_wp2_with fail
              go_meet
              exact ⟨by simp, rfl⟩
            · obtain rfl : j = n := by omega
              have hz : tk = 0 := by
                rw [← HTK.out, List.drop_of_length_le (by rw [HLN.out]; exact Nat.le_refl _)]; rfl
              subst hz
              go_wp2_with fail
              go_meet
              exact ⟨by simp, rfl⟩
          case rest =>
            obtain ⟨wo, rfl⟩ : ∃ wo : World, wo = wr := ⟨_, rfl⟩
            obtain ⟨rfl, rfl⟩ := hcut
            go_wp2_with fail
            go_loopw [12] (fun i wy => ∃ k : Nat, k ≤ 4 ∧ i = .int .i64 k ∧ Below wc.heap.size wc wy) (fun i _ => 4 - (intOf i).toNat)
            case atStart => exact ⟨0, by omega, rfl, Below.refl _ _⟩
            case round =>
              obtain ⟨k, hk, rfl, hby⟩ := hrel
              have T2r := Lib.hid (TY5.out.over hby)
              have hCr : C < wr.heap.size := Nat.lt_of_lt_of_le (Array.getElem?_eq_some_iff.1 HC5.out).1 hby.size
              have HCr := Lib.hid ((hby.block _ (Array.getElem?_eq_some_iff.1 HC5.out).1).trans HC5.out)
              by_cases hk4 : k < 4
              · have k0 := (cells_at HCr.out (Bx.cells_get p' k hk4)).1
                have k1 := (cells_at T2r.out.hB (Bx.cells_get q k hk4)).1
                have hNr : N < wr.heap.size := T2r.out.lt
                have HBY := Lib.hid hby
                have q5 : IntKind.i64.wrap (who - 1) = who - 1 := by rw [IntWalk.i64_in _ (by omega)]
                clear hby
                by_cases hkw : (k : Int) = who - 1
                · have hb : ((k : Int) != who - 1) = false := by simp [hkw]
                  clear hkw
                  go_wp2
                  go_quiet (fail)
                  go_wp2
                  go_roundw
                  case rel => exact ⟨k + 1, by omega, by go_num, below_drewN HBY.out _⟩
                  case measure => simp [intOf]; omega
                · have hb : ((k : Int) != who - 1) = true := by simp [hkw]
                  have SN := Lib.hid (fun m => sn_quiet _ _ wr m ((HP5.out.below HBY.out).get (k + 1)) (T2r.out.qok.get (k + 1)) (by rw [HUP.out (k + 1) (by omega) (by omega), if_neg (by omega)]))
                  clear hkw
                  go_wp2
                  go_quiet ((go_at_call 36; with_reducible exact SN.out _))
                  go_wp2
                  go_roundw
                  case rel => exact ⟨k + 1, by omega, by go_num, below_drewN HBY.out _⟩
                  case measure => simp [intOf]; omega
              · obtain ⟨⟨r0, r1, r2, r3⟩, -⟩ := box4 (Below.refl (C + 1) wr) (by omega) HCr.out
                obtain ⟨⟨p0, p1, p2, p3⟩, s0, s1, s2, s3⟩ := box4 (Below.refl (N + 1) wr) (by omega) T2r.out.hB
                have T3 := Lib.hid (t2_store T2r.out (HP5.out.below hby))
                have HD := Lib.hid (show (p'.get who).l = L.drop (j + 1) from by rw [HUP.out who (by omega) (by omega), if_pos rfl, List.tail_drop])
                clear hby
                go_wp2
                go_roundw
                case rel => exact ⟨j + 1, p', by omega, by go_num, HD.out, T3.out⟩
                case measure => simp [intOf]; omega
        · have T9 := Lib.hid t2
          clear t2
          go_wp2
          go_ret
          exact ⟨rfl, T0.out.below.trans (T9.out.kp.below T0.out.below.size (fun m hm => by have := T0.out.lo; omega))⟩
end Go.Proofs.Ytclhmpknkinjcaa
