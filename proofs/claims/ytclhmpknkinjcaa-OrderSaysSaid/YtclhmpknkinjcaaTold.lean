/-
  Contracts: order.told and the document's tellAll; order.free, freed, taken.
-/
import Derived.Test.YtclhmpknkinjcaaOrdPlain
namespace Go.Proofs.Ytclhmpknkinjcaa
open Go.RowKit

/-- a slice value that owns a list of tells, in blocks from B on -/
def OwnT (B : Nat) (w : World) (v : Value) (l : List (Int × Int)) : Prop := w.ownsRow B 121 2 v l.length (pcells l)

theorem Try.infoTell : (Try.prog.info? 121).map (fun i => (i.zero, i.size, i.bytes)) = some (some (.agg #[.int .i64 0, .int .i64 0]), 2, 16) := by kernel_rfl

theorem OwnT.shape {B : Nat} {w : World} {v : Value} {l : List (Int × Int)} (h : OwnT B w v l) : ∃ a cap, v = .slice a l.length cap ∧ Pairs w.heap.size w a l := by
  obtain ⟨h1, h2⟩ := h
  rcases h2 with ⟨rfl, hn⟩ | ⟨g, cap, cur, rfl, hg, hh, hc, hm, hs, ht⟩
  · have : l = [] := List.length_eq_zero_iff.1 hn
    subst this
    exact ⟨none, 0, rfl, Pairs.nil _ _ _⟩
  · refine ⟨_, cap, rfl, fun i hi => ?_⟩
    have hlt : g < w.heap.size := (Array.getElem?_eq_some_iff.1 hh).1
    obtain ⟨p1, p2⟩ := pcells_at l i hi
    have hcell : ∀ j, j < l.length * 2 → w.cell? ⟨g, 0 + j, none⟩ = (pcells l)[j]? := by
      intro j hj
      rw [← ht, List.getElem?_take_of_lt hj]
      simp [World.cell?, hh]
    exact ⟨g, 0, rfl, hlt, (hcell _ (by omega)).trans p1, by rw [show 0 + i * 2 + 1 = 0 + (i * 2 + 1) from by omega]; exact (hcell _ (by omega)).trans p2⟩

theorem OwnT.mono {B C : Nat} {w : World} {v : Value} {l : List (Int × Int)} (h : OwnT C w v l) (hB : B ≤ C) : OwnT B w v l := by
  obtain ⟨h1, h2⟩ := h
  refine ⟨h1, ?_⟩
  rcases h2 with h2 | ⟨g, cap, cur, e1, e2, e3⟩
  · exact .inl h2
  · exact .inr ⟨g, cap, cur, e1, by omega, e3⟩
theorem OwnT.blk {B : Nat} {w : World} {v : Value} {l : List (Int × Int)} (h : OwnT B w v l) : ∀ k, v.ownBlock = some k → B ≤ k := by
  obtain ⟨_, h2⟩ := h
  rcases h2 with ⟨rfl, _⟩ | ⟨g, cap, cur, rfl, hg, _⟩
  · intro k hk; cases hk
  · intro k hk; simp [Value.ownBlock] at hk; omega
theorem OwnT.below {B : Nat} {w w' : World} {v : Value} {l : List (Int × Int)} (h : OwnT B w v l) (hb : Below w.heap.size w w') : OwnT B w' v l := by
  obtain ⟨h1, h2⟩ := h
  refine ⟨h1, ?_⟩
  rcases h2 with h2 | ⟨g, cap, cur, e1, e2, e3, e4⟩
  · exact .inl h2
  · exact .inr ⟨g, cap, cur, e1, e2, by rw [hb.block g ((Array.getElem?_eq_some_iff.1 e3).1)]; exact e3, e4⟩

theorem told_snoc (l : List Int) (what : Int) (k : Nat) (h : k < l.length) : toldL (l.take (k + 1)) what = toldL (l.take k) what ++ [(l[k], what)] := by
  rw [List.take_succ_eq_append_getElem h]; unfold toldL; rw [List.map_append]; rfl

set_option maxHeartbeats 1000000 in
theorem told_any (l : List Int) (a : Option Addr) (cap : Nat) (what : Int) (w : World) (hl : l.length ≤ 100) (hr : Ints w.heap.size w a l) :
    Calls Try.prog 92 #[.slice a l.length cap, .int .i64 what] w fun e w' => ∃ v, e = .returned v ∧ OwnT w.heap.size w' v (toldL l what) ∧ Below w.heap.size w w' := by
  obtain ⟨i0, hi, hz0, hz1, hz2⟩ := info_parts Try.infoTell
  go_enter Try.func92, Try.ntmps92
  go_wp2
  go_loopw [5, 10] (fun v i wr => ∃ k : Nat, k ≤ l.length ∧ i = .int .i64 k ∧ OwnT w.heap.size wr v (toldL (l.take k) what) ∧ Below w.heap.size w wr) (fun _ i _ => l.length - (intOf i).toNat)
  case atStart => exact ⟨0, by omega, rfl, ⟨rfl, .inl ⟨rfl, rfl⟩⟩, Below.refl _ _⟩
  case round =>
    obtain ⟨k, hk, rfl, hown, hb⟩ := hrel
    have HOWN := Lib.hid hown
    have HBLK := Lib.hid hown.blk
    clear hown
    have hs := hb.size
    have hol : (toldL (l.take k) what).length ≤ k := by simp [toldL]; omega
    by_cases hlt : k < l.length
    · obtain ⟨b, o, rfl, hbs, h1⟩ := hr k hlt
      have c1 := (hb.cell (p := ⟨b, o + k, none⟩) hbs).trans h1
      have HE := Lib.hid (told_snoc l what k hlt)
      clear hr h1
      go_wp2_with (at_builtin; refine wpList_append_own _ rfl _ _ 102 rfl w.heap.size 121 i0 (.agg #[.int .i64 0, .int .i64 0]) 2 16 Try.underlying102 hi hz0 hz1 hz2 rfl (by decide) _ _ _ rfl (HOWN.out.alloc _) ⟨wr.heap.size, 0, none⟩ 1 1 [.int .i64 l[k], .int .i64 what] rfl rfl ?c1 ?c2 ?c3 ?c4 ?c5 ?_)
      case c1 =>
        intro j u hj
        match j, hj with
        | 0, hj => simp at hj; subst hj; simp [Addr.add]
        | 1, hj => simp at hj; subst hj; simp [Addr.add]
      case c2 => intro u hu; simp at hu; rcases hu with rfl | rfl <;> rfl
      case c3 => unfold maxLen; omega
      case c4 => omega
      case c5 => simp; omega
      intro v' w1 hown1 hg1 _
      have hb1 : Below w.heap.size w w1 := (hb.alloc (by omega) _).grown hg1 (by simp; omega) HBLK.out
      have HO1 := Lib.hid hown1
      clear hown1 hg1
      go_wp2
      go_roundw
      case rel => exact ⟨k + 1, by omega, by go_num, by rw [HE.out]; simpa [OwnT, pcells] using HO1.out, hb1⟩
      case measure => simp [intOf]; omega
    · go_wp2
      go_ret
      exact ⟨_, rfl, by rw [← List.take_of_length_le (show l.length ≤ k by omega)]; exact HOWN.out, hb⟩

set_option maxHeartbeats 1000000 in
theorem rtold_any (l : List Int) (a : Option Addr) (cap : Nat) (what : Int) (w : World) (hl : l.length ≤ 100) (hr : Ints w.heap.size w a l) :
    Calls Try.prog 99 #[.slice a l.length cap, .int .i64 what] w fun e w' => ∃ v, e = .returned v ∧ OwnT w.heap.size w' v (toldL l what) ∧ Below w.heap.size w w' := by
  obtain ⟨i0, hi, hz0, hz1, hz2⟩ := info_parts Try.infoTell
  go_enter Try.func99, Try.ntmps99
  go_wp2
  go_loopw [5, 6] (fun v i wr => ∃ k : Nat, k ≤ l.length ∧ i = .int .i64 k ∧ OwnT w.heap.size wr v (toldL (l.take k) what) ∧ Below w.heap.size w wr) (fun _ i _ => l.length - (intOf i).toNat)
  case atStart => exact ⟨0, by omega, rfl, ⟨rfl, .inl ⟨rfl, rfl⟩⟩, Below.refl _ _⟩
  case round =>
    obtain ⟨k, hk, rfl, hown, hb⟩ := hrel
    have HOWN := Lib.hid hown
    have HBLK := Lib.hid hown.blk
    clear hown
    have hs := hb.size
    have hol : (toldL (l.take k) what).length ≤ k := by simp [toldL]; omega
    by_cases hlt : k < l.length
    · obtain ⟨b, o, rfl, hbs, h1⟩ := hr k hlt
      have c1 := (hb.cell (p := ⟨b, o + k, none⟩) hbs).trans h1
      have HE := Lib.hid (told_snoc l what k hlt)
      clear hr h1
      go_wp2_with (at_builtin; refine wpList_append_own _ rfl _ _ 102 rfl w.heap.size 121 i0 (.agg #[.int .i64 0, .int .i64 0]) 2 16 Try.underlying102 hi hz0 hz1 hz2 rfl (by decide) _ _ _ rfl (HOWN.out.alloc _) ⟨wr.heap.size, 0, none⟩ 1 1 [.int .i64 l[k], .int .i64 what] rfl rfl ?c1 ?c2 ?c3 ?c4 ?c5 ?_)
      case c1 =>
        intro j u hj
        match j, hj with
        | 0, hj => simp at hj; subst hj; simp [Addr.add]
        | 1, hj => simp at hj; subst hj; simp [Addr.add]
      case c2 => intro u hu; simp at hu; rcases hu with rfl | rfl <;> rfl
      case c3 => unfold maxLen; omega
      case c4 => omega
      case c5 => simp; omega
      intro v' w1 hown1 hg1 _
      have hb1 : Below w.heap.size w w1 := (hb.alloc (by omega) _).grown hg1 (by simp; omega) HBLK.out
      have HO1 := Lib.hid hown1
      clear hown1 hg1
      go_wp2
      go_roundw
      case rel => exact ⟨k + 1, by omega, by go_num, by rw [HE.out]; simpa [OwnT, pcells] using HO1.out, hb1⟩
      case measure => simp [intOf]; omega
    · go_wp2
      go_ret
      exact ⟨_, rfl, by rw [← List.take_of_length_le (show l.length ≤ k by omega)]; exact HOWN.out, hb⟩

theorem free_any (g : Int) (l : List (Int × Int)) (t h : Int) (st : Bool) (a : Option Addr) (cap : Nat) (w : World) :
    Calls Try.prog 94 #[.agg #[.int .i64 g, .slice a l.length cap, .int .i64 t, .int .i64 h, .bool st]] w fun e w' => e = .returned (.agg #[.int .i64 g, .slice a l.length cap, .int .i64 0, .int .i64 0, .bool st]) ∧ Below w.heap.size w w' := by
  go_enter Try.func94, Try.ntmps94
  go_wp2
  exact bodyPost_ret (v := .agg #[.int .i64 g, .slice a l.length cap, .int .i64 0, .int .i64 0, .bool st]) (by simp [results, Try.results94, go_sem]) rfl ⟨rfl, (bal w _).alloc (by simp) _⟩
theorem freed_any (g : Int) (l : List (Int × Int)) (t h : Int) (st : Bool) (a : Option Addr) (cap : Nat) (w : World) :
    Calls Try.prog 98 #[.agg #[.int .i64 g, .slice a l.length cap, .int .i64 t, .int .i64 h, .bool st]] w fun e w' => e = .returned (.agg #[.int .i64 g, .slice a l.length cap, .int .i64 0, .int .i64 0, .bool st]) ∧ Below w.heap.size w w' := by
  go_enter Try.func98, Try.ntmps98
  go_wp2
  exact bodyPost_ret (v := .agg #[.int .i64 g, .slice a l.length cap, .int .i64 0, .int .i64 0, .bool st]) (by simp [results, Try.results98, go_sem]) rfl ⟨rfl, (bal w _).alloc (by simp) _⟩
theorem taken_any (g : Int) (l : List (Int × Int)) (t h : Int) (st : Bool) (a : Option Addr) (cap : Nat) (kind who : Int) (w : World) :
    Calls Try.prog 101 #[.agg #[.int .i64 g, .slice a l.length cap, .int .i64 t, .int .i64 h, .bool st], .int .i64 kind, .int .i64 who] w fun e w' => e = .returned (.agg #[.int .i64 g, .slice a l.length cap, .int .i64 kind, .int .i64 (if 7 ≤ kind then 0 else who), .bool st]) ∧ Below w.heap.size w w' := by
  by_cases hk : 7 ≤ kind
  · rw [if_pos hk]
    go_enter Try.func101, Try.ntmps101
    go_wp2
    exact bodyPost_ret (v := .agg #[.int .i64 g, .slice a l.length cap, .int .i64 kind, .int .i64 0, .bool st]) (by simp [results, Try.results101, go_sem]) rfl ⟨rfl, (bal w _).alloc (by simp) _⟩
  · rw [if_neg hk]
    go_enter Try.func101, Try.ntmps101
    go_wp2
    exact bodyPost_ret (v := .agg #[.int .i64 g, .slice a l.length cap, .int .i64 kind, .int .i64 who, .bool st]) (by simp [results, Try.results101, go_sem]) rfl ⟨rfl, (bal w _).alloc (by simp) _⟩
end Go.Proofs.Ytclhmpknkinjcaa
