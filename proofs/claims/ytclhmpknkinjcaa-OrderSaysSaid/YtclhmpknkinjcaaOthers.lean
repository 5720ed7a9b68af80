/-
  Contracts: hold.Others and the document's Others.
-/
import Derived.Test.YtclhmpknkinjcaaSame
import Derived.Test.YtclhmpknkinjcaaDelPlain
namespace Go.Proofs.Ytclhmpknkinjcaa
open Go.RowKit

/-- a slice value that owns a list of integers, in blocks from B on -/
def OwnI (B : Nat) (w : World) (v : Value) (l : List Int) : Prop := w.ownsRow B 3 1 v l.length (l.map (Value.int .i64))

theorem Try.infoInt : (Try.prog.info? 3).map (fun i => (i.zero, i.size, i.bytes)) = some (some (.int .i64 0), 1, 8) := by kernel_rfl

theorem OwnI.shape {B : Nat} {w : World} {v : Value} {l : List Int} (h : OwnI B w v l) : ∃ a cap, v = .slice a l.length cap ∧ Ints w.heap.size w a l := by
  obtain ⟨h1, h2⟩ := h
  rcases h2 with ⟨rfl, hn⟩ | ⟨g, cap, cur, rfl, hg, hh, hc, hm, hs, ht⟩
  · have : l = [] := List.length_eq_zero_iff.1 hn
    subst this
    exact ⟨none, 0, rfl, Ints.nil _ _ _⟩
  · refine ⟨_, cap, rfl, fun i hi => ?_⟩
    have hlt : g < w.heap.size := (Array.getElem?_eq_some_iff.1 hh).1
    refine ⟨g, 0, rfl, hlt, ?_⟩
    have hcell : w.cell? ⟨g, 0 + i, none⟩ = (l.map (Value.int .i64))[i]? := by
      rw [← ht, List.getElem?_take_of_lt (by omega)]
      simp [World.cell?, hh]
    rw [hcell]; simp [hi]

theorem OwnI.mono {B C : Nat} {w : World} {v : Value} {l : List Int} (h : OwnI C w v l) (hB : B ≤ C) : OwnI B w v l := by
  obtain ⟨h1, h2⟩ := h
  refine ⟨h1, ?_⟩
  rcases h2 with h2 | ⟨g, cap, cur, e1, e2, e3⟩
  · exact .inl h2
  · exact .inr ⟨g, cap, cur, e1, by omega, e3⟩

theorem OwnI.blk {B : Nat} {w : World} {v : Value} {l : List Int} (h : OwnI B w v l) : ∀ k, v.ownBlock = some k → B ≤ k := by
  obtain ⟨_, h2⟩ := h
  rcases h2 with ⟨rfl, _⟩ | ⟨g, cap, cur, rfl, hg, _⟩
  · intro k hk; cases hk
  · intro k hk; simp [Value.ownBlock] at hk; omega

theorem OwnI.below {B : Nat} {w w' : World} {v : Value} {l : List Int} (h : OwnI B w v l) (hb : Below w.heap.size w w') : OwnI B w' v l := by
  obtain ⟨h1, h2⟩ := h
  refine ⟨h1, ?_⟩
  rcases h2 with h2 | ⟨g, cap, cur, e1, e2, e3, e4⟩
  · exact .inl h2
  · exact .inr ⟨g, cap, cur, e1, e2, by rw [hb.block g ((Array.getElem?_eq_some_iff.1 e3).1)]; exact e3, e4⟩

def othersL (who : Int) (l : List (Int × Int)) : List Int := (without who l).map (·.1)

theorem others_hit (who : Int) (l : List (Int × Int)) (k : Nat) (h : k < l.length) (e : l[k].1 = who) : othersL who (l.take (k + 1)) = othersL who (l.take k) := by
  unfold othersL; rw [without_snoc_hit who l k h e]
theorem others_miss (who : Int) (l : List (Int × Int)) (k : Nat) (h : k < l.length) (e : l[k].1 ≠ who) : othersL who (l.take (k + 1)) = othersL who (l.take k) ++ [l[k].1] := by
  unfold othersL; rw [without_snoc_miss who l k h e]; simp
theorem others_len (who : Int) (l : List (Int × Int)) (k : Nat) : (othersL who (l.take k)).length ≤ k := by
  unfold othersL without
  rw [List.length_map]
  exact Nat.le_trans (List.length_filter_le _ _) (by simp; omega)

set_option maxHeartbeats 1000000 in
theorem others_any (s : St) (a : Option Addr) (cap : Nat) (who : Int) (w : World) (hr : StR w s a) (hl : s.regs.length ≤ 100) :
    Calls Try.prog 93 #[stV s a cap, .int .i64 who] w fun e w' => ∃ v, e = .returned v ∧ OwnI w.heap.size w' v (othersL who s.regs) ∧ Below w.heap.size w w' := by
  obtain ⟨g, l, t, h, st⟩ := s
  obtain ⟨_, hr⟩ := hr
  dsimp only at hl hr
  obtain ⟨i0, hi, hz0, hz1, hz2⟩ := info_parts Try.infoInt
  go_enter Try.func93, Try.ntmps93
  go_wp2
  go_loopw [5, 11] (fun v i wr => ∃ k : Nat, k ≤ l.length ∧ i = .int .i64 k ∧ OwnI (w.heap.size + 1) wr v (othersL who (l.take k)) ∧ Below (w.heap.size + 1) (w.alloc (.cells #[.int .i64 g, .slice a l.length cap, .int .i64 t, .int .i64 h, .bool st] 47)) wr) (fun _ i _ => l.length - (intOf i).toNat)
  case atStart => exact ⟨0, by omega, rfl, ⟨rfl, .inl ⟨rfl, rfl⟩⟩, Below.refl _ _⟩
  case round =>
    obtain ⟨k, hk, rfl, hown, hb⟩ := hrel
    have HOWN := Lib.hid hown
    have HBLK := Lib.hid hown.blk
    clear hown
    have hs := bsz hb
    have hol := others_len who l k
    by_cases hlt : k < l.length
    · obtain ⟨b, o, rfl, hbs, h1, h2⟩ := hr k hlt
      have c1 := ((bover hb (by omega)).cell (p := ⟨b, o + k * 2, none⟩) hbs).trans h1
      have c2 := ((bover hb (by omega)).cell (p := ⟨b, o + k * 2 + 1, none⟩) hbs).trans h2
      clear hr h1 h2
      rcases (by omega : l[k].1 = who ∨ l[k].1 ≠ who) with he | he
      · have heb : (l[k].1 != who) = false := by simp [he]
        have HE := Lib.hid (others_hit who l k hlt he)
        clear he
        go_wp2
        go_roundw
        case rel => exact ⟨k + 1, by omega, by go_num, by rw [HE.out]; exact HOWN.out.alloc _, hb.alloc (by omega) _⟩
        case measure => simp [intOf]; omega
      · have heb : (l[k].1 != who) = true := by simp [he]
        have HE := Lib.hid (others_miss who l k hlt he)
        clear he
        go_wp2_with (at_builtin; refine wpList_append_own _ rfl _ _ 71 rfl (w.heap.size + 1) 3 i0 (.int .i64 0) 1 8 Try.underlying71 hi hz0 hz1 hz2 rfl (by decide) _ _ _ rfl ((HOWN.out.alloc _).alloc _) ⟨wr.heap.size + 1, 0, none⟩ 1 1 [.int .i64 l[k].1] rfl rfl ?c1 ?c2 ?c3 ?c4 ?c5 ?_)
        case c1 =>
          intro j u hj
          match j, hj with
          | 0, hj => simp at hj; subst hj; simp [Addr.add]
        case c2 => intro u hu; simp at hu; subst hu; rfl
        case c3 => unfold maxLen; omega
        case c4 => omega
        case c5 => simp; omega
        intro v' w1 hown1 hg1 _
        have hb1 : Below (w.heap.size + 1) (w.alloc (.cells #[.int .i64 g, .slice (some ⟨b, o, none⟩) l.length cap, .int .i64 t, .int .i64 h, .bool st] 47)) w1 := ((hb.alloc (by omega) _).alloc (by simp; omega) _).grown hg1 (by simp; omega) HBLK.out
        have HO1 := Lib.hid hown1
        clear hown1 hg1
        go_wp2
        go_roundw
        case rel => exact ⟨k + 1, by omega, by go_num, by rw [HE.out]; simpa [OwnI] using HO1.out, hb1⟩
        case measure => simp [intOf]; omega
    · go_wp2
      go_ret
      exact ⟨_, rfl, by rw [← List.take_of_length_le (show l.length ≤ k by omega)]; exact HOWN.out.mono (by omega), bover hb (by omega)⟩
set_option maxHeartbeats 1000000 in
set_option maxRecDepth 100000 in
theorem rothers_any (s : St) (a : Option Addr) (cap : Nat) (who : Int) (w : World) (hr : StR w s a) (hl : s.regs.length ≤ 100) :
    Calls Try.prog 100 #[stV s a cap, .int .i64 who] w fun e w' => ∃ v, e = .returned v ∧ OwnI w.heap.size w' v (othersL who s.regs) ∧ Below w.heap.size w w' := by
  obtain ⟨g, l, t, h, st⟩ := s
  obtain ⟨_, hr⟩ := hr
  dsimp only at hl hr
  obtain ⟨i0, hi, hz0, hz1, hz2⟩ := info_parts Try.infoInt
  go_enter Try.func100, Try.ntmps100
  go_wp2
  go_loopw [5, 6] (fun v i wr => ∃ k : Nat, k ≤ l.length ∧ i = .int .i64 k ∧ OwnI (w.heap.size + 1) wr v (othersL who (l.take k)) ∧ Below (w.heap.size + 1) (w.alloc (.cells #[.int .i64 g, .slice a l.length cap, .int .i64 t, .int .i64 h, .bool st] 47)) wr) (fun _ i _ => l.length - (intOf i).toNat)
  case atStart => exact ⟨0, by omega, rfl, ⟨rfl, .inl ⟨rfl, rfl⟩⟩, Below.refl _ _⟩
  case round =>
    obtain ⟨k, hk, rfl, hown, hb⟩ := hrel
    have HOWN := Lib.hid hown
    have HBLK := Lib.hid hown.blk
    clear hown
    have hs := bsz hb
    obtain ⟨⟨e0, e1, e2, e3, e4⟩, f0, f1, f2, f3, f4⟩ := box5 hb (b := w.heap.size) (by omega) (heap_alloc_new _ _)
    have hol := others_len who l k
    by_cases hlt : k < l.length
    · obtain ⟨b, o, rfl, hbs, h1, h2⟩ := hr k hlt
      have c1 := ((bover hb (by omega)).cell (p := ⟨b, o + k * 2, none⟩) hbs).trans h1
      have c2 := ((bover hb (by omega)).cell (p := ⟨b, o + k * 2 + 1, none⟩) hbs).trans h2
      clear hr h1 h2
      rcases (by omega : l[k].1 = who ∨ l[k].1 ≠ who) with he | he
      · have heb : (l[k].1 != who) = false := by simp [he]
        have HE := Lib.hid (others_hit who l k hlt he)
        clear he
        go_wp2
        go_roundw
        case rel => exact ⟨k + 1, by omega, by go_num, by rw [HE.out]; exact HOWN.out, hb⟩
        case measure => simp [intOf]; omega
      · have heb : (l[k].1 != who) = true := by simp [he]
        have HE := Lib.hid (others_miss who l k hlt he)
        clear he
        go_wp2_with (at_builtin; refine wpList_append_own _ rfl _ _ 71 rfl (w.heap.size + 1) 3 i0 (.int .i64 0) 1 8 Try.underlying71 hi hz0 hz1 hz2 rfl (by decide) _ _ _ rfl (HOWN.out.alloc _) ⟨wr.heap.size, 0, none⟩ 1 1 [.int .i64 l[k].1] rfl rfl ?c1 ?c2 ?c3 ?c4 ?c5 ?_)
        case c1 =>
          intro j u hj
          match j, hj with
          | 0, hj => simp at hj; subst hj; simp [Addr.add]
        case c2 => intro u hu; simp at hu; subst hu; rfl
        case c3 => unfold maxLen; omega
        case c4 => omega
        case c5 => simp; omega
        intro v' w1 hown1 hg1 _
        have hb1 : Below (w.heap.size + 1) (w.alloc (.cells #[.int .i64 g, .slice (some ⟨b, o, none⟩) l.length cap, .int .i64 t, .int .i64 h, .bool st] 47)) w1 := (hb.alloc (by omega) _).grown hg1 (by simp; omega) HBLK.out
        have HO1 := Lib.hid hown1
        clear hown1 hg1
        go_wp2
        go_roundw
        case rel => exact ⟨k + 1, by omega, by go_num, by rw [HE.out]; simpa [OwnI] using HO1.out, hb1⟩
        case measure => simp [intOf]; omega
    · go_wp2
      go_ret
      exact ⟨_, rfl, by rw [← List.take_of_length_le (show l.length ≤ k by omega)]; exact HOWN.out.mono (by omega), bover hb (by omega)⟩
end Go.Proofs.Ytclhmpknkinjcaa
