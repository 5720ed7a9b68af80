/-
  Tables and variables of Go's library that are read; contracts of its functions on texts.
-/
import Derived.Test.YtamjmejkffhmeaaGreatDoorText
import Derived.Test.YtamjmejkffhmeaaGreatDoorRep
import Derived.Test.YtamjmejkffhmeaaGreatDoorShelf
import Derived.WalkSmall
import Derived.Lib.AppendIntMem
import Derived.Lib.AtoiErrMem
namespace Go.Proofs.YtamjmejkffhmeaaGreatDoor
open Go.RowKit Go.Lib

/-- what the library's variables hold -/
structure Tabs (w : World) : Prop where
  pow : Lib.TabIs Tryz.prog w "internal/strconv.uint64pow10" .u64 Lib.pow10Tab
  mx : ∃ m, w.var? Tryz.prog "internal/bytealg.MaxLen" = some #[.int .i64 m]
  syn : ∃ tp p, w.var? Tryz.prog "strconv.ErrSyntax" = some #[.iface tp p]
  ran : ∃ tp p, w.var? Tryz.prog "strconv.ErrRange" = some #[.iface tp p]
  low : 8 ≤ w.heap.size
theorem g_pow : Tryz.prog.globalNamed "internal/strconv.uint64pow10" = some 3 := by kernel_rfl
theorem g_mx : Tryz.prog.globalNamed "internal/bytealg.MaxLen" = some 0 := by kernel_rfl
theorem g_syn : Tryz.prog.globalNamed "strconv.ErrSyntax" = some 1 := by kernel_rfl
theorem g_ran : Tryz.prog.globalNamed "strconv.ErrRange" = some 2 := by kernel_rfl
theorem Tabs.below {w w' : World} {n : Nat} (t : Tabs w) (h : Below n w w') (hn : 8 ≤ n) (hs : w.heap.size ≤ w'.heap.size) : Tabs w' := by
  obtain ⟨p, ⟨m, hm⟩, ⟨ts, ps, hs'⟩, ⟨tr, pr, hr⟩, l⟩ := t
  exact ⟨var?_below h g_pow (by omega) p, ⟨m, var?_below h g_mx (by omega) hm⟩, ⟨ts, ps, var?_below h g_syn (by omega) hs'⟩, ⟨tr, pr, var?_below h g_ran (by omega) hr⟩, by omega⟩
theorem Tabs.on {w w' : World} (t : Tabs w) (h : Below w.heap.size w w') : Tabs w' := t.below h t.low h.size
theorem Tabs.up {w w' : World} {n : Nat} (t : Tabs w) (h : Below n w w') (hn : 8 ≤ n) : Tabs w' := t.below h hn h.size
theorem Tabs.cell {w : World} (t : Tabs w) : ∃ m, w.cell? ⟨0, 0, none⟩ = some (.int .i64 m) := by
  obtain ⟨m, hm⟩ := t.mx
  exact ⟨m, by simpa using World.var?_cell g_mx hm 0⟩

theorem below_grownW (w : World) (k : Nat) (os : Array Obj) : Below w.heap.size w (Go.Sort.grow (w.drewN k) os) :=
  Lib.below_grow _ w (Nat.le_refl _) k os

theorem itoa_any (n : Int) (w : World) (t : Tabs w) (h0 : -9223372036854775808 ≤ n) (h1 : n ≤ 9223372036854775807) :
    Calls Tryz.prog 24 #[.int .i64 n] w fun e w' => e = .returned (.string (bsB (Lib.itoa n))) ∧ Below w.heap.size w w' :=
  (Tryz.strconv_Itoa n h0 h1 w t.pow).mono fun _ _ ⟨he, k, os, hw⟩ => ⟨he, hw ▸ below_grownW w k os⟩
theorem join_any (bk o c : Nat) (xs : List Bs) (w : World) (hcells : ∀ (j : Nat) x, xs[j]? = some x → w.cell? ⟨bk, o + j, none⟩ = some (.string (bsB x))) (hbk : bk < w.heap.size) (hcap : xs.length ≤ c) (hN : xs.length ≤ 1000) (hlen : (Lib.join xs [32]).length ≤ 140737488355328) :
    Calls Tryz.prog 25 #[.slice (some ⟨bk, o, none⟩) xs.length c, .string ⟨#[32]⟩] w fun e w' => e = .returned (.string (bsB (Lib.join xs [32]))) ∧ Below w.heap.size w w' := by
  have em : (xs.map bsB).map (·.data.toList) = xs := by simp [bsB, Function.comp_def]
  have := Tryz.strings_Join bk o c (xs.map bsB) ⟨#[32]⟩ w (fun j x hx => by
    rw [List.getElem?_map] at hx
    obtain ⟨y, hy, rfl⟩ := Option.map_eq_some_iff.1 hx
    exact hcells j y hy) hbk (by rw [List.length_map]; omega) (by rw [List.length_map]; exact hcap) (by rw [em]; exact hlen)
  rw [List.length_map, em] at this
  exact this
theorem splitB_words (s : ByteArray) : Lib.splitB ⟨#[32]⟩ 0 (Lib.countB s ⟨#[32]⟩) s = (splitK [32] 0 (count s.data.toList [32]) s.data.toList).map bsB := by
  have h := Lib.splitB_data ⟨#[32]⟩ 0 (Lib.countB s ⟨#[32]⟩) s
  have e : Lib.countB s ⟨#[32]⟩ = count s.data.toList [32] := rfl
  rw [e] at h ⊢
  have h2 : (splitK [32] 0 (count s.data.toList [32]) s.data.toList).map bsB = ((Lib.splitB ⟨#[32]⟩ 0 (count s.data.toList [32]) s).map (·.data.toList)).map bsB := by rw [h]
  rw [h2, List.map_map]
  have : (bsB ∘ fun x : ByteArray => x.data.toList) = id := by funext x; simp [bsB]
  rw [this, List.map_id]
/-- the words of a text -/
def wordsL (t : Bs) : List Bs := splitK [32] 0 (count t [32]) t
theorem wordsL_len (s : ByteArray) : (wordsL s.data.toList).length = Lib.countB s ⟨#[32]⟩ + 1 := by
  have := Lib.splitB_all ⟨#[32]⟩ (by decide) 0 _ s rfl
  rw [splitB_words, List.length_map] at this
  exact this
theorem split_any (s : ByteArray) (w : World) (t : Tabs w) (hs : s.size < 4294967281) :
    Calls Tryz.prog 16 #[.string s, .string ⟨#[32]⟩] w fun e w' => e = .returned (.slice (some ⟨w.heap.size, 0, none⟩) (wordsL s.data.toList).length (wordsL s.data.toList).length) ∧ w' = w.alloc (.cells ((wordsL s.data.toList).map fun x => Value.string (bsB x)).toArray 9) := by
  obtain ⟨m, hm⟩ := t.cell
  have := Tryz.strings_Split s ⟨#[32]⟩ m w hs hm (by decide)
  rw [splitB_words, List.map_map, ← wordsL_len] at this
  exact this
theorem cut_any (s : ByteArray) (w : World) (t : Tabs w) (hs : s.size < 4294967281) :
    Calls Tryz.prog 18 #[.string s, .string ⟨#[58]⟩] w fun e w' => e = .returned (.tuple #[.string (bsB (Lib.cut s.data.toList [58]).1), .string (bsB (Lib.cut s.data.toList [58]).2.1), .bool (Lib.cut s.data.toList [58]).2.2]) ∧ Below w.heap.size w w' := by
  obtain ⟨m, hm⟩ := t.cell
  exact (Tryz.strings_Cut s ⟨#[58]⟩ m w hs hm).mono fun _ _ ⟨he, n, hw⟩ => ⟨he, hw ▸ Go.below_drewN (Below.refl _ _) n⟩

/-- strconv.Atoi, in the words of 'numP': a number and no error, or an error -/
theorem atoi_any (s : ByteArray) (w : World) (t : Tabs w) (hs : s.size ≤ 281474976710656) :
    Calls Tryz.prog 31 #[.string s] w fun e w' => (∃ v, atoiAll s.data.toList = .ok v ∧ e = .returned (.tuple #[.int .i64 v, .nilIface]) ∧ Below w.heap.size w w') ∨
      ((∀ v, atoiAll s.data.toList ≠ .ok v) ∧ ∃ x T p, e = .returned (.tuple #[.int .i64 x, .iface T p]) ∧ Below w.heap.size w w') := by
  rcases h : atoiAll s.data.toList with v | _ | _
  · refine (Tryz.strconv_Atoi_ok s (by omega) v h w).mono fun _ _ ⟨he, hw⟩ => .inl ⟨v, rfl, he, ?_⟩
    rcases hw with rfl | ⟨t, rfl⟩
    · exact Below.refl _ _
    · exact Lib.bytesWorld_below w _ _
  · obtain ⟨tp, p, hv⟩ := t.syn
    exact (Tryz.strconv_Atoi_syntax_var s hs h tp p w hv).mono fun _ _ ⟨N, he, _, _, hb⟩ => .inr ⟨(fun _ e => by cases e), _, _, _, he, hb⟩
  · obtain ⟨tp, p, hv⟩ := t.ran
    exact (Tryz.strconv_Atoi_range_var s hs h tp p w hv).mono fun _ _ ⟨N, he, _, _, hb⟩ => .inr ⟨(fun _ e => by cases e), _, _, _, he, hb⟩
end Go.Proofs.YtamjmejkffhmeaaGreatDoor
