/-
  Contracts of strings.SplitN (into five) and strings.Trim (of noughts).
-/
import Derived.Test.YtkedmlkbepjnfaaGreatDoorRpParse
namespace Go.Proofs.YtkedmlkbepjnfaaGreatDoor
open Go.RowKit Go.Lib

theorem splitB_n (s : ByteArray) (n : Nat) : Lib.splitB ⟨#[32]⟩ 0 n s = (splitK [32] 0 n s.data.toList).map bsB := by
  have h := Lib.splitB_data ⟨#[32]⟩ 0 n s
  have h2 : (splitK [32] 0 n s.data.toList).map bsB = ((Lib.splitB ⟨#[32]⟩ 0 n s).map (·.data.toList)).map bsB := by rw [h]
  rw [h2, List.map_map]
  have : (bsB ∘ fun x : ByteArray => x.data.toList) = id := by funext x; simp [bsB]
  rw [this, List.map_id]
theorem split5_any (s : Bs) (w : World) (t : Tabs w) (h4 : 4 ≤ s.length) (hs : s.length ≤ 1000) :
    Calls Tryz.prog 39 #[.string (bsB s), .string ⟨#[32]⟩, .int .i64 5] w fun e w' =>
      e = .returned (.slice (some ⟨w.heap.size, 0, none⟩) (splitK [32] 0 4 s).length 5) ∧ Below w.heap.size w w' ∧ w.heap.size < w'.heap.size ∧ ∀ i x, (splitK [32] 0 4 s)[i]? = some x → w'.cell? ⟨w.heap.size, i, none⟩ = some (.string (bsB x)) := by
  obtain ⟨m, hm⟩ := t.cell
  have h := Tryz.strings_SplitN (bsB s) ⟨#[32]⟩ 5 m w (by rw [bsB_size]; omega) hm (by decide) (by decide) (by decide)
  rw [splitB_n, bsB_size, show min 5 (s.length + 1) = 5 by omega, bsB_list] at h
  refine h.mono fun e w' ⟨he, hw⟩ => ⟨by rw [he, List.length_map], hw ▸ bal w _, by rw [hw]; simp, fun i x hx => ?_⟩
  rw [hw]
  have hh := heap_alloc_new w (.cells (Lib.cellsOf ((splitK [32] 0 4 s).map bsB) 5) 9)
  simp only [World.cell?, hh]
  have hi := (List.getElem?_eq_some_iff.1 hx).1
  unfold Lib.cellsOf
  rw [List.getElem?_toArray, List.getElem?_append_left (by simpa using hi), List.map_map, List.getElem?_map, hx]
  rfl
theorem trim0_any (x : Bs) (w : World) (hs : x.length ≤ 1000) (h0 : ∀ b ∈ x, b = 0) :
    Calls Tryz.prog 42 #[.string (bsB x), .string ⟨#[0]⟩] w fun e w' => e = .returned (.string ⟨#[]⟩) ∧ Below w.heap.size w w' := by
  refine (Tryz.strings_Trim_one (bsB x) 0 (by decide) w (by rw [bsB_size]; omega)).mono fun e w' ⟨he, hw⟩ => ⟨?_, ?_⟩
  · rw [he, bsB_list]
    unfold Lib.trimB
    rw [Lib.trimRightB_take x 0 0 (by omega) (fun j b _ hb => h0 b (List.mem_of_getElem? hb)) (fun b h _ => absurd h (by omega)), List.take_zero]
    rfl
  · rcases hw with rfl | rfl
    · exact Below.refl _ _
    · exact (Below.refl _ _).drew
/-- a word as a number that is not below nought -/
theorem atoiP_any (n : Int) (w : World) (t : Tabs w) (h0 : 0 ≤ n) (h1 : n ≤ 9223372036854775807) :
    Calls Tryz.prog 40 #[.string (bsB (itoa n))] w fun e w' => e = .returned (.tuple #[.int .i64 n, .nilIface]) ∧ Below w.heap.size w w' := by
  refine (atoi_any (bsB (itoa n)) w t (by rw [bsB_size]; have := itoa_len_any n (by omega) h1; omega)).mono ?_
  rintro e w' (⟨v, hv, he, hb⟩ | ⟨hv, -⟩)
  · rw [bsB_list, atoiAll_itoa n (by omega) h1] at hv
    injection hv with hv
    subst hv
    exact ⟨he, hb⟩
  · exact absurd (by rw [bsB_list]; exact atoiAll_itoa n (by omega) h1) (hv n)
end Go.Proofs.YtkedmlkbepjnfaaGreatDoor
