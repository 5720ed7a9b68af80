/-
  Contracts: slices.Index and Contains at int, code.Type.
-/
import Derived.Test.YtamjmejkffhmeaaGreatDoorHold
namespace Go.Proofs.YtamjmejkffhmeaaGreatDoor
open Go.RowKit

/-- a slice of integers below block B -/
def Ints (B : Nat) (w : World) (a : Option Addr) (l : List Int) : Prop :=
  ∀ i (h : i < l.length), ∃ b o, a = some ⟨b, o, none⟩ ∧ b < B ∧ w.cell? ⟨b, o + i, none⟩ = some (.int .i64 l[i])

theorem Ints.below {B C : Nat} {w w' : World} {a : Option Addr} {l : List Int} (h : Ints B w a l) (hb : Below C w w') (hBC : B ≤ C) : Ints B w' a l := by
  intro i hi
  obtain ⟨b, o, rfl, hbB, h1⟩ := h i hi
  exact ⟨b, o, rfl, hbB, (hb.cell (p := ⟨b, o + i, none⟩) (by show b < C; omega)).trans h1⟩

theorem Ints.mono {B C : Nat} {w : World} {a : Option Addr} {l : List Int} (h : Ints B w a l) (hBC : B ≤ C) : Ints C w a l := by
  intro i hi
  obtain ⟨b, o, rfl, hbB, h1⟩ := h i hi
  exact ⟨b, o, rfl, by omega, h1⟩

theorem Ints.nil (B : Nat) (w : World) (a : Option Addr) : Ints B w a [] := fun i hi => absurd hi (by simp)

/-- the place of a number; below 0: it is not there -/
def placeOf (v : Int) : List Int → Int
  | [] => -1
  | x :: l => if x = v then 0 else if placeOf v l < 0 then -1 else placeOf v l + 1

theorem placeOf_none (v : Int) : ∀ l : List Int, v ∉ l → placeOf v l = -1
  | [], _ => rfl
  | x :: l, h => by
    simp at h
    unfold placeOf
    rw [if_neg (fun e => h.1 e.symm), placeOf_none v l h.2, if_pos (by omega)]
theorem placeOf_at (v : Int) : ∀ (l : List Int) (k : Nat) (h : k < l.length), l[k] = v → (∀ j (hj : j < k), l[j] ≠ v) → placeOf v l = k
  | x :: l, 0, _, he, _ => by
    simp at he
    unfold placeOf; rw [if_pos he]; rfl
  | x :: l, k + 1, h, he, hn => by
    have h0 : x ≠ v := hn 0 (by omega)
    have ih := placeOf_at v l k (by simpa using h) (by simpa using he) (fun j hj => hn (j + 1) (by omega))
    unfold placeOf
    rw [if_neg h0, ih, if_neg (by omega)]; omega

theorem index_int (l : List Int) (a : Option Addr) (cap : Nat) (v : Int) (w : World) (hl : l.length ≤ maxLen) (hr : Ints w.heap.size w a l) :
    Calls Tryz.prog 75 #[.slice a l.length cap, .int .i64 v] w fun e w' => e = .returned (.int .i64 (placeOf v l)) ∧ w = w' := by
  unfold maxLen at hl
  go_enter Tryz.func75, Tryz.ntmps75
  go_wp2
  go_loop [8] (fun i => ∃ k : Nat, k ≤ l.length ∧ i = .int .i64 k ∧ ∀ j (_ : j < k) (hj : j < l.length), l[j] ≠ v) (fun i => l.length - (intOf i).toNat)
  case atStart => exact ⟨0, by omega, rfl, fun j h => absurd h (by omega)⟩
  case round =>
    obtain ⟨k, hk, rfl, hK⟩ := hrel
    have HK := Lib.hid hK; clear hK
    by_cases hlt : k < l.length
    · obtain ⟨b, o, rfl, hbs, h1⟩ := hr k hlt
      clear hr
      by_cases hv : v = l[k]
      · have hvb : (v == l[k]) = true := by simp [hv]
        have hp := placeOf_at v l k hlt hv.symm (fun j hj => HK.out j hj (by omega))
        have HP := Lib.hid hp
        clear hp hv
        go_wp2
        go_ret
        exact ⟨ret_int HP.out.symm, rfl⟩
      · have hvb : (v == l[k]) = false := by simp [hv]
        have hn : ∀ j (_ : j < k + 1) (hj : j < l.length), l[j] ≠ v := by
          intro j h1 h2
          by_cases e : j = k
          · subst e; exact fun e => hv e.symm
          · exact HK.out j (by omega) h2
        have HN := Lib.hid hn
        clear hn hv
        go_wp2
        go_round
        case rel => exact ⟨k + 1, by omega, by go_num, HN.out⟩
        case measure => simp [intOf]; omega
    · have hp : placeOf v l = -1 := placeOf_none v l (fun hm => by
        obtain ⟨j, hj, e⟩ := List.getElem_of_mem hm
        exact HK.out j (by omega) hj e)
      have HP := Lib.hid hp
      clear hp
      go_wp2
      go_ret
      exact ⟨ret_int HP.out.symm, rfl⟩

theorem contains_int (l : List Int) (a : Option Addr) (cap : Nat) (v : Int) (w : World) (hl : l.length ≤ maxLen) (hr : Ints w.heap.size w a l) :
    Calls Tryz.prog 48 #[.slice a l.length cap, .int .i64 v] w fun e w' => e = .returned (.bool (decide (0 ≤ placeOf v l))) ∧ w = w' := by
  go_enter Tryz.func48, Tryz.ntmps48
  go_wp2_with fail
  refine (index_int l a cap v w hl hr).mono ?_
  rintro e w1 ⟨rfl, rfl⟩
  go_wp2
  go_ret
  exact ⟨rfl, rfl⟩

theorem place_type (n : Int) : decide (0 ≤ placeOf n [1, 3, 5, 6, 7, 8]) = typeMay n := by
  have : placeOf n [1, 3, 5, 6, 7, 8] = if n = 1 then 0 else if n = 3 then 1 else if n = 5 then 2 else if n = 6 then 3 else if n = 7 then 4 else if n = 8 then 5 else -1 := by
    simp only [placeOf, eq_comm (b := n)]
    repeat' split
    all_goals omega
  rw [this]
  unfold typeMay
  rw [decide_eq_decide]
  repeat' split
  all_goals omega

theorem type_any (n : Int) (w : World) :
    Calls Tryz.prog 33 #[.int .i64 n] w fun e w' => e = .returned (.bool (typeMay n)) ∧ Below w.heap.size w w' := by
  rw [← place_type]
  go_enter Tryz.func33, Tryz.ntmps33
  go_wp2_with fail
  refine (contains_int [1, 3, 5, 6, 7, 8] _ 6 n _ (by simp [maxLen]) ?_).mono ?_
  · intro i hi
    refine ⟨w.heap.size, 0, rfl, by simp, ?_⟩
    match i, hi with
    | 0, _ => simp
    | 1, _ => simp
    | 2, _ => simp
    | 3, _ => simp
    | 4, _ => simp
    | 5, _ => simp
  rintro e w1 ⟨rfl, rfl⟩
  go_wp2
  go_ret
  exact ⟨rfl, bal w _⟩
end Go.Proofs.YtamjmejkffhmeaaGreatDoor
