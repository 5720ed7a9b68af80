/-
  The plain law of texts: a state's text, its words, and how they are read again. No program in sight.
-/
import Derived.Test.YtamjmejkffhmeaaGreatDoorModel
import Derived.Lib.SplitLaws
import Derived.Lib.AtoiAllCases
import Derived.Lib.ItoaNum
import Derived.Lib.Join
namespace Go.Proofs.YtamjmejkffhmeaaGreatDoor
open Go.Lib

abbrev Bs := List UInt8

def stayW (b : Bool) : Bs := if b then [115, 116, 97, 121, 115] else [103, 111, 101, 115]
def regW (r : Int × Int) : Bs := itoa r.1 ++ 58 :: itoa r.2
def stWords (s : St) : List Bs := itoa s.gen :: itoa s.typ :: itoa s.holder :: stayW s.stays :: s.regs.map regW
def stText (s : St) : Bs := Lib.join (stWords s) [32]

def bsB (l : Bs) : ByteArray := ⟨l.toArray⟩
theorem bsB_size (l : Bs) : (bsB l).size = l.length := by simp [bsB, ByteArray.size]
theorem bsB_inj {l m : Bs} (h : bsB l = bsB m) : l = m := by
  unfold bsB at h
  injection h with h
  simpa using h
theorem bsB_append (l m : Bs) : bsB l ++ bsB m = bsB (l ++ m) := by
  apply ByteArray.ext
  simp [bsB]

/-! ### digits -/
theorem digit_byte (d : Nat) (h : d < 10) : (UInt8.ofNat (48 + d)).toNat = 48 + d := by
  have : 48 + d < 256 := by omega
  simp [Nat.mod_eq_of_lt this]

theorem decDigits_mem (u : Nat) : ∀ b ∈ decDigits u, 48 ≤ b.toNat ∧ b.toNat ≤ 57 := by
  induction u using Nat.strongRecOn with
  | _ u ih =>
    intro b hb
    rw [decDigits] at hb
    split at hb
    · rename_i h
      simp only [List.mem_singleton] at hb
      subst hb
      rw [digit_byte u h]; omega
    · rename_i h
      rcases List.mem_append.1 hb with hb | hb
      · exact ih (u / 10) (by omega) b hb
      · simp only [List.mem_singleton] at hb
        subst hb
        rw [digit_byte _ (by omega)]; omega

theorem decDigits_ne (u : Nat) : decDigits u ≠ [] := by
  rw [decDigits]
  split <;> simp

theorem itoa_mem (n : Int) : ∀ b ∈ itoa n, b.toNat = 45 ∨ (48 ≤ b.toNat ∧ b.toNat ≤ 57) := by
  intro b hb
  unfold itoa at hb
  split at hb
  · rcases List.mem_cons.1 hb with rfl | hb
    · left; rfl
    · exact .inr (decDigits_mem _ b hb)
  · exact .inr (decDigits_mem _ b hb)

theorem itoa_ne (n : Int) : itoa n ≠ [] := by
  unfold itoa
  split
  · simp
  · exact decDigits_ne _

theorem itoa_no (n : Int) (c : UInt8) (hc : c.toNat < 45 ∨ 57 < c.toNat) : c ∉ itoa n := fun h => by
  rcases itoa_mem n c h with h | h <;> omega

theorem itoa_blank (n : Int) : (32 : UInt8) ∉ itoa n := itoa_no n 32 (by decide)
theorem itoa_colon (n : Int) : (58 : UInt8) ∉ itoa n := itoa_no n 58 (by decide)
theorem stayW_blank (b : Bool) : (32 : UInt8) ∉ stayW b := by cases b <;> decide
theorem regW_blank (r : Int × Int) : (32 : UInt8) ∉ regW r := by
  unfold regW
  intro h
  rcases List.mem_append.1 h with h | h
  · exact itoa_blank _ h
  · rcases List.mem_cons.1 h with h | h
    · exact absurd h (by decide)
    · exact itoa_blank _ h
theorem stWords_blank (s : St) : ∀ w ∈ stWords s, (32 : UInt8) ∉ w := by
  intro w hw
  unfold stWords at hw
  simp only [List.mem_cons, List.mem_map] at hw
  rcases hw with rfl | rfl | rfl | rfl | ⟨r, _, rfl⟩
  · exact itoa_blank _
  · exact itoa_blank _
  · exact itoa_blank _
  · exact stayW_blank _
  · exact regW_blank _

/-! ### parsing a numeral -/
theorem parseUint10_append : ∀ (l : Bs) (acc u : Nat) (d : Nat), parseUint10 acc l = .ok u → d < 10 → u * 10 + d < 18446744073709551616 → parseUint10 acc (l ++ [UInt8.ofNat (48 + d)]) = .ok (u * 10 + d)
  | [], acc, u, d, h, hd, hu => by
    simp only [parseUint10] at h
    injection h with h
    subst h
    simp only [List.nil_append, parseUint10]
    rw [digit_byte d hd, if_pos (by omega), if_neg (by omega), if_neg (by omega)]
    simp
  | c :: r, acc, u, d, h, hd, hu => by
    simp only [parseUint10, List.cons_append] at h ⊢
    split at h
    · rename_i h1
      rw [if_pos h1]
      split at h
      · cases h
      · rename_i h2
        rw [if_neg h2]
        split at h
        · cases h
        · rename_i h3
          rw [if_neg h3]
          exact parseUint10_append r _ u d h hd hu
    · cases h

theorem parseUint10_dec (u : Nat) : u < 18446744073709551616 → parseUint10 0 (decDigits u) = .ok u := by
  induction u using Nat.strongRecOn with
  | _ u ih =>
    intro hu
    rw [decDigits]
    split
    · rename_i h
      simp only [parseUint10]
      rw [digit_byte u h, if_pos (by omega), if_neg (by omega), if_neg (by omega)]
      simp
    · rename_i h
      have := parseUint10_append (decDigits (u / 10)) 0 (u / 10) (u % 10) (ih (u / 10) (by omega) (by omega)) (by omega) (by omega)
      rw [this]
      congr 1
      omega

theorem parseMag_dec (u : Nat) (hu : u < 18446744073709551616) : parseMag (decDigits u) = .ok u := by
  unfold parseMag
  rw [if_neg (decDigits_ne u)]
  exact parseUint10_dec u hu

theorem atoiAll_itoa (n : Int) (h0 : -9223372036854775808 ≤ n) (h1 : n ≤ 9223372036854775807) : atoiAll (itoa n) = .ok n := by
  unfold itoa
  split
  · rename_i h
    unfold atoiAll
    simp only [show (45 : UInt8).toNat = 45 from rfl, or_true, if_true]
    rw [parseMag_dec _ (by omega)]
    simp only [not_true_eq_false, false_and, if_false, true_and]
    rw [if_neg (by omega)]
    congr 1
    omega
  · rename_i h
    obtain ⟨c, r, hcr⟩ : ∃ c r, decDigits n.toNat = c :: r := by
      cases hd : decDigits n.toNat with
      | nil => exact absurd hd (decDigits_ne _)
      | cons c r => exact ⟨c, r, rfl⟩
    have hc := decDigits_mem n.toNat c (by rw [hcr]; simp)
    have hp := parseMag_dec n.toNat (by omega)
    rw [hcr] at hp ⊢
    unfold atoiAll
    simp only [if_neg (show ¬ (c.toNat = 43 ∨ c.toNat = 45) by omega)]
    rw [hp]
    have e : ¬ c.toNat = 45 := by omega
    simp only [e, not_false_eq_true, true_and, false_and, if_false]
    rw [if_neg (by omega)]
    congr 1
    omega

/-- what a word reads as: below 0: no number -/
def numP (l : Bs) : Int := match atoiAll l with
  | .ok v => v
  | _ => -1
theorem numP_itoa (n : Int) (h0 : -9223372036854775808 ≤ n) (h1 : n ≤ 9223372036854775807) : numP (itoa n) = n := by unfold numP; rw [atoiAll_itoa n h0 h1]
theorem numP_bounds (l : Bs) : -9223372036854775808 ≤ numP l ∧ numP l ≤ 9223372036854775807 := by
  unfold numP
  split
  · rename_i v h; exact atoiAll_bounds h
  · omega

/-! ### words -/
theorem index_one_none (c : UInt8) : ∀ a : Bs, c ∉ a → index a [c] = -1
  | [], _ => rfl
  | b :: l, h => by
    have h1 : c ≠ b := fun e => h (by simp [e])
    have h2 := index_one_none c l (fun e => h (by simp [e]))
    rw [index, h2]
    simp [List.isPrefixOf, h1]

theorem index_one_hit (c : UInt8) : ∀ (a r : Bs), c ∉ a → index (a ++ c :: r) [c] = a.length
  | [], r, _ => by simp [index, List.isPrefixOf]
  | b :: l, r, h => by
    have h1 : c ≠ b := fun e => h (by simp [e])
    have h2 := index_one_hit c l r (fun e => h (by simp [e]))
    rw [List.cons_append, index, h2]
    simp [List.isPrefixOf, h1]

theorem splitK_one (c : UInt8) (k : Nat) (a : Bs) (h : c ∉ a) : splitK [c] 0 k a = [a] := by
  cases k with
  | zero => rfl
  | succ k => unfold splitK; rw [index_one_none c a h]; rfl

theorem splitK_cons (c : UInt8) (k : Nat) (a r : Bs) (h : c ∉ a) : splitK [c] 0 (k + 1) (a ++ c :: r) = a :: splitK [c] 0 k r := by
  show (if index (a ++ c :: r) [c] == -1 then _ else _) = _
  rw [index_one_hit c a r h]
  have : ¬ ((a.length : Int) == -1) = true := by simp
  rw [if_neg this]
  simp

theorem intercalate_cons (c : UInt8) (a b : Bs) (l : List Bs) : List.intercalate [c] (a :: b :: l) = a ++ c :: List.intercalate [c] (b :: l) := by
  simp [List.intercalate, List.intersperse]

theorem intercalate_one (c : UInt8) (a : Bs) : List.intercalate [c] [a] = a := by simp [List.intercalate]

theorem count_zero {c : UInt8} {a : Bs} (h : c ∉ a) : List.count c a = 0 := List.count_eq_zero.2 h

/-- a text of words is cut into its words -/
theorem split_join (c : UInt8) : ∀ (l : List Bs), l ≠ [] → (∀ w ∈ l, c ∉ w) → splitK [c] 0 (count (List.intercalate [c] l) [c]) (List.intercalate [c] l) = l
  | [], h, _ => absurd rfl h
  | [a], _, h => by rw [intercalate_one]; exact splitK_one c _ a (h a (by simp))
  | a :: b :: l, _, h => by
    have ih := split_join c (b :: l) (by simp) (fun w hw => h w (by simp [hw]))
    rw [intercalate_cons, count_one, List.count_append, count_zero (h a (by simp)), List.count_cons_self, Nat.zero_add, splitK_cons c _ a _ (h a (by simp)), ← count_one, ih]

theorem split_stText (s : St) : splitK [32] 0 (count (stText s) [32]) (stText s) = stWords s :=
  split_join 32 (stWords s) (by simp [stWords]) (stWords_blank s)

theorem cut_regW (r : Int × Int) : Lib.cut (regW r) [58] = (itoa r.1, itoa r.2, true) := by
  unfold Lib.cut regW
  rw [index_one_hit 58 _ _ (itoa_colon _)]
  rw [if_pos (by omega)]
  simp

/-! ### reading a state -/
def regP (w : Bs) : Int × Int := (numP (Lib.cut w [58]).1, numP (Lib.cut w [58]).2.1)
def wordsP (l : List Bs) : St := ⟨numP (l.getD 0 []), (l.drop 4).map regP, numP (l.getD 1 []), numP (l.getD 2 []), decide (l.getD 3 [] = stayW true)⟩

theorem stayW_inj (b : Bool) : decide (stayW b = stayW true) = b := by cases b <;> decide

/-- words that fit in a state -/
structure Fits (s : St) : Prop where
  gen : -9223372036854775808 ≤ s.gen ∧ s.gen ≤ 9223372036854775807
  typ : -9223372036854775808 ≤ s.typ ∧ s.typ ≤ 9223372036854775807
  holder : -9223372036854775808 ≤ s.holder ∧ s.holder ≤ 9223372036854775807
  regs : ∀ r ∈ s.regs, (-9223372036854775808 ≤ r.1 ∧ r.1 ≤ 9223372036854775807) ∧ (-9223372036854775808 ≤ r.2 ∧ r.2 ≤ 9223372036854775807)

theorem wordsP_stWords (s : St) (h : Fits s) : wordsP (stWords s) = s := by
  obtain ⟨gen, regs, typ, holder, stays⟩ := s
  obtain ⟨hg, ht, hh, hr⟩ := h
  unfold wordsP stWords
  simp only [List.getD_cons_zero, List.getD_cons_succ, List.drop_succ_cons, List.drop_zero, List.map_map, stayW_inj]
  rw [numP_itoa _ hg.1 hg.2, numP_itoa _ ht.1 ht.2, numP_itoa _ hh.1 hh.2]
  congr 1
  rw [show regs = regs.map id by simp]
  simp only [List.map_map]
  refine List.map_congr_left fun r hr' => ?_
  have := hr r hr'
  simp only [Function.comp, regP, cut_regW, id]
  rw [numP_itoa _ this.1.1 this.1.2, numP_itoa _ this.2.1 this.2.2]

theorem keyOf_who : ∀ (l : List (Int × Int)) (n : Int), keyOf l n ≠ 0 → ∃ r ∈ l, r.1 = n
  | [], n, h => absurd rfl h
  | r :: l, n, h => by
    unfold keyOf at h
    split at h
    · rename_i e; exact ⟨r, by simp, e⟩
    · obtain ⟨x, hx, e⟩ := keyOf_who l n h; exact ⟨x, by simp [hx], e⟩

theorem Good.typ_le {s : St} (h : Good s) : 0 ≤ s.typ ∧ s.typ ≤ 8 := by
  by_cases h0 : s.typ = 0
  · omega
  · have := h.typ h0; simp [typeMay] at this; omega
theorem Good.holder_le {s : St} (h : Good s) : 0 ≤ s.holder ∧ s.holder ≤ 4 := by
  by_cases h0 : s.typ = 0
  · have := h.zero h0; omega
  · by_cases h7 : 7 ≤ s.typ
    · have := (h.all h7).1; omega
    · obtain ⟨r, hr, e⟩ := keyOf_who _ _ (h.one h0 (by omega))
      have := h.bounds r hr
      omega
theorem Good.fits {s : St} (h : Good s) : Fits s :=
  ⟨by have := h.gen; omega, by have := h.typ_le; omega, by have := h.holder_le; omega, fun r hr => by have := h.bounds r hr; omega⟩

/-- what stands in a text of a state that may be -/
theorem wordsP_text {s : St} (h : Good s) {t : Bs} (e : stText s = t) : wordsP (splitK [32] 0 (count t [32]) t) = s := by
  rw [← e, split_stText, wordsP_stWords s h.fits]
theorem words_len {s : St} {t : Bs} (e : stText s = t) : 4 ≤ (splitK [32] 0 (count t [32]) t).length := by
  rw [← e, split_stText]; simp [stWords]
theorem stText_inj {s t : St} (h : Good s) (g : Good t) (e : stText s = stText t) : s = t := by
  rw [← wordsP_text h rfl, ← wordsP_text g rfl, e]

/-! ### how long a text is -/
theorem nDigits_le (k u : Nat) (h : u < 10 ^ (k + 1)) : nDigits u ≤ k + 1 := by
  induction k generalizing u with
  | zero => rw [nDigits_small (by simpa using h)]; omega
  | succ k ih =>
    by_cases hs : u < 10
    · rw [nDigits_small hs]; omega
    · rw [nDigits_big hs]
      have := ih (u / 10) (by rw [Nat.pow_succ] at h; omega)
      omega
theorem itoa_len (k : Nat) (n : Int) (h0 : 0 ≤ n) (h1 : n < 10 ^ (k + 1)) : (itoa n).length ≤ k + 1 := by
  unfold itoa
  rw [if_neg (by omega), decDigits_length]
  have e : (n.toNat : Int) = n := Int.toNat_of_nonneg h0
  exact nDigits_le k _ (by
    have h2 : ((n.toNat : Nat) : Int) < ((10 ^ (k + 1) : Nat) : Int) := by rw [e]; push_cast; exact h1
    exact_mod_cast h2)
theorem itoa_len_any (n : Int) (h0 : -9223372036854775808 ≤ n) (h1 : n ≤ 9223372036854775807) : (itoa n).length ≤ 20 := by
  unfold itoa
  split
  · rw [List.length_cons, decDigits_length]
    have := nDigits_le 18 n.natAbs (by omega)
    omega
  · rw [decDigits_length]
    have := nDigits_le 18 n.toNat (by omega)
    omega
theorem join_len (c : UInt8) : ∀ (l : List Bs) (m : Nat), (∀ w ∈ l, w.length ≤ m) → (List.intercalate [c] l).length ≤ l.length * (m + 1)
  | [], m, _ => by simp [List.intercalate]
  | [a], m, h => by rw [intercalate_one]; have := h a (by simp); simp; omega
  | a :: b :: l, m, h => by
    have ih := join_len c (b :: l) m (fun w hw => h w (by simp [hw]))
    have := h a (by simp)
    rw [intercalate_cons, List.length_append, List.length_cons]
    simp only [List.length_cons] at ih ⊢
    rw [Nat.add_mul, Nat.one_mul]
    omega
theorem sorted_len : ∀ (l : List (Int × Int)) (p : Int), (∀ r ∈ l, p < r.1 ∧ r.1 ≤ 4) → l.Pairwise (fun a b => a.1 < b.1) → p ≤ 4 → (l.length : Int) ≤ 4 - p
  | [], p, _, _, hp => by simp; omega
  | r :: l, p, h, hs, hp => by
    have h1 := h r (by simp)
    rw [List.pairwise_cons] at hs
    have := sorted_len l r.1 (fun x hx => ⟨hs.1 x hx, (h x (by simp [hx])).2⟩) hs.2 h1.2
    simp only [List.length_cons]
    push_cast
    omega
theorem Good.regs_len {s : St} (h : Good s) : s.regs.length ≤ 4 := by
  have := sorted_len s.regs 0 (fun r hr => by have := h.bounds r hr; omega) h.sorted (by omega)
  omega
theorem Good.text_len {s : St} (h : Good s) : (stText s).length ≤ 48 := by
  have h1 := itoa_len 9 s.gen h.gen.1 (by have := h.gen; omega)
  have h2 := itoa_len 0 s.typ h.typ_le.1 (by have := h.typ_le; omega)
  have h3 := itoa_len 0 s.holder h.holder_le.1 (by have := h.holder_le; omega)
  have h4 : (stayW s.stays).length ≤ 5 := by cases s.stays <;> decide
  have hr : ∀ w ∈ s.regs.map regW, w.length ≤ 5 := by
    intro w hw
    obtain ⟨r, hr, rfl⟩ := List.mem_map.1 hw
    have hb := h.bounds r hr
    have a1 := itoa_len 0 r.1 (by omega) (by omega)
    have a2 := itoa_len 2 r.2 (by omega) (by omega)
    unfold regW
    simp
    omega
  have h5 := join_len 32 _ 5 hr
  have h6 := h.regs_len
  rw [List.length_map] at h5
  unfold stText stWords Lib.join
  cases hm : s.regs.map regW with
  | nil =>
    rw [intercalate_cons, intercalate_cons, intercalate_cons, intercalate_one]
    simp
    omega
  | cons x l =>
    rw [hm] at h5
    rw [intercalate_cons, intercalate_cons, intercalate_cons, intercalate_cons]
    simp
    omega
end Go.Proofs.YtamjmejkffhmeaaGreatDoor
