/-
  The plain law of ReportSays: how the document reads a state's text, and which keys there are. No program in sight.
-/
import Derived.Test.YtamjmejkffhmeaaGreatDoorText
import Derived.Lib.SlicesCompact
namespace Go.Proofs.YtamjmejkffhmeaaGreatDoor
open Go.Lib

/-! ### the document's natural -/
def natGo : Int → Bs → Int
  | n, [] => n
  | n, b :: l => if b.toNat < 48 ∨ 57 < b.toNat then -1 else natGo (10 * n + ((b.toNat : Int) - 48)) l
def natP (x : Bs) (most : Int) : Int := if x.length < 1 ∨ 10 < x.length ∨ (x.getD 0 0 = 48 ∧ 1 < x.length) then -1 else if most < natGo 0 x then -1 else natGo 0 x

theorem natGo_low : ∀ (l : Bs) (n : Int), 0 ≤ n → natGo n l = -1 ∨ n ≤ natGo n l
  | [], n, _ => .inr (Int.le_refl _)
  | b :: l, n, h => by
    unfold natGo
    split
    · exact .inl rfl
    · rcases natGo_low l (10 * n + ((b.toNat : Int) - 48)) (by omega) with e | e
      · exact .inl e
      · exact .inr (by omega)

theorem byte_of_digit (b : UInt8) (h : ¬ (b.toNat < 48 ∨ 57 < b.toNat)) : UInt8.ofNat (48 + (b.toNat - 48)) = b := by
  rw [show 48 + (b.toNat - 48) = b.toNat by omega]
  simp

theorem natGo_dec : ∀ (l : Bs) (n : Nat), 1 ≤ n → 0 ≤ natGo n l → decDigits (natGo n l).toNat = decDigits n ++ l
  | [], n, _, _ => by simp [natGo]
  | b :: l, n, hn, h => by
    unfold natGo at h ⊢
    split
    · rename_i hb; rw [if_pos hb] at h; omega
    · rename_i hb
      rw [if_neg hb] at h
      have e : (10 * (n : Int) + ((b.toNat : Int) - 48)) = ((10 * n + (b.toNat - 48) : Nat) : Int) := by omega
      rw [e] at h ⊢
      rw [natGo_dec l _ (by omega) h, decDigits, dif_neg (by omega)]
      rw [show (10 * n + (b.toNat - 48)) / 10 = n by omega, show (10 * n + (b.toNat - 48)) % 10 = b.toNat - 48 by omega, byte_of_digit b hb]
      simp

theorem natP_inv {x : Bs} {most : Int} (h : 0 ≤ natP x most) : itoa (natP x most) = x ∧ natP x most ≤ most := by
  unfold natP at h ⊢
  split
  · rename_i hc; rw [if_pos hc] at h; omega
  rename_i hc
  rw [if_neg hc] at h
  split
  · rename_i hm; rw [if_pos hm] at h; omega
  rename_i hm
  rw [if_neg hm] at h
  refine ⟨?_, by omega⟩
  unfold itoa
  rw [if_neg (by omega)]
  cases x with
  | nil => exact absurd (.inl (by simp)) hc
  | cons b l =>
    unfold natGo at h ⊢
    split
    · rename_i hb; rw [if_pos hb] at h; omega
    rename_i hb
    rw [if_neg hb] at h
    by_cases h0 : b.toNat = 48
    · have hl : l = [] := by
        cases l with
        | nil => rfl
        | cons c l =>
          refine absurd (.inr (.inr ⟨?_, by simp⟩)) hc
          exact UInt8.toNat_inj.1 (by simpa using h0)
      subst hl
      unfold natGo
      rw [h0]
      have : b = 48 := UInt8.toNat_inj.1 (by simpa using h0)
      subst this
      rw [show ((10 : Int) * 0 + (((48 : Nat) : Int) - 48)).toNat = 0 from rfl, decDigits]
      rfl
    · have e : (10 * (0 : Int) + ((b.toNat : Int) - 48)) = ((b.toNat - 48 : Nat) : Int) := by omega
      rw [e] at h ⊢
      rw [natGo_dec l _ (by omega) h, decDigits, dif_pos (by omega), byte_of_digit b hb]
      rfl

theorem natGo_snoc : ∀ (l : Bs) (n : Int) (d : Nat), 0 ≤ n → d < 10 → 0 ≤ natGo n l → natGo n (l ++ [UInt8.ofNat (48 + d)]) = 10 * natGo n l + d
  | [], n, d, _, hd, _ => by
    simp only [List.nil_append, natGo]
    rw [digit_byte d hd, if_neg (by omega)]
    omega
  | b :: l, n, d, hn, hd, h => by
    simp only [List.cons_append, natGo] at h ⊢
    by_cases hb : b.toNat < 48 ∨ 57 < b.toNat
    · rw [if_pos hb] at h; omega
    · rw [if_neg hb] at h ⊢
      rw [if_neg hb]
      exact natGo_snoc l _ d (by omega) hd h

theorem natGo_digits (u : Nat) : natGo 0 (decDigits u) = u := by
  induction u using Nat.strongRecOn with
  | _ u ih =>
    rw [decDigits]
    split
    · rename_i h
      simp only [natGo]
      rw [digit_byte u h, if_neg (by omega)]
      omega
    · rename_i h
      have e := ih (u / 10) (by omega)
      rw [natGo_snoc _ 0 _ (Int.le_refl _) (by omega) (by rw [e]; omega), e]
      omega

theorem dec_head (u : Nat) : 1 ≤ u → (decDigits u).getD 0 0 ≠ 48 := by
  induction u using Nat.strongRecOn with
  | _ u ih =>
    intro hu
    rw [decDigits]
    split
    · rename_i h
      intro e
      have := congrArg UInt8.toNat e
      simp only [List.getD_cons_zero] at this
      rw [digit_byte u h] at this
      have h48 : (48 : UInt8).toNat = 48 := rfl
      omega
    · rename_i h
      have := ih (u / 10) (by omega) (by omega)
      cases hd : decDigits (u / 10) with
      | nil => exact absurd hd (decDigits_ne _)
      | cons c l => rw [hd] at this; simpa using this

theorem natP_itoa {v most : Int} (h0 : 0 ≤ v) (h1 : v ≤ most) (h2 : most < 10 ^ 10) : natP (itoa v) most = v := by
  have hlen := itoa_len 9 v h0 (by omega)
  have e : itoa v = decDigits v.toNat := by unfold itoa; rw [if_neg (by omega)]
  have hne := itoa_ne v
  have hl : 1 ≤ (itoa v).length := by cases h : itoa v with
    | nil => exact absurd h hne
    | cons a l => simp
  unfold natP
  rw [if_neg]
  · have := natGo_digits v.toNat
    rw [← e] at this
    rw [this, if_neg (by omega)]
    omega
  · rintro (h | h | ⟨h, hb⟩)
    · omega
    · omega
    · by_cases hv : v.toNat = 0
      · rw [e, hv, decDigits] at hb
        simp at hb
      · rw [e] at h
        exact dec_head v.toNat (by omega) h

/-! ### the document's words -/
def dWords : Bs → Bs → List Bs
  | w, [] => [w]
  | w, b :: l => if b = 32 then w :: dWords [] l else dWords (w ++ [b]) l

theorem dWords_ne : ∀ (l w : Bs), dWords w l ≠ []
  | [], _ => by simp [dWords]
  | b :: l, w => by
    unfold dWords
    split
    · simp
    · exact dWords_ne l _

theorem dWords_text : ∀ (l w : Bs), List.intercalate [32] (dWords w l) = w ++ l
  | [], w => by simp [dWords]
  | b :: l, w => by
    unfold dWords
    split
    · rename_i h
      subst h
      have ih := dWords_text l []
      cases hd : dWords [] l with
      | nil => exact absurd hd (dWords_ne _ _)
      | cons a r => rw [intercalate_cons, ← hd, ih]; simp
    · rw [dWords_text l _]; simp

theorem dWords_no : ∀ (a w r : Bs), (32 : UInt8) ∉ a → dWords w (a ++ r) = dWords (w ++ a) r
  | [], w, r, _ => by simp
  | b :: a, w, r, h => by
    have hb : ¬ b = 32 := fun e => h (by simp [e])
    rw [List.cons_append, dWords, if_neg hb, dWords_no a _ r (fun e => h (by simp [e]))]
    simp

theorem dWords_join : ∀ (l : List Bs), l ≠ [] → (∀ w ∈ l, (32 : UInt8) ∉ w) → dWords [] (List.intercalate [32] l) = l
  | [], h, _ => absurd rfl h
  | [a], _, h => by
    have := dWords_no a [] [] (h a (by simp))
    rw [List.append_nil] at this
    rw [intercalate_one, this]
    simp [dWords]
  | a :: b :: l, _, h => by
    have ih := dWords_join (b :: l) (by simp) (fun w hw => h w (by simp [hw]))
    rw [intercalate_cons, dWords_no a [] _ (h a (by simp)), dWords, if_pos rfl, ih]
    simp

/-! ### the document's StateOf -/
def dReg (x : Bs) : Int × Int := (natP (x.take (index x [58]).toNat) 4, natP (x.drop ((index x [58]).toNat + 1)) 999)
def dSt (W : List Bs) : St := ⟨natP (W.getD 0 []) 1000000000, (W.drop 4).map dReg, natP (W.getD 1 []) 8, natP (W.getD 2 []) 4, decide (W.getD 3 [] = stayW true)⟩
structure DOk (W : List Bs) : Prop where
  four : 4 ≤ W.length
  eight : W.length ≤ 8
  word : W.getD 3 [] = stayW true ∨ W.getD 3 [] = stayW false
  gen : 0 ≤ (dSt W).gen
  typ : 0 ≤ (dSt W).typ
  holder : 0 ≤ (dSt W).holder
  colon : ∀ x ∈ W.drop 4, index x [58] ≠ -1
  fault : stateFault (dSt W) = 0

theorem index_one_cases (c : UInt8) : ∀ x : Bs, (c ∉ x ∧ index x [c] = -1) ∨ ∃ a r, c ∉ a ∧ x = a ++ c :: r ∧ index x [c] = a.length
  | [] => .inl ⟨by simp, rfl⟩
  | b :: l => by
    by_cases h : b = c
    · subst h
      exact .inr ⟨[], l, by simp, rfl, index_one_hit b [] l (by simp)⟩
    · rcases index_one_cases c l with ⟨h1, _⟩ | ⟨a, r, h1, rfl, _⟩
      · have hn : c ∉ b :: l := by simp [h1]; exact fun e => h e.symm
        exact .inl ⟨hn, index_one_none c _ hn⟩
      · have hn : c ∉ b :: a := by simp [h1]; exact fun e => h e.symm
        exact .inr ⟨b :: a, r, hn, rfl, index_one_hit c (b :: a) r hn⟩

theorem regW_dReg {x : Bs} (hx : index x [58] ≠ -1) (h : 1 ≤ (dReg x).1 ∧ 1 ≤ (dReg x).2) : regW (dReg x) = x := by
  rcases index_one_cases 58 x with ⟨_, e⟩ | ⟨a, r, _, e, hi⟩
  · exact absurd e hx
  unfold dReg at h ⊢
  rw [hi] at h ⊢
  have t1 : x.take ((a.length : Int).toNat) = a := by rw [e]; simp
  have t2 : x.drop ((a.length : Int).toNat + 1) = r := by rw [e]; simp
  rw [t1, t2] at h ⊢
  unfold regW
  rw [(natP_inv (x := a) (most := 4) (by have := h.1; simpa using by omega)).1, (natP_inv (x := r) (most := 999) (by have := h.2; simpa using by omega)).1, e]

theorem dOk_text {t : Bs} (h : DOk (dWords [] t)) : Good (dSt (dWords [] t)) ∧ stText (dSt (dWords [] t)) = t := by
  obtain ⟨W, hW⟩ : ∃ W, dWords [] t = W := ⟨_, rfl⟩
  have ht := dWords_text t []
  rw [hW] at h ht ⊢
  have g := (good_iff _).1 h.fault
  refine ⟨g, ?_⟩
  obtain ⟨w0, w1, w2, w3, L, rfl⟩ : ∃ w0 w1 w2 w3 L, W = w0 :: w1 :: w2 :: w3 :: L := by
    rcases W with _ | ⟨w0, _ | ⟨w1, _ | ⟨w2, _ | ⟨w3, L⟩⟩⟩⟩
    · have := h.four; simp at this
    · have := h.four; simp at this
    · have := h.four; simp at this
    · have := h.four; simp at this
    · exact ⟨w0, w1, w2, w3, L, rfl⟩
  have e : stWords (dSt (w0 :: w1 :: w2 :: w3 :: L)) = w0 :: w1 :: w2 :: w3 :: L := by
    have h1 := (natP_inv h.gen).1
    have h2 := (natP_inv h.typ).1
    have h3 := (natP_inv h.holder).1
    have h4 := h.word
    have h5 := h.colon
    have h6 := g.bounds
    simp only [dSt, List.getD_cons_zero, List.getD_cons_succ, List.drop_succ_cons, List.drop_zero] at h1 h2 h3 h4 h5 h6
    have h7 : stayW (decide (w3 = stayW true)) = w3 := by rcases h4 with rfl | rfl <;> decide
    have h8 : (L.map dReg).map regW = L := by
      rw [List.map_map]
      conv => rhs; rw [← List.map_id L]
      refine List.map_congr_left fun x hx => ?_
      have hb := h6 (dReg x) (List.mem_map.2 ⟨x, hx, rfl⟩)
      exact regW_dReg (h5 x hx) ⟨hb.1, hb.2.2.1⟩
    unfold stWords
    simp only [dSt, List.getD_cons_zero, List.getD_cons_succ, List.drop_succ_cons, List.drop_zero]
    rw [h1, h2, h3, h7, h8]
  unfold stText Lib.join
  rw [e, ht]
  simp

theorem dReg_regW (r : Int × Int) (h : 0 ≤ r.1 ∧ r.1 ≤ 4 ∧ 0 ≤ r.2 ∧ r.2 ≤ 999) : index (regW r) [58] ≠ -1 ∧ dReg (regW r) = r := by
  have hi : index (regW r) [58] = (itoa r.1).length := index_one_hit 58 _ _ (itoa_colon r.1)
  refine ⟨by rw [hi]; omega, ?_⟩
  unfold dReg
  rw [hi]
  have t1 : (regW r).take (((itoa r.1).length : Int).toNat) = itoa r.1 := by unfold regW; simp
  have t2 : (regW r).drop (((itoa r.1).length : Int).toNat + 1) = itoa r.2 := by unfold regW; simp
  rw [t1, t2, natP_itoa h.1 h.2.1 (by decide), natP_itoa h.2.2.1 h.2.2.2 (by decide)]

theorem text_dOk {s : St} {t : Bs} (g : Good s) (e : stText s = t) : dSt (dWords [] t) = s ∧ DOk (dWords [] t) := by
  have hW : dWords [] t = stWords s := by
    rw [← e]
    exact dWords_join (stWords s) (by simp [stWords]) (stWords_blank s)
  have hb := g.bounds
  have hd : dSt (stWords s) = s := by
    obtain ⟨gen, regs, typ, holder, stays⟩ := s
    have h1 := g.gen
    have h2 := g.typ_le
    have h3 := g.holder_le
    simp only at h1 h2 h3 hb
    unfold dSt stWords
    simp only [List.getD_cons_zero, List.getD_cons_succ, List.drop_succ_cons, List.drop_zero, List.map_map, stayW_inj]
    rw [natP_itoa h1.1 h1.2 (by decide), natP_itoa h2.1 h2.2 (by decide), natP_itoa h3.1 h3.2 (by decide)]
    congr 1
    conv => rhs; rw [← List.map_id regs]
    refine List.map_congr_left fun r hr => ?_
    have := hb r hr
    exact (dReg_regW r (by omega)).2
  rw [hW]
  refine ⟨hd, ?_⟩
  have hl : (stWords s).length = 4 + s.regs.length := by unfold stWords; simp; omega
  have hr := g.regs_len
  refine ⟨by omega, by omega, ?_, by rw [hd]; exact g.gen.1, by rw [hd]; exact g.typ_le.1, by rw [hd]; exact g.holder_le.1, ?_, by rw [hd]; exact (good_iff s).2 g⟩
  · unfold stWords
    simp only [List.getD_cons_zero, List.getD_cons_succ]
    cases s.stays
    · exact .inr rfl
    · exact .inl rfl
  · unfold stWords
    intro x hx
    simp only [List.drop_succ_cons, List.drop_zero, List.mem_map] at hx
    obtain ⟨r, hr, rfl⟩ := hx
    have := hb r hr
    exact (dReg_regW r (by omega)).1

/-! ### keys -/
def docKeys (ks : List Int) : List Int := ((List.range 999).map fun i : Nat => (i : Int) + 1).filter fun n => decide (n ∈ ks)
def progKeys (ks : List Int) : List Int := compact (ks.mergeSort fun x y => decide (x ≤ y))

theorem rising_ext : ∀ (a b : List Int), a.Pairwise (· < ·) → b.Pairwise (· < ·) → (∀ x, x ∈ a ↔ x ∈ b) → a = b
  | [], [], _, _, _ => rfl
  | [], y :: b, _, _, h => by have := (h y).2 (by simp); simp at this
  | x :: a, [], _, _, h => by have := (h x).1 (by simp); simp at this
  | x :: a, y :: b, ha, hb, h => by
    rw [List.pairwise_cons] at ha hb
    have hxy : x = y := by
      have h1 := (h x).1 (by simp)
      have h2 := (h y).2 (by simp)
      rcases List.mem_cons.1 h1 with e | e
      · exact e
      rcases List.mem_cons.1 h2 with e2 | e2
      · exact e2.symm
      have := hb.1 x e
      have := ha.1 y e2
      omega
    subst hxy
    congr 1
    refine rising_ext a b ha.2 hb.2 fun z => ⟨fun hz => ?_, fun hz => ?_⟩
    · rcases List.mem_cons.1 ((h z).1 (by simp [hz])) with e | e
      · subst e; have := ha.1 z hz; omega
      · exact e
    · rcases List.mem_cons.1 ((h z).2 (by simp [hz])) with e | e
      · subst e; have := hb.1 z hz; omega
      · exact e

theorem compactUpTo_law (d : Array Int) (hd : ∀ i j, i ≤ j → j < d.size → d[i]! ≤ d[j]!) : ∀ m, m ≤ d.size → (compactUpTo d m).Pairwise (· < ·) ∧ ∀ x, x ∈ compactUpTo d m ↔ ∃ j, j < m ∧ d[j]! = x
  | 0, _ => ⟨by simp [compactUpTo], fun x => by simp [compactUpTo]⟩
  | m + 1, hm => by
    have ih := compactUpTo_law d hd m (by omega)
    rw [compactUpTo_succ]
    by_cases hk : keeps d m = true
    · rw [if_pos hk]
      refine ⟨List.pairwise_append.2 ⟨ih.1, by simp, fun a ha b hb => ?_⟩, fun x => ?_⟩
      · rw [List.mem_singleton] at hb
        subst hb
        obtain ⟨j, hj, rfl⟩ := (ih.2 a).1 ha
        have h1 := hd j (m - 1) (by omega) (by omega)
        have h2 := hd (m - 1) m (by omega) (by omega)
        have hne : d[m]! ≠ d[m - 1]! := by
          simp only [keeps, decide_eq_true_eq] at hk
          rcases hk with e | e
          · omega
          · exact e
        omega
      · rw [List.mem_append, ih.2, List.mem_singleton]
        constructor
        · rintro (⟨j, hj, e⟩ | e)
          · exact ⟨j, by omega, e⟩
          · exact ⟨m, by omega, e.symm⟩
        · rintro ⟨j, hj, e⟩
          by_cases hjm : j = m
          · subst hjm; exact .inr e.symm
          · exact .inl ⟨j, by omega, e⟩
    · rw [if_neg hk, List.append_nil]
      refine ⟨ih.1, fun x => ?_⟩
      rw [ih.2]
      have h0 : m ≠ 0 ∧ d[m]! = d[m - 1]! := by
        simp only [keeps, decide_eq_true_eq] at hk
        refine ⟨fun e => hk (.inl e), ?_⟩
        by_cases e : d[m]! = d[m - 1]!
        · exact e
        · exact absurd (.inr e) hk
      constructor
      · rintro ⟨j, hj, e⟩; exact ⟨j, by omega, e⟩
      · rintro ⟨j, hj, e⟩
        by_cases hjm : j = m
        · subst hjm; exact ⟨j - 1, by omega, by rw [← h0.2]; exact e⟩
        · exact ⟨j, by omega, e⟩

theorem keys_same (ks : List Int) (h : ∀ k ∈ ks, 1 ≤ k ∧ k ≤ 999) : progKeys ks = docKeys ks := by
  obtain ⟨L, hL⟩ : ∃ L, ks.mergeSort (fun x y => decide (x ≤ y)) = L := ⟨_, rfl⟩
  have hs : L.Pairwise (· ≤ ·) := by
    have := List.pairwise_mergeSort (le := fun x y : Int => decide (x ≤ y)) (fun a b c => by simp; omega) (fun a b => by simp; omega) ks
    rw [hL] at this
    exact this.imp (by simp)
  have hm : ∀ x, x ∈ L ↔ x ∈ ks := fun x => by rw [← hL]; exact List.mem_mergeSort
  have law := compactUpTo_law L.toArray (fun i j hij hj => by
    simp only [List.size_toArray] at hj
    rw [getElem!_pos L.toArray i (by simp; omega), getElem!_pos L.toArray j (by simpa using hj)]
    simp only [List.getElem_toArray]
    by_cases e : i = j
    · subst e; exact Int.le_refl _
    · exact List.pairwise_iff_getElem.1 hs i j (by omega) hj (by omega)) L.length (by simp)
  unfold progKeys
  rw [hL]
  refine rising_ext _ _ law.1 ?_ fun x => ?_
  · unfold docKeys
    refine List.Pairwise.filter _ (List.pairwise_map.2 ?_)
    exact List.pairwise_lt_range.imp (by intro a b h; omega)
  · have h1 : x ∈ compact L ↔ x ∈ L := by
      refine (law.2 x).trans ⟨?_, fun hx => ?_⟩
      · rintro ⟨j, hj, rfl⟩
        rw [getElem!_pos L.toArray j (by simpa using hj)]
        simp
      · obtain ⟨j, hj, e⟩ := List.mem_iff_getElem.1 hx
        exact ⟨j, hj, by rw [getElem!_pos L.toArray j (by simpa using hj)]; simpa using e⟩
    rw [h1, hm]
    unfold docKeys
    rw [List.mem_filter, List.mem_map]
    simp only [List.mem_range, decide_eq_true_eq]
    constructor
    · intro hx
      have := h x hx
      exact ⟨⟨(x - 1).toNat, by omega, by omega⟩, hx⟩
    · exact fun hx => hx.2
end Go.Proofs.YtamjmejkffhmeaaGreatDoor
