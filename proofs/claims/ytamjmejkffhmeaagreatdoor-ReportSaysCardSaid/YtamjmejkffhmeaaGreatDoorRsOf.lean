/-
  Contract: the document's StateOf.
-/
import Derived.Test.YtamjmejkffhmeaaGreatDoorRsWords
import Derived.Test.YtamjmejkffhmeaaGreatDoorRsDec
import Derived.Test.YtamjmejkffhmeaaGreatDoorRpParse
import Derived.Test.YtamjmejkffhmeaaGreatDoorFault
import Derived.Deep.RegionHeld3
import Derived.Deep.DeepCutAuto
namespace Go.Proofs.YtamjmejkffhmeaaGreatDoor
open Go.RowKit Go.Lib

theorem dWords_len : ∀ (l w : Bs), (dWords w l).length ≤ l.length + 1
  | [], w => by simp [dWords]
  | b :: l, w => by
    unfold dWords
    split
    · have := dWords_len l []; simp; omega
    · have := dWords_len l (w ++ [b]); simp; omega
theorem dWords_short : ∀ (l w : Bs), ∀ x ∈ dWords w l, x.length ≤ w.length + l.length
  | [], w => fun x hx => by simp [dWords] at hx; subst hx; simp
  | b :: l, w => fun x hx => by
    unfold dWords at hx
    split at hx
    · rcases List.mem_cons.1 hx with rfl | hx
      · omega
      · have := dWords_short l [] x hx; simp at this ⊢; omega
    · have := dWords_short l (w ++ [b]) x hx; simp at this ⊢; omega

theorem naturalW_any (x : Bs) (most : Int) (w : World) :
    Calls Tryz.prog 21 #[.string (bsB x), .int .i64 most] w fun e w' => e = .returned (.int .i64 (natP x most)) ∧ w' = w := by
  have := natural_any (bsB x) most w
  rw [bsB_list] at this
  exact this
theorem get_four (x0 x1 x2 x3 : Bs) (R : List Bs) (j : Nat) (h : 4 + j < (x0 :: x1 :: x2 :: x3 :: R).length) : (x0 :: x1 :: x2 :: x3 :: R)[4 + j] = R[j]'(by simp at h; omega) := by simp [Nat.add_comm 4 j]
theorem word_eq (x y : Bs) : ((bsB x).toList == y) = decide (x = y) := by
  rw [ByteArray.toList_eq, bsB_list]
  exact (Bool.eq_iff_iff.2 (by simp))

theorem dSt_four (x0 x1 x2 x3 : Bs) (R : List Bs) : dSt (x0 :: x1 :: x2 :: x3 :: R) = ⟨natP x0 1000000000, R.map dReg, natP x1 8, natP x2 4, decide (x3 = [115, 116, 97, 121, 115])⟩ := rfl
theorem keep_five {W wx : World} (h : Below W.heap.size W wx) {T : Nat} (hT : W.heap.size ≤ T) (v0 v1 v2 v3 v4 : Value) : Below W.heap.size W (((((wx.setCell ⟨T, 0, none⟩ v0).setCell ⟨T, 1, none⟩ v1).setCell ⟨T, 2, none⟩ v2).setCell ⟨T, 3, none⟩ v3).setCell ⟨T, 4, none⟩ v4) := five_below h hT v0 v1 v2 v3 v4
theorem index_at {s : ByteArray} {p : Nat} (h : p < s.size) (hb : s[p].toNat = 58) (hn : (58 : UInt8) ∉ s.data.toList.take p) : Lib.index s.data.toList [58] = p := by
  have h1 : p < s.data.toList.length := by simpa using h
  have e : s.data.toList = s.data.toList.take p ++ 58 :: s.data.toList.drop (p + 1) := by
    have hd := List.drop_eq_getElem_cons h1
    have hx : s.data.toList[p] = 58 := UInt8.toNat_inj.1 (show s[p].toNat = _ from hb)
    rw [hx] at hd
    rw [← hd, List.take_append_drop]
  have := index_one_hit 58 (s.data.toList.take p) (s.data.toList.drop (p + 1)) hn
  rw [← e] at this
  rw [this, List.length_take]
  omega
theorem no_colon_next {s : ByteArray} {p : Nat} (h : p < s.size) (hb : s[p].toNat ≠ 58) (hn : (58 : UInt8) ∉ s.data.toList.take p) : (58 : UInt8) ∉ s.data.toList.take (p + 1) := by
  have h1 : p < s.data.toList.length := by simpa using h
  rw [List.take_succ_eq_append_getElem h1]
  intro hm
  rcases List.mem_append.1 hm with hm | hm
  · exact hn hm
  · rw [List.mem_singleton] at hm
    have : s[p] = 58 := by rw [show s[p] = s.data.toList[p] from rfl, ← hm]
    exact hb (by rw [this]; rfl)
theorem extract_front (s : ByteArray) (p : Nat) : (s.extract 0 p).data.toList = s.data.toList.take p := by simp
theorem extract_back {s : ByteArray} {p : Nat} : (s.extract p s.size).data.toList = s.data.toList.drop p := by
  have : s.data.toList.length = s.size := by simp
  simp
  exact List.take_of_length_le (by simp)

theorem reg_cells (w : World) (x y : Int) (T : TypeId) (n : Nat) (hn : n = w.heap.size) : ∀ j u, (pcells [(x, y)])[j]? = some u → (w.alloc (.cells #[.int .i64 x, .int .i64 y] T)).cell? ((⟨n, 0, none⟩ : Addr).add j) = some u := by
  subst hn
  intro j u hj
  have hadd : (⟨w.heap.size, 0, none⟩ : Addr).add j = ⟨w.heap.size, j, none⟩ := by unfold Addr.add; split <;> simp_all
  rw [hadd]
  match j, hj with
  | 0, hj => simp [pcells] at hj; simp [hj]
  | 1, hj => simp [pcells] at hj; simp [hj]
  | j + 2, hj => simp [pcells] at hj
/-- what StateOf answers -/
def OfPost (t : ByteArray) (w : World) (e : Ending) (w' : World) : Prop :=
  ((DOk (dWords [] t.data.toList) ∧ ∃ a cap, e = .returned (.tuple #[stV (dSt (dWords [] t.data.toList)) a cap, .int .i64 0]) ∧ StR w' (dSt (dWords [] t.data.toList)) a) ∨
    (¬ DOk (dWords [] t.data.toList) ∧ e = .returned (.tuple #[stV ⟨0, [], 0, 0, false⟩ none 0, .int .i64 3]))) ∧ Below w.heap.size w w'

set_option linter.unusedSimpArgs false in
set_option maxRecDepth 100000 in
set_option maxHeartbeats 4000000 in
theorem stateof_any (t : ByteArray) (w : World) (ht : t.size ≤ 200) :
    Calls Tryz.prog 7 #[.string t] w fun e w' => OfPost t w e w' := by
  unfold OfPost
  have hwl := dWords_len t.data.toList []
  have hws := dWords_short t.data.toList []
  have htl : t.data.toList.length = t.size := by simp
  have WC := Lib.hid (fun (w : World) => words_any t w ht)
  obtain ⟨W, hW⟩ : ∃ W, dWords [] t.data.toList = W := ⟨_, rfl⟩
  rw [hW] at hwl hws WC ⊢
  have hl : W.length ≤ 201 := by omega
  have SH := Lib.hid (show ∀ x ∈ W, x.length ≤ 200 from fun x hx => by have := hws x hx; simp at this; omega)
  clear hW hwl hws htl
  go_enter Tryz.func7, Tryz.ntmps7
  go_wp2_with fail
  refine (WC.out _).mono ?_
  rintro e w1 ⟨v, rfl, hown, hb⟩
  obtain ⟨aW, cW, rfl, hst⟩ := hown.shape
  have B1 := Lib.hid ((bal w _).trans (hb.mono (by simp)))
  have Z1 := Lib.hid ((hb.block w.heap.size (by simp)).trans (heap_alloc_new w _))
  have LZ := Lib.hid (show w.heap.size < w1.heap.size from (Array.getElem?_eq_some_iff.1 Z1.out).1)
  have ST := Lib.hid hst
  clear hown hb hst WC
  by_cases h4 : W.length < 4
  · obtain ⟨⟨e0, e1, e2, e3, e4⟩, f0, f1, f2, f3, f4⟩ := cells5 Z1.out
    go_wp2
    refine bodyPost_ret (v := .tuple #[stV ⟨0, [], 0, 0, false⟩ none 0, .int .i64 3]) (results_r2 Tryz.results7 _ _ w.heap.size 24 #[.int .i64 0, .slice none 0 0, .int .i64 0, .int .i64 0, .bool false] _ (.int .i64 3) rfl rfl (five_at Z1.out _ _ _ _ _) state_row.1 rfl state_row.2) rfl ?_
    exact ⟨.inr ⟨fun d => by have := d.four; omega, rfl⟩, five_below B1.out (Nat.le_refl _) _ _ _ _ _⟩
  by_cases h8 : 8 < W.length
  · obtain ⟨⟨e0, e1, e2, e3, e4⟩, f0, f1, f2, f3, f4⟩ := cells5 Z1.out
    go_wp2
    refine bodyPost_ret (v := .tuple #[stV ⟨0, [], 0, 0, false⟩ none 0, .int .i64 3]) (results_r2 Tryz.results7 _ _ w.heap.size 24 #[.int .i64 0, .slice none 0 0, .int .i64 0, .int .i64 0, .bool false] _ (.int .i64 3) rfl rfl (five_at Z1.out _ _ _ _ _) state_row.1 rfl state_row.2) rfl ?_
    exact ⟨.inr ⟨fun d => by have := d.eight; omega, rfl⟩, five_below B1.out (Nat.le_refl _) _ _ _ _ _⟩
  obtain ⟨x0, x1, x2, x3, R, rfl⟩ : ∃ x0 x1 x2 x3 R, W = x0 :: x1 :: x2 :: x3 :: R := by
    match W, h4 with
    | [], h => simp at h
    | [_], h => simp at h
    | [_, _], h => simp at h
    | [_, _, _], h => simp at h
    | a :: b :: c :: d :: l, _ => exact ⟨a, b, c, d, l, rfl⟩
  obtain ⟨bw, ow, rfl, hbw, -⟩ := ST.out 0 (by simp)
  obtain ⟨m, hm⟩ : ∃ m, R.length = m := ⟨_, rfl⟩
  have hlen : (x0 :: x1 :: x2 :: x3 :: R).length = m + 4 := by simp [hm]
  have WX := Lib.hid (show ∀ w', Below w1.heap.size w1 w' → w'.cell? ⟨bw, ow, none⟩ = some (.string (bsB x0)) ∧ w'.cell? ⟨bw, ow + 1, none⟩ = some (.string (bsB x1)) ∧ w'.cell? ⟨bw, ow + 2, none⟩ = some (.string (bsB x2)) ∧ w'.cell? ⟨bw, ow + 3, none⟩ = some (.string (bsB x3)) from fun w' hb => by
    have H : ∀ i (h : i < (x0 :: x1 :: x2 :: x3 :: R).length), w'.cell? ⟨bw, ow + i, none⟩ = some (.string (bsB (x0 :: x1 :: x2 :: x3 :: R)[i])) := fun i h => by
      obtain ⟨b, o, e, hlt, hc⟩ := ST.out i h
      obtain ⟨rfl, rfl⟩ : bw = b ∧ ow = o := by simpa using e
      exact (hb.cell (p := ⟨bw, ow + i, none⟩) hlt).trans hc
    exact ⟨H 0 (by simp), H 1 (by simp), H 2 (by simp), H 3 (by simp)⟩)
  have WR := Lib.hid (show ∀ j (h : j < R.length) w', Below w1.heap.size w1 w' → w'.cell? ⟨bw, ow + (4 + j), none⟩ = some (.string (bsB R[j])) from fun j h w' hb => by
    obtain ⟨b, o, e, hlt, hc⟩ := ST.out (4 + j) (by simp; omega)
    obtain ⟨rfl, rfl⟩ : bw = b ∧ ow = o := by simpa using e
    have := (hb.cell (p := ⟨bw, ow + (4 + j), none⟩) hlt).trans hc
    rw [this]
    rw [get_four])
  have HM := Lib.hid hm
  have hm4 : m ≤ 4 := by omega
  rw [hlen]
  obtain ⟨c0, c1, c2, c3⟩ := WX.out w1 (Below.refl _ _)
  have q1 := word_eq x3 [115, 116, 97, 121, 115]
  have q2 := word_eq x3 [103, 111, 101, 115]
  have i1 : ¬ ((m : Int) + 4 < 4) := by omega
  have i2 : ¬ (8 < (m : Int) + 4) := by omega
  clear h4 h8 hlen hl hm
  by_cases hbad : ¬ x3 = [115, 116, 97, 121, 115] ∧ ¬ x3 = [103, 111, 101, 115]
  · obtain ⟨⟨e0, e1, e2, e3, e4⟩, f0, f1, f2, f3, f4⟩ := cells5 Z1.out
    have HN := Lib.hid hbad
    rw [decide_eq_false hbad.1] at q1
    rw [decide_eq_false hbad.2] at q2
    clear hbad
    go_wp2
    refine bodyPost_ret (v := .tuple #[stV ⟨0, [], 0, 0, false⟩ none 0, .int .i64 3]) (results_r2 Tryz.results7 _ _ w.heap.size 24 #[.int .i64 0, .slice none 0 0, .int .i64 0, .int .i64 0, .bool false] _ (.int .i64 3) rfl rfl (five_at Z1.out _ _ _ _ _) state_row.1 rfl state_row.2) rfl ?_
    exact ⟨.inr ⟨fun d => by rcases d.word with h | h; exact HN.out.1 h; exact HN.out.2 h, rfl⟩, five_below B1.out (Nat.le_refl _) _ _ _ _ _⟩
  have hgood : x3 = [115, 116, 97, 121, 115] ∨ x3 = [103, 111, 101, 115] := by
    by_cases h : x3 = [115, 116, 97, 121, 115]
    · exact .inl h
    · exact .inr (Classical.byContradiction fun h2 => hbad ⟨h, h2⟩)
  have GW := Lib.hid hgood
  clear hbad
  go_upto_region 2 with fail
  go_cut [31] (fun v wx => v = .bool false ∧ wx = w1)
  case first =>
    rcases hgood with h | h
    · rw [decide_eq_true h] at q1
      clear h q2
      go_wp2
      go_meet
      exact ⟨by rw [decide_eq_false (by omega : ¬ ((m : Int) + 4 < 4)), decide_eq_false (by omega : ¬ (8 < (m : Int) + 4))]; rfl, rfl⟩
    · rw [decide_eq_false (by rw [h]; decide)] at q1
      rw [decide_eq_true h] at q2
      clear h
      go_wp2
      go_meet
      exact ⟨by rw [decide_eq_false (by omega : ¬ ((m : Int) + 4 < 4)), decide_eq_false (by omega : ¬ (8 < (m : Int) + 4))]; rfl, rfl⟩
  case rest =>
    obtain ⟨rfl, e0⟩ := hcut
    obtain rfl := e0.symm
    clear e0
    obtain ⟨B, hB⟩ : ∃ B, decide (x3 = [115, 116, 97, 121, 115]) = B := ⟨_, rfl⟩
    have HB := Lib.hid hB
    have qb := (word_eq x3 [115, 116, 97, 121, 115]).trans hB
    clear q1 q2 hgood hB
    obtain ⟨N0, hN0⟩ : ∃ N0, natP x0 1000000000 = N0 := ⟨_, rfl⟩
    obtain ⟨N1, hN1⟩ : ∃ N1, natP x1 8 = N1 := ⟨_, rfl⟩
    obtain ⟨N2, hN2⟩ : ∃ N2, natP x2 4 = N2 := ⟨_, rfl⟩
    have HN := Lib.hid (show natP x0 1000000000 = N0 ∧ natP x1 8 = N1 ∧ natP x2 4 = N2 from ⟨hN0, hN1, hN2⟩)
    have C0 := Lib.hid (fun w => naturalW_any x0 1000000000 w)
    have C1 := Lib.hid (fun w => naturalW_any x1 8 w)
    have C2 := Lib.hid (fun w => naturalW_any x2 4 w)
    rw [hN0] at C0
    rw [hN1] at C1
    rw [hN2] at C2
    have WK := Lib.hid (show ∀ w', Below w1.heap.size w1 w' → Below w1.heap.size w1 w' ∧ (w'.cell? ⟨bw, ow, none⟩ = some (.string (bsB x0)) ∧ w'.cell? ⟨bw, ow + 1, none⟩ = some (.string (bsB x1)) ∧ w'.cell? ⟨bw, ow + 2, none⟩ = some (.string (bsB x2)) ∧ w'.cell? ⟨bw, ow + 3, none⟩ = some (.string (bsB x3))) from fun w' h => ⟨h, WX.out w' h⟩)
    have k0 : (0 : Int) < (m : Int) + 4 := by omega
    have k1 : (1 : Int) < (m : Int) + 4 := by omega
    have k2 : (2 : Int) < (m : Int) + 4 := by omega
    have k3 : (3 : Int) < (m : Int) + 4 := by omega
    clear hN0 hN1 hN2 c0 c1 c2 c3
    go_upto_region 4 with fail
    go_cut [5] (fun v wx => v = .pointer (some ⟨w1.heap.size, 0, none⟩) ∧ wx.heap[w1.heap.size]? = some (.cells #[.int .i64 N0, .slice none 0 0, .int .i64 N1, .int .i64 N2, .bool B] 24 (0, 0)) ∧ Below w1.heap.size w1 wx)
    case first =>
      go_region_held3 (fun w' => Below w1.heap.size w1 w' ∧ (w'.cell? ⟨bw, ow, none⟩ = some (.string (bsB x0)) ∧ w'.cell? ⟨bw, ow + 1, none⟩ = some (.string (bsB x1)) ∧ w'.cell? ⟨bw, ow + 2, none⟩ = some (.string (bsB x2)) ∧ w'.cell? ⟨bw, ow + 3, none⟩ = some (.string (bsB x3))))
        (first | with_reducible assumption | with_reducible exact WK.out _ (Below.refl _ _).drew | with_reducible exact WK.out _ (dec_keep (Below.refl _ _).drew _) | with_reducible exact WK.out _ (dec_keep (Below.refl _ _) _).drew | with_reducible exact WK.out _ (dec_keep (And.left (by with_reducible assumption)) _))
        (first
          | (go_at_call 21; with_reducible refine (C0.out _).mono ?_; rintro e w' ⟨rfl, rfl⟩)
          | (go_at_call 21; with_reducible refine (C1.out _).mono ?_; rintro e w' ⟨rfl, rfl⟩)
          | (go_at_call 21; with_reducible refine (C2.out _).mono ?_; rintro e w' ⟨rfl, rfl⟩))
      all_goals
        go_wp2
        go_meet
        first
          | exact ⟨rfl, heap_alloc_new w1 _, (dec_keep (Below.refl _ _) _).drew⟩
          | exact ⟨rfl, heap_alloc_new w1.drew _, dec_keep (Below.refl _ _).drew _⟩
    case rest =>
      obtain ⟨rfl, hv, hbw2⟩ := hcut
      obtain ⟨w2, rfl⟩ : ∃ w2 : World, w2 = wc := ⟨_, rfl⟩
      have V2 := Lib.hid hv
      have B2 := Lib.hid hbw2
      have W2 := Lib.hid (B1.out.trans (hbw2.mono (Nat.le_of_lt LZ.out)))
      have Z2 := Lib.hid ((hbw2.block w.heap.size LZ.out).trans Z1.out)
      have HD := Lib.hid (show dSt (x0 :: x1 :: x2 :: x3 :: R) = ⟨N0, R.map dReg, N1, N2, B⟩ from by rw [dSt_four, HN.out.1, HN.out.2.1, HN.out.2.2, HB.out])
      clear hv hbw2 C0 C1 C2 WK qb k0 k1 k2 k3
      by_cases a0 : N0 < 0
      · obtain ⟨⟨e0, e1, e2, e3, e4⟩, f0, f1, f2, f3, f4⟩ := cells5 V2.out
        obtain ⟨⟨z0, z1, z2, z3, z4⟩, y0, y1, y2, y3, y4⟩ := cells5 Z2.out
        go_wp2
        refine bodyPost_ret (v := .tuple #[stV ⟨0, [], 0, 0, false⟩ none 0, .int .i64 3]) (results_r2 Tryz.results7 _ _ w.heap.size 24 #[.int .i64 0, .slice none 0 0, .int .i64 0, .int .i64 0, .bool false] _ (.int .i64 3) rfl rfl (five_at Z2.out _ _ _ _ _) state_row.1 rfl state_row.2) rfl ?_
        exact ⟨.inr ⟨fun d => by have := d.gen; rw [HD.out] at this; dsimp only at this; omega, rfl⟩, five_below W2.out (Nat.le_refl _) _ _ _ _ _⟩
      by_cases a1 : N1 < 0
      · obtain ⟨⟨e0, e1, e2, e3, e4⟩, f0, f1, f2, f3, f4⟩ := cells5 V2.out
        obtain ⟨⟨z0, z1, z2, z3, z4⟩, y0, y1, y2, y3, y4⟩ := cells5 Z2.out
        go_wp2
        refine bodyPost_ret (v := .tuple #[stV ⟨0, [], 0, 0, false⟩ none 0, .int .i64 3]) (results_r2 Tryz.results7 _ _ w.heap.size 24 #[.int .i64 0, .slice none 0 0, .int .i64 0, .int .i64 0, .bool false] _ (.int .i64 3) rfl rfl (five_at Z2.out _ _ _ _ _) state_row.1 rfl state_row.2) rfl ?_
        exact ⟨.inr ⟨fun d => by have := d.typ; rw [HD.out] at this; dsimp only at this; omega, rfl⟩, five_below W2.out (Nat.le_refl _) _ _ _ _ _⟩
      by_cases a2 : N2 < 0
      · obtain ⟨⟨e0, e1, e2, e3, e4⟩, f0, f1, f2, f3, f4⟩ := cells5 V2.out
        obtain ⟨⟨z0, z1, z2, z3, z4⟩, y0, y1, y2, y3, y4⟩ := cells5 Z2.out
        go_wp2
        refine bodyPost_ret (v := .tuple #[stV ⟨0, [], 0, 0, false⟩ none 0, .int .i64 3]) (results_r2 Tryz.results7 _ _ w.heap.size 24 #[.int .i64 0, .slice none 0 0, .int .i64 0, .int .i64 0, .bool false] _ (.int .i64 3) rfl rfl (five_at Z2.out _ _ _ _ _) state_row.1 rfl state_row.2) rfl ?_
        exact ⟨.inr ⟨fun d => by have := d.holder; rw [HD.out] at this; dsimp only at this; omega, rfl⟩, five_below W2.out (Nat.le_refl _) _ _ _ _ _⟩
      have OW0 := Lib.hid (show OwnP (w1.heap.size + 1) w2 (.slice none 0 0) ((R.take 0).map dReg) from ⟨rfl, .inl ⟨rfl, rfl⟩⟩)
      obtain ⟨⟨e0, e1, e2, e3, e4⟩, f0, f1, f2, f3, f4⟩ := cells5 V2.out
      go_wp2
      go_loopw [6] (fun i wr => ∃ j : Nat, j ≤ m ∧ i = .int .i64 ((j : Int) + 4) ∧ (∀ x ∈ R.take j, Lib.index x [58] ≠ -1) ∧ ∃ v, wr.heap[w1.heap.size]? = some (.cells #[.int .i64 N0, v, .int .i64 N1, .int .i64 N2, .bool B] 24 (0, 0)) ∧ OwnP (w1.heap.size + 1) wr v ((R.take j).map dReg) ∧ Below w1.heap.size w1 wr) (fun i _ => m + 4 - (RowKit.intOf i).toNat)
      case atStart => exact ⟨0, by omega, rfl, fun x hx => by simp at hx, _, V2.out, OW0.out, B2.out⟩
      case round =>
        obtain ⟨j, hj, rfl, hcol, v, hv, hown, hbw⟩ := hrel
        have CO := Lib.hid hcol
        have VR := Lib.hid hv
        have OWN := Lib.hid hown
        have NB := Lib.hid (show v.ownBlock ≠ some w1.heap.size from fun e => by have := OwnP.blk hown _ e; omega)
        have BR := Lib.hid hbw
        have ZR := Lib.hid ((hbw.block w.heap.size LZ.out).trans Z1.out)
        have WRR := Lib.hid (B1.out.trans (hbw.mono (Nat.le_of_lt LZ.out)))
        clear hcol hv hown hbw V2 B2 W2 Z2 OW0 e0 e1 e2 e3 e4 f0 f1 f2 f3 f4
        by_cases hlt : j < m
        · have hjR : j < R.length := by have := HM.out; omega
          obtain ⟨s, hs⟩ : ∃ s : ByteArray, bsB R[j] = s := ⟨_, rfl⟩
          have cx : wr.cell? ⟨bw, ow + (j + 4), none⟩ = some (.string s) := by rw [← hs, Nat.add_comm j 4]; exact WR.out j hjR wr BR.out
          have HS := Lib.hid (show R[j] = s.data.toList from by rw [← hs, bsB_list])
          have hsz : s.size ≤ 200 := by rw [← hs, bsB_size]; exact SH.out _ (by simp)
          clear hs
          obtain ⟨wo, rfl⟩ : ∃ wo : World, wo = wr := ⟨_, rfl⟩
          have b1 : (j : Int) + 4 < (m : Int) + 4 := by omega
          have b2 : (0 : Int) ≤ (j : Int) + 4 := by omega
          have b3 : ((j : Int) + 4).toNat = j + 4 := by omega
          go_wp2
          go_loopw [7, 8] (fun A k wq => ∃ (a : Int) (p : Nat), p ≤ s.size ∧ k = .int .i64 p ∧ A = .int .i64 a ∧ ((a = -1 ∧ (58 : UInt8) ∉ s.data.toList.take p) ∨ (0 ≤ a ∧ a < s.size ∧ Lib.index s.data.toList [58] = a)) ∧ wq = wo) (fun _ k _ => s.size - (RowKit.intOf k).toNat)
          case atStart => exact ⟨-1, 0, by omega, rfl, rfl, .inl ⟨rfl, by simp⟩, rfl⟩
          case round =>
            obtain ⟨a, p, hp, rfl, rfl, ha, e0⟩ := hrel
            obtain rfl := e0.symm
            clear e0
            rcases ha with ⟨rfl, hno⟩ | ⟨ha0, ha1, hidx⟩
            · have NO := Lib.hid hno
              by_cases hlp : p < s.size
              · by_cases hc : s[p].toNat = 58
                · have q : ((s[p].toNat : Int) == 58) = true := by rw [hc]; rfl
                  have IX := Lib.hid (index_at hlp hc hno)
                  clear hc hno
                  go_wp2
                  go_roundw
                  case rel => exact ⟨p, p + 1, by omega, by go_num, rfl, .inr ⟨by omega, by omega, IX.out⟩, by first | rfl | trivial⟩
                  case measure => simp [RowKit.intOf]; omega
                · have q : ((s[p].toNat : Int) == 58) = false := by simp; omega
                  have IX := Lib.hid (no_colon_next hlp hc hno)
                  clear hc hno
                  go_wp2
                  go_roundw
                  case rel => exact ⟨-1, p + 1, by omega, by go_num, rfl, .inl ⟨rfl, IX.out⟩, by first | rfl | trivial⟩
                  case measure => simp [RowKit.intOf]; omega
              · have NI := Lib.hid (show ¬ DOk (x0 :: x1 :: x2 :: x3 :: R) from fun d => by
                  have h1 := d.colon R[j] (by simp)
                  rw [HS.out] at h1
                  refine h1 (index_one_none 58 _ ?_)
                  have h2 := NO.out
                  rw [List.take_of_length_le (by simp; omega)] at h2
                  exact h2)
                obtain ⟨⟨z0, z1, z2, z3, z4⟩, y0, y1, y2, y3, y4⟩ := cells5 ZR.out
                clear hno
                go_wp2
                refine bodyPost_ret (v := .tuple #[stV ⟨0, [], 0, 0, false⟩ none 0, .int .i64 3]) (results_r2 Tryz.results7 _ _ w.heap.size 24 #[.int .i64 0, .slice none 0 0, .int .i64 0, .int .i64 0, .bool false] _ (.int .i64 3) rfl rfl (five_at ZR.out _ _ _ _ _) state_row.1 rfl state_row.2) rfl ?_
                exact ⟨.inr ⟨NI.out, rfl⟩, five_below WRR.out (Nat.le_refl _) _ _ _ _ _⟩
            · obtain ⟨q, rfl⟩ : ∃ q : Nat, a = q := ⟨a.toNat, by omega⟩
              have hq : q < s.size := by omega
              have IX := Lib.hid hidx
              have hnn : ¬ (q : Int) < 0 := by omega
              clear hidx ha0 ha1
              go_upto_region 12 with fail
              go_cut [80] from 70 to 90 (fun v wx => v = .bool false ∧ wx = wo)
              case first =>
                by_cases hlp : p < s.size
                · go_wp2
                  go_meet
                  exact ⟨rfl, rfl⟩
                · go_wp2
                  go_meet
                  exact ⟨rfl, rfl⟩
              case rest =>
                obtain ⟨rfl, e0⟩ := hcut
                obtain rfl := e0.symm
                clear e0
                obtain ⟨S1, hS1⟩ : ∃ S1, s.extract 0 q = S1 := ⟨_, rfl⟩
                obtain ⟨S2, hS2⟩ : ∃ S2, s.extract (q + 1) s.size = S2 := ⟨_, rfl⟩
                obtain ⟨K1, hK1⟩ : ∃ K1, natP S1.data.toList 4 = K1 := ⟨_, rfl⟩
                obtain ⟨K2, hK2⟩ : ∃ K2, natP S2.data.toList 999 = K2 := ⟨_, rfl⟩
                have C4 := Lib.hid (fun w => natural_any S1 4 w)
                have C9 := Lib.hid (fun w => natural_any S2 999 w)
                rw [hK1] at C4
                rw [hK2] at C9
                have HR := Lib.hid (show dReg R[j] = (K1, K2) from by
                  unfold dReg
                  rw [HS.out, IX.out, ← hK1, ← hK2, ← hS1, ← hS2, extract_front, extract_back]
                  rfl)
                clear hK1 hK2
                have q1 : IntKind.i64.wrap ((q : Int) + 1) = (q : Int) + 1 := IntWalk.i64_in _ (by omega)
                have q2 : (q : Int) + 1 ≤ s.size := by omega
                have q3 : (0 : Int) ≤ q := by omega
                have q4 : (q : Int) ≤ s.size := by omega
                have q5 : (0 : Int) ≤ (q : Int) + 1 := by omega
                have q6 : ((q : Int) + 1).toNat = q + 1 := by omega
                have LB : bw < wo.heap.size := Nat.lt_of_lt_of_le hbw BR.out.size
                have WK2 := Lib.hid (show ∀ w', Below wo.heap.size wo w' → Below wo.heap.size wo w' ∧ w'.cell? ⟨bw, ow + (j + 4), none⟩ = some (.string s) from fun w' h => ⟨h, (h.cell (p := ⟨bw, ow + (j + 4), none⟩) LB).trans cx⟩)
                go_upto_region 18 with fail
                go_cut [9] from 64 to 115 (fun v wx => v = .pointer (some ⟨wo.heap.size, 0, none⟩) ∧ wx.heap[wo.heap.size]? = some (.cells #[.int .i64 K1, .int .i64 K2] 48 (0, 0)) ∧ Below wo.heap.size wo wx)
                case first =>
                  go_region_held3 (fun w' => Below wo.heap.size wo w' ∧ w'.cell? ⟨bw, ow + (j + 4), none⟩ = some (.string s))
                    (first | with_reducible assumption | with_reducible exact WK2.out _ (Below.refl _ _).drew | with_reducible exact WK2.out _ (dec_keep (Below.refl _ _).drew _) | with_reducible exact WK2.out _ (dec_keep (Below.refl _ _) _).drew | with_reducible exact WK2.out _ (dec_keep (And.left (by with_reducible assumption)) _))
                    (first
                      | (go_at_call 21; with_reducible refine (C4.out _).mono ?_; rintro e w' ⟨rfl, rfl⟩)
                      | (go_at_call 21; with_reducible refine (C9.out _).mono ?_; rintro e w' ⟨rfl, rfl⟩))
                  all_goals
                    go_wp2
                    go_meet
                    first
                      | exact ⟨rfl, heap_alloc_new wo _, (dec_keep (Below.refl _ _) _).drew⟩
                      | exact ⟨rfl, heap_alloc_new wo.drew _, dec_keep (Below.refl _ _).drew _⟩
                case rest =>
                  obtain ⟨rfl, hrg, hb3⟩ := hcut
                  obtain ⟨w3, rfl⟩ : ∃ w3 : World, w3 = wc := ⟨_, rfl⟩
                  have LB0 : w1.heap.size < wo.heap.size := (Array.getElem?_eq_some_iff.1 VR.out).1
                  have V3 := Lib.hid ((hb3.block _ LB0).trans VR.out)
                  have B3 := Lib.hid (BR.out.trans (hb3.mono BR.out.size))
                  have O3 := Lib.hid (OwnP.below OWN.out hb3)
                  have CO3 := Lib.hid (show ∀ x ∈ R.take (j + 1), Lib.index x [58] ≠ -1 from fun x hx => by
                    rw [List.take_succ_eq_append_getElem hjR] at hx
                    rcases List.mem_append.1 hx with hx | hx
                    · exact CO.out x hx
                    · rw [List.mem_singleton] at hx
                      rw [hx, HS.out, IX.out]
                      omega)
                  have HM3 := Lib.hid (show (R.take (j + 1)).map dReg = (R.take j).map dReg ++ [(K1, K2)] from by rw [List.take_succ_eq_append_getElem hjR, List.map_append, List.map_singleton, HR.out])
                  have hlq : ((R.take j).map dReg).length ≤ 100 := by rw [List.length_map, List.length_take]; omega
                  have RG := Lib.hid hrg
                  have hsz3 : w1.heap.size + 1 ≤ w3.heap.size := by have := hb3.size; omega
                  obtain ⟨L, hL⟩ : ∃ L, (R.take j).map dReg = L := ⟨_, rfl⟩
                  rw [hL] at O3 HM3 hlq
                  obtain ⟨⟨e0, e1, e2, e3, e4⟩, f0, f1, f2, f3, f4⟩ := cells5 V3.out
                  have g0 : w3.cell? ⟨wo.heap.size, 0, none⟩ = some (.int .i64 K1) := by simp [World.cell?, hrg]
                  have g1 : w3.cell? ⟨wo.heap.size, 1, none⟩ = some (.int .i64 K2) := by simp [World.cell?, hrg]
                  obtain ⟨i0, hi, hz0, hz1, hz2⟩ := info_parts Tryz.infoReg
                  have q3 : L.length + 1 ≤ maxLen := by unfold maxLen; omega
                  have q4 : (L.length + 1) * 16 ≤ 140737488355328 := by omega
                  have q5 : ∀ o, w1.heap.size + 1 ≤ (w3.alloc o).heap.size := fun o => by simp; omega
                  have HL := Lib.hid hlq
                  clear hrg hb3 cx hS1 hS2 hL hnn q1 q2 hq WK2 LB hlq
                  go_wp2_with (at_builtin; refine wpList_append_own _ rfl _ _ 22 rfl (w1.heap.size + 1) 48 i0 (.agg #[.int .i64 0, .int .i64 0]) 2 16 Tryz.underlying22 hi hz0 hz1 hz2 rfl (by decide) _ _ _ rfl (O3.out.alloc _) ⟨w3.heap.size, 0, none⟩ 1 1 (pcells [(K1, K2)]) rfl rfl (reg_cells _ _ _ _ _ rfl) (pcells_one _) q3 q4 (q5 _) ?_)
                  intro v' w9 own9 hg9 _
                  obtain ⟨g9, c9, hv9⟩ : ∃ g c, v' = .slice (some ⟨g, 0, none⟩) (L.length + 1) c := by
                    rcases own9.2 with ⟨_, h0⟩ | ⟨g, cap, _, hv, _⟩
                    · omega
                    · exact ⟨g, cap, hv⟩
                  subst hv9
                  have HO9 := Lib.hid (show OwnP (w1.heap.size + 1) w9 (.slice (some ⟨g9, 0, none⟩) (L.length + 1) c9) (L ++ [(K1, K2)]) from own_snoc own9)
                  have NB9 := Lib.hid (show (Value.slice (some ⟨g9, 0, none⟩) (L.length + 1) c9).ownBlock ≠ some w1.heap.size from fun e => by have := OwnP.blk HO9.out _ e; omega)
                  have B9 := Lib.hid ((B3.out.alloc (o := .cells #[.int .i64 K1, .int .i64 K2] 48) (by omega)).grown hg9 (by simp; omega) (fun k hk => by have := OwnP.blk O3.out k hk; omega))
                  have E9 := Lib.hid ((hg9.block w1.heap.size (by simp; omega) (fun e => NB.out e.symm)).trans ((Below.heap_alloc _ _ _ (by omega)).trans V3.out))
                  clear own9 hg9 g0 g1 e0 e1 e2 e3 e4 f0 f1 f2 f3 f4
                  obtain ⟨⟨e0, e1, e2, e3, e4⟩, f0, f1, f2, f3, f4⟩ := cells5 E9.out
                  go_wp2
                  have R9 := Lib.hid (one_setCell (o := 1) E9.out (.slice (some ⟨g9, 0, none⟩) (L.length + 1) c9))
                  have P9 := Lib.hid (show OwnP (w1.heap.size + 1) (w9.setCell ⟨w1.heap.size, 1, none⟩ (.slice (some ⟨g9, 0, none⟩) (L.length + 1) c9)) (.slice (some ⟨g9, 0, none⟩) (L.length + 1) c9) (L ++ [(K1, K2)]) from ownsRow_setCell_other HO9.out NB9.out _)
                  have Q9 := Lib.hid (B9.out.setCell (p := ⟨w1.heap.size, 1, none⟩) (Nat.le_refl _) (.slice (some ⟨g9, 0, none⟩) (L.length + 1) c9))
                  go_roundw
                  case rel => exact ⟨j + 1, by omega, by go_num, CO3.out, _, R9.out, by rw [HM3.out]; exact P9.out, Q9.out⟩
                  case measure => simp [RowKit.intOf]; omega
        · obtain rfl : j = m := by omega
          have hT : R.take j = R := List.take_of_length_le (by have := HM.out; omega)
          rw [hT] at CO OWN
          obtain ⟨RL, hRL⟩ : ∃ RL, R.map dReg = RL := ⟨_, rfl⟩
          rw [hRL] at OWN HD
          have hlen : RL.length ≤ 4 := by rw [← hRL, List.length_map, HM.out]; exact hm4
          obtain ⟨a, cap, rfl, hpa, hcap⟩ := OwnP.shape OWN.out
          have STR := Lib.hid (show StR wr ⟨N0, RL, N1, N2, B⟩ a from ⟨by unfold maxLen; dsimp only; omega, hpa⟩)
          have ALO := Lib.hid (show ∀ q o, a = some ⟨q, o, none⟩ → w1.heap.size + 1 ≤ q from fun q o e => OwnP.blk OWN.out q (by rw [e]; rfl))
          have G0 := Lib.hid (show 0 ≤ N0 ∧ 0 ≤ N1 ∧ 0 ≤ N2 from ⟨by omega, by omega, by omega⟩)
          obtain ⟨⟨e0, e1, e2, e3, e4⟩, f0, f1, f2, f3, f4⟩ := cells5 VR.out
          clear hT hRL hpa hcap NB OWN hlt
          go_wp2_with fail
          refine (rfault_any ⟨N0, RL, N1, N2, B⟩ a cap _ STR.out).mono ?_
          rintro e w6 ⟨rfl, b6⟩
          have hZlt : w.heap.size < wr.heap.size := (Array.getElem?_eq_some_iff.1 ZR.out).1
          have hVlt : w1.heap.size < wr.heap.size := (Array.getElem?_eq_some_iff.1 VR.out).1
          have Z6 := Lib.hid ((b6.block _ hZlt).trans ZR.out)
          have V6 := Lib.hid ((b6.block _ hVlt).trans VR.out)
          have W6 := Lib.hid (WRR.out.trans (b6.mono WRR.out.size))
          have S6 := Lib.hid (STR.out.below b6)
          clear e0 e1 e2 e3 e4 f0 f1 f2 f3 f4 b6
          obtain ⟨⟨e0, e1, e2, e3, e4⟩, f0, f1, f2, f3, f4⟩ := cells5 V6.out
          obtain ⟨⟨z0, z1, z2, z3, z4⟩, y0, y1, y2, y3, y4⟩ := cells5 Z6.out
          by_cases hf : stateFault ⟨N0, RL, N1, N2, B⟩ = 0
          · have HF := Lib.hid hf
            rw [hf]
            clear hf
            go_wp2
            refine bodyPost_ret (v := .tuple #[stV ⟨N0, RL, N1, N2, B⟩ a cap, .int .i64 0]) (results_r2 Tryz.results7 _ _ w.heap.size 24 #[.int .i64 N0, .slice a RL.length cap, .int .i64 N1, .int .i64 N2, .bool B] _ (.int .i64 0) rfl rfl (five_at Z6.out _ _ _ _ _) state_row.1 rfl state_row.2) rfl ?_
            have HL := LZ.out
            refine ⟨.inl ⟨⟨by simp, by simp [HM.out]; omega, GW.out, ?_, ?_, ?_, CO.out, ?_⟩, a, cap, by rw [HD.out], by rw [HD.out]; exact StR.five S6.out (fun q o e => by have := ALO.out q o e; omega) _ _ _ _ _⟩, five_below W6.out (Nat.le_refl _) _ _ _ _ _⟩
            · rw [HD.out]; exact G0.out.1
            · rw [HD.out]; exact G0.out.2.1
            · rw [HD.out]; exact G0.out.2.2
            · rw [HD.out]; exact HF.out
          · have HF := Lib.hid hf
            have hnn := stateFault_nonneg ⟨N0, RL, N1, N2, B⟩
            obtain ⟨sf, hsf⟩ : ∃ sf, stateFault ⟨N0, RL, N1, N2, B⟩ = sf := ⟨_, rfl⟩
            rw [hsf] at hf hnn ⊢
            have hpos : 0 < sf := by omega
            clear hf hsf hnn
            go_wp2
            refine bodyPost_ret (v := .tuple #[stV ⟨0, [], 0, 0, false⟩ none 0, .int .i64 3]) (results_r2 Tryz.results7 _ _ w.heap.size 24 #[.int .i64 0, .slice none 0 0, .int .i64 0, .int .i64 0, .bool false] _ (.int .i64 3) rfl rfl (five_at Z6.out _ _ _ _ _) state_row.1 rfl state_row.2) rfl ?_
            exact ⟨.inr ⟨fun d => HF.out (by have := d.fault; rw [HD.out] at this; exact this), rfl⟩, five_below W6.out (Nat.le_refl _) _ _ _ _ _⟩
end Go.Proofs.YtamjmejkffhmeaaGreatDoor
