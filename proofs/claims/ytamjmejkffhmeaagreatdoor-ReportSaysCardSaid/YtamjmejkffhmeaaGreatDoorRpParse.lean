/-
  Contract: report.Parse.
-/
import Derived.Test.YtamjmejkffhmeaaGreatDoorRpText
import Derived.Test.YtamjmejkffhmeaaGreatDoorCheck
import Derived.Test.YtamjmejkffhmeaaGreatDoorOwnP
import Derived.Test.YtamjmejkffhmeaaGreatDoorChain
import Derived.Test.YtamjmejkffhmeaaGreatDoorWordsL
import Derived.OneCell
namespace Go.Proofs.YtamjmejkffhmeaaGreatDoor
open Go.RowKit Go.Lib Go.Sort

theorem numberW_any (x : Bs) (w : World) (t : Tabs w) (hs : x.length ≤ 200) :
    Calls Tryz.prog 17 #[.string (bsB x)] w fun e w' => e = .returned (.int .i64 (numP x)) ∧ Below w.heap.size w w' := by
  have := number_any (bsB x) w t (by rw [bsB_size]; omega)
  rw [bsB_list] at this
  exact this
theorem cutW_any (x : Bs) (w : World) (t : Tabs w) (hs : x.length ≤ 200) :
    Calls Tryz.prog 18 #[.string (bsB x), .string ⟨#[58]⟩] w fun e w' => e = .returned (.tuple #[.string (bsB (Lib.cut x [58]).1), .string (bsB (Lib.cut x [58]).2.1), .bool (Lib.cut x [58]).2.2]) ∧ Below w.heap.size w w' := by
  have := cut_any (bsB x) w t (by rw [bsB_size]; omega)
  rw [bsB_list] at this
  exact this
theorem results_r2 {P : Program} {fn : Func} {p q : Tmp} {ty : TypeId} (h : fn.results = #[.cell p ty, .tmp q]) (tmps : Array Value) (w : World) (g : Nat) (t : TypeId) (cs : Array Value) (d : TypeDesc) (v : Value)
    (hp : tmps.getD p undef = .pointer (some ⟨g, 0, none⟩)) (hq : tmps.getD q undef = v) (hg : w.heap[g]? = some (.cells cs t (0, 0)))
    (hu : P.underlying ty = some d) (hd : (match d with | .struct _ | .array _ _ => true | _ => false) = true) (hi : (P.info? ty).map (·.size) = some cs.size) :
    (results fn tmps).run P w = .ok (.tuple #[.agg cs, v]) w := by
  have hp' : tmps[p]?.getD undef = .pointer (some ⟨g, 0, none⟩) := by simpa using hp
  have hq' : tmps[q]?.getD undef = v := by simpa using hq
  simp [results, h, hp', hq', asAddr, run_loadVar_row w g t ty cs (0, 0) d hg hu hd hi]
theorem state_row : Tryz.prog.underlying 24 = some (.struct (Tryz.prog.fieldsOf 24)) ∧ (Tryz.prog.info? 24).map (·.size) = some 5 := by constructor <;> kernel_rfl
theorem one_setCell {w : World} {M o : Nat} {cs : Array Value} {T : TypeId} (h : w.heap[M]? = some (.cells cs T (0, 0))) (u : Value) : (w.setCell ⟨M, o, none⟩ u).heap[M]? = some (.cells (cs.setIfInBounds o u) T (0, 0)) := by
  simp only [World.setCell, Array.getElem?_modify, if_pos, h]
  rfl
/-- five cells are stored -/
def five (wx : World) (T : Nat) (v0 v1 v2 v3 v4 : Value) : World := ((((wx.setCell ⟨T, 0, none⟩ v0).setCell ⟨T, 1, none⟩ v1).setCell ⟨T, 2, none⟩ v2).setCell ⟨T, 3, none⟩ v3).setCell ⟨T, 4, none⟩ v4
theorem five_at {wx : World} {T : Nat} {x0 x1 x2 x3 x4 : Value} {Ty : TypeId} (h : wx.heap[T]? = some (.cells #[x0, x1, x2, x3, x4] Ty (0, 0))) (v0 v1 v2 v3 v4 : Value) : (five wx T v0 v1 v2 v3 v4).heap[T]? = some (.cells #[v0, v1, v2, v3, v4] Ty (0, 0)) :=
  one_setCell (one_setCell (one_setCell (one_setCell (one_setCell h v0) v1) v2) v3) v4
theorem five_below {B : Nat} {a wx : World} (h : Below B a wx) {T : Nat} (hT : B ≤ T) (v0 v1 v2 v3 v4 : Value) : Below B a (five wx T v0 v1 v2 v3 v4) :=
  ((((h.setCell (p := ⟨T, 0, none⟩) hT v0).setCell (p := ⟨T, 1, none⟩) hT v1).setCell (p := ⟨T, 2, none⟩) hT v2).setCell (p := ⟨T, 3, none⟩) hT v3).setCell (p := ⟨T, 4, none⟩) hT v4
theorem five_ne {wx : World} {T k : Nat} (h : k ≠ T) (v0 v1 v2 v3 v4 : Value) : (five wx T v0 v1 v2 v3 v4).heap[k]? = wx.heap[k]? := by
  unfold five
  rw [Below.heap_setCell _ _ _ _ h, Below.heap_setCell _ _ _ _ h, Below.heap_setCell _ _ _ _ h, Below.heap_setCell _ _ _ _ h, Below.heap_setCell _ _ _ _ h]
theorem StR.five {w : World} {s : St} {a : Option Addr} (h : StR w s a) {T : Nat} (hT : ∀ b o, a = some ⟨b, o, none⟩ → b ≠ T) (v0 v1 v2 v3 v4 : Value) : StR (five w T v0 v1 v2 v3 v4) s a := by
  refine ⟨h.len, fun i hi => ?_⟩
  obtain ⟨b, o, rfl, hb, c1, c2⟩ := h.rep i hi
  have hn := five_ne (wx := w) (hT b o rfl) v0 v1 v2 v3 v4
  exact ⟨b, o, rfl, by show b < (Go.Proofs.YtamjmejkffhmeaaGreatDoor.five w T v0 v1 v2 v3 v4).heap.size; unfold Go.Proofs.YtamjmejkffhmeaaGreatDoor.five; simpa [World.setCell] using hb, (World.cell?_of_block (a := ⟨b, o + i * 2, none⟩) hn).trans c1, (World.cell?_of_block (a := ⟨b, o + i * 2 + 1, none⟩) hn).trans c2⟩
theorem cells5 {W : World} {b : Nat} {v0 v1 v2 v3 v4 : Value} {T : TypeId} (h : W.heap[b]? = some (.cells #[v0, v1, v2, v3, v4] T (0, 0))) :
    (W.cell? ⟨b, 0, none⟩ = some v0 ∧ W.cell? ⟨b, 1, none⟩ = some v1 ∧ W.cell? ⟨b, 2, none⟩ = some v2 ∧ W.cell? ⟨b, 3, none⟩ = some v3 ∧ W.cell? ⟨b, 4, none⟩ = some v4) ∧
    (W.frozen? ⟨b, 0, none⟩ = false ∧ W.frozen? ⟨b, 1, none⟩ = false ∧ W.frozen? ⟨b, 2, none⟩ = false ∧ W.frozen? ⟨b, 3, none⟩ = false ∧ W.frozen? ⟨b, 4, none⟩ = false) := by
  simp [World.cell?, World.frozen?, h]
def ptrV : Option Nat → Value
  | none => undef
  | some b => .pointer (some ⟨b, 0, none⟩)
abbrev parseFr (t : ByteArray) (n m : Nat) (u15 : Value) (x0 x1 x2 x3 : Bs) (B : Bool) (blk x21 x25 x29 x34 : Value) : Act := ⟨#[.string t, undef, .pointer (some ⟨n, 0, none⟩), .nilIface, .slice (some ⟨n + 1, 0, none⟩) (m + 4) (m + 4), blk, undef, undef, undef, undef, undef, .string t, .slice (some ⟨n + 1, 0, none⟩) (m + 4) (m + 4), .slice (some ⟨n + 1, 0, none⟩) (m + 4) (m + 4), .int .i64 ((m : Int) + 4), u15, undef, undef,
  .slice (some ⟨n + 1, 0, none⟩) (m + 4) (m + 4), .pointer (some ⟨n + 1, 0, none⟩), .string (bsB x0), x21, .slice (some ⟨n + 1, 0, none⟩) (m + 4) (m + 4), .pointer (some ⟨n + 1, 1, none⟩), .string (bsB x1), x25, .slice (some ⟨n + 1, 0, none⟩) (m + 4) (m + 4), .pointer (some ⟨n + 1, 2, none⟩), .string (bsB x2), x29, .slice (some ⟨n + 1, 0, none⟩) (m + 4) (m + 4), .pointer (some ⟨n + 1, 3, none⟩), .string (bsB x3), .bool B, x34, undef, undef, undef, undef, undef, undef, undef, undef, undef, undef, undef, undef, undef, undef, undef, undef, undef, undef, undef, undef, undef, undef, undef, undef, undef, undef, undef, undef, undef, undef, undef, undef, undef, undef, undef, undef], []⟩
def parseC (i : Nat) : Nat := bif i == 3 then 16 else 3 + 4 * i
def parseL (i : Nat) (b : Bool) : Array Bool := #[true, true, true, Nat.ble 1 i, true, true, true, Nat.ble 2 i, true, true, true, Nat.ble 3 i, true, true, true, true, Nat.ble 4 i, b, false]
theorem parseL_call : ∀ i b, i < 4 → (parseL i b).setIfInBounds (parseC i) true = parseL (i + 1) b := by
  have : ∀ i : Fin 4, ∀ b, (parseL i.val b).setIfInBounds (parseC i.val) true = parseL (i.val + 1) b := by decide
  exact fun i b hi => this ⟨i, hi⟩ b
theorem parseL_new : ∀ i, i ≤ 4 → (parseL i false).setIfInBounds 17 true = parseL i true := by
  have : ∀ i : Fin 5, (parseL i.val false).setIfInBounds 17 true = parseL i.val true := by decide
  exact fun i hi => this ⟨i, by omega⟩
def aggP (x0 x1 x2 : Bs) (B : Bool) : Value := .agg #[.int .i64 (numP x0), .slice none 0 0, .int .i64 (numP x1), .int .i64 (numP x2), .bool B]
def parseF (t : ByteArray) (n m : Nat) (u15 : Value) (x0 x1 x2 x3 : Bs) (B : Bool) (i : Nat) (blk : Option Nat) : Act :=
  parseFr t n m u15 x0 x1 x2 x3 B (ptrV blk) (at1 1 i (.int .i64 (numP x0))) (at1 2 i (.int .i64 (numP x1))) (at1 3 i (.int .i64 (numP x2))) (at1 4 i (aggP x0 x1 x2 B))

def atU (k i : Nat) (v u : Value) : Value := bif Nat.ble k i then v else u
abbrev roundFr (t : ByteArray) (n m b k : Nat) (x y1 y2 : Bs) (y3 : Bool) (u11 u12 u13 u14 u15 u16 u17 u18 u19 u20 u21 u22 u23 u24 u25 u26 u27 u28 u29 u30 u31 u32 u33 u34 u35 : Value) (q49 q51 q53 q54 q55 : Value) (u56 u57 u58 u59 u60 u61 u62 u63 u64 u65 u66 u67 u68 u69 u70 : Value) : Act := ⟨#[.string t, undef, .pointer (some ⟨n, 0, none⟩), .nilIface, .slice (some ⟨n + 1, 0, none⟩) (m + 4) (m + 4), .pointer (some ⟨b, 0, none⟩), undef, .string (bsB x), .string (bsB y1), .string (bsB y2), .bool y3, u11, u12, u13, u14, u15, u16, u17, u18, u19, u20, u21, u22, u23, u24, u25, u26, u27, u28, u29, u30, u31, u32, u33, u34, u35, .slice (some ⟨n + 1, 4, none⟩) m m, .int .i64 (m : Int), .int .i64 (k : Int), .bool true, .pointer (some ⟨n + 1, 4 + k, none⟩), .string (bsB x), .tuple #[.string (bsB y1), .string (bsB y2), .bool y3], .string (bsB x), .tuple #[.string (bsB y1), .string (bsB y2), .bool y3], .string (bsB y1), .string (bsB y2), .bool y3, .pointer (some ⟨b, 1, none⟩), q49, .string (bsB y1), q51, .string (bsB y2), q53, q54, q55, u56, u57, u58, u59, u60, u61, u62, u63, u64, u65, u66, u67, u68, u69, u70], []⟩
def roundC (i : Nat) : Nat := bif i == 0 then 3 else 4 + i
def roundL (i : Nat) (ld : Bool) : Array Bool := #[true, ld, true, Nat.ble 1 i, true, Nat.ble 2 i, Nat.ble 3 i, Nat.ble 4 i, false, false, false]
theorem roundL_call : ∀ i b, i < 4 → (roundL i b).setIfInBounds (roundC i) true = roundL (i + 1) b := by
  have : ∀ i : Fin 4, ∀ b, (roundL i.val b).setIfInBounds (roundC i.val) true = roundL (i.val + 1) b := by decide
  exact fun i b hi => this ⟨i, hi⟩ b
theorem roundL_load : ∀ i, i ≤ 4 → (roundL i false).setIfInBounds 1 true = roundL i true := by
  have : ∀ i : Fin 5, (roundL i.val false).setIfInBounds 1 true = roundL i.val true := by decide
  exact fun i hi => this ⟨i, by omega⟩

theorem beq_toListBytes' (x : Bs) : decide (x = stayW true) = ((bsB x).toList == [115, 116, 97, 121, 115]) := by
  rw [ByteArray.toList_eq, bsB_list]
  exact (Bool.eq_iff_iff.2 (by simp [stayW])).symm

/-- what Parse answers -/
def ParsePost (t : ByteArray) (w : World) (e : Ending) (w' : World) : Prop :=
  ((∃ s a cap, Good s ∧ bsB (stText s) = t ∧ e = .returned (.tuple #[stV s a cap, .nilIface]) ∧ StR w' s a ∧ ∀ q o, a = some ⟨q, o, none⟩ → w.heap.size ≤ q) ∨
    ((∀ s, Good s → bsB (stText s) ≠ t) ∧ e = .returned (.tuple #[stV ⟨0, [], 0, 0, false⟩ none 0, errV 3]))) ∧ Below w.heap.size w w'

set_option linter.unusedSimpArgs false in
set_option maxRecDepth 100000 in
set_option maxHeartbeats 4000000 in
theorem parse_any (t : ByteArray) (w : World) (tt : Tabs w) (ht : t.size ≤ 200) :
    Calls Tryz.prog 6 #[.string t] w fun e w' => ParsePost t w e w' := by
  obtain ⟨W, hW⟩ : ∃ W, W = wordsL t.data.toList := ⟨_, rfl⟩
  have TT := Lib.hid tt
  have HW := Lib.hid hW
  clear tt
  go_enter Tryz.func6, Tryz.ntmps6
  go_upto_region 1 with fail
  go_wp2_with fail
  refine (split_any t _ (TT.out.on (bal w _)) (by omega)).mono ?_
  rintro e wx ⟨rfl, rfl⟩
  rw [← hW]
  have hsz : (w.alloc (.cells #[.int .i64 0, .slice none 0 0, .int .i64 0, .int .i64 0, .bool false] 24)).heap.size = w.heap.size + 1 := by simp
  rw [hsz]
  obtain ⟨w1, hw1⟩ : ∃ w1, w1 = (w.alloc (.cells #[.int .i64 0, .slice none 0 0, .int .i64 0, .int .i64 0, .bool false] 24)).alloc (.cells (W.map fun x => Value.string (bsB x)).toArray 9) := ⟨_, rfl⟩
  have B1 := Lib.hid (show Below w.heap.size w w1 from hw1 ▸ (bal w _).trans ((bal _ _).mono (by simp)))
  have L1 := Lib.hid (show w1.heap.size = w.heap.size + 2 from by rw [hw1]; simp)
  have R1 := Lib.hid (show w1.heap[w.heap.size]? = some (.cells #[.int .i64 0, .slice none 0 0, .int .i64 0, .int .i64 0, .bool false] 24 (0, 0)) from hw1 ▸ heap_alloc2_old w _ _)
  have D1 := Lib.hid (show w1.heap[w.heap.size + 1]? = some (.cells (W.map fun x => Value.string (bsB x)).toArray 9 (0, 0)) from hw1 ▸ heap_alloc2_new w _ _)
  rw [← hw1]
  clear hW hsz hw1
  by_cases hn : (W.length : Int) < 4
  · obtain ⟨⟨e0, e1, e2, e3, e4⟩, f0, f1, f2, f3, f4⟩ := cells5 R1.out
    go_wp2
    refine bodyPost_ret (v := .tuple #[stV ⟨0, [], 0, 0, false⟩ none 0, errV 3]) (results_r2 Tryz.results6 _ _ w.heap.size 24 #[.int .i64 0, .slice none 0 0, .int .i64 0, .int .i64 0, .bool false] _ (errV 3) rfl rfl (five_at R1.out _ _ _ _ _) state_row.1 rfl state_row.2) rfl ?_
    refine ⟨.inr ⟨fun s hg e => ?_, rfl⟩, five_below B1.out (Nat.le_refl _) _ _ _ _ _⟩
    have := words_len (s := s) (t := t.data.toList) (by rw [← e, bsB_list])
    have h2 := HW.out
    unfold wordsL at h2
    rw [← h2] at this
    omega
  · obtain ⟨x0, x1, x2, x3, rest, hx⟩ : ∃ x0 x1 x2 x3 rest, W = x0 :: x1 :: x2 :: x3 :: rest := by
      match W, hn with
      | [], hn => simp at hn
      | [_], hn => simp at hn
      | [_, _], hn => simp at hn
      | [_, _, _], hn => simp at hn
      | a :: b :: c :: d :: l, _ => exact ⟨a, b, c, d, l, rfl⟩
    obtain ⟨m, hm⟩ : ∃ m, m = rest.length := ⟨_, rfl⟩
    have hlen : W.length = m + 4 := by rw [hx, hm]; simp
    have hshort : ∀ x ∈ W, x.length ≤ 200 := fun x h => by
      rw [HW.out] at h
      have := splitK_short 32 _ _ x h
      have : t.data.toList.length = t.size := rfl
      omega
    have SH := Lib.hid (show x0.length ≤ 200 ∧ x1.length ≤ 200 ∧ x2.length ≤ 200 ∧ x3.length ≤ 200 ∧ ∀ x ∈ rest, x.length ≤ 200 from by
      rw [hx] at hshort
      exact ⟨hshort _ (by simp), hshort _ (by simp), hshort _ (by simp), hshort _ (by simp), fun x h => hshort x (by simp [h])⟩)
    have HX := Lib.hid hx
    have HM := Lib.hid hm
    have hm200 : m ≤ 1000 := by
      have := wordsL_len t
      rw [← HW.out, hlen, show Lib.countB t ⟨#[32]⟩ = count t.data.toList [32] from rfl, count_one] at this
      have h2 : List.count 32 t.data.toList ≤ t.data.toList.length := List.count_le_length
      have h3 : t.data.toList.length = t.size := rfl
      omega
    obtain ⟨S, hS⟩ : ∃ S : World → Prop, S = fun w' => Below w1.heap.size w1 w' := ⟨_, rfl⟩
    have SC := Lib.hid (show ∀ w', S w' → w'.cell? ⟨w.heap.size + 1, 0, none⟩ = some (.string (bsB x0)) ∧ w'.cell? ⟨w.heap.size + 1, 1, none⟩ = some (.string (bsB x1)) ∧ w'.cell? ⟨w.heap.size + 1, 2, none⟩ = some (.string (bsB x2)) ∧ w'.cell? ⟨w.heap.size + 1, 3, none⟩ = some (.string (bsB x3)) from fun w' h => by
      rw [hS] at h
      have e := (h.block (w.heap.size + 1) (by have := L1.out; omega)).trans D1.out
      rw [hx] at e
      simp [World.cell?, e])
    obtain ⟨B, hB⟩ : ∃ B, ((bsB x3).toList == [115, 116, 97, 121, 115]) = B := ⟨_, rfl⟩
    have HB := Lib.hid hB
    have i0 : ¬ ((m : Int) + 4 ≤ 0) := by omega
    have i1 : ¬ ((m : Int) + 4 ≤ 1) := by omega
    have i2 : ¬ ((m : Int) + 4 ≤ 2) := by omega
    have i3 : ¬ ((m : Int) + 4 ≤ 3) := by omega
    have htest : decide (((m + 4 : Nat) : Int) < 4) = false := by simp; omega
    rw [hlen]
    clear hn hlen hshort hx hm hB
    go_upto_region 4 with fail
    obtain ⟨u15, hu15⟩ : ∃ u15, u15 = Value.bool (decide ((m : Int) + 4 < 4)) := ⟨_, rfl⟩
    have HU := Lib.hid hu15
    clear hu15
    go_cut [5] (fun v wx => ∃ b, v = .pointer (some ⟨b, 0, none⟩) ∧ w1.heap.size ≤ b ∧ wx.heap[b]? = some (.cells #[.int .i64 (numP x0), .slice none 0 0, .int .i64 (numP x1), .int .i64 (numP x2), .bool B] 24 (0, 0)) ∧ Below w1.heap.size w1 wx)
    case first =>
      refine wp_region_held_drew (S := S) (by kernel_rfl) (by rw [hS]; exact (Below.refl _ _).drew) (fun hHeld => ?_)
      refine wpAnyH_take (i := 0) (oi := _) (v := .slice (some ⟨w.heap.size + 1, 0, none⟩) (m + 4) (m + 4)) rfl (by kernel_rfl) (by kernel_rfl) (by kernel_rfl) (fun _ _ _ h => h) (Or.inl ⟨by rfl, fun w' hSw => by go_simp⟩) hHeld ?_
      simp only [Act.put, List.getElem_toArray, List.getElem_cons_zero, List.getElem_cons_succ, List.setIfInBounds_toArray, List.set_cons_zero, List.set_cons_succ]
      refine wpAnyH_take (i := 1) (oi := _) (v := .pointer (some ⟨w.heap.size + 1, 0, none⟩)) rfl (by kernel_rfl) (by kernel_rfl) (by kernel_rfl) (fun _ _ _ h => h) (Or.inl ⟨by rfl, fun w' hSw => by go_simp⟩) hHeld ?_
      simp only [Act.put, List.getElem_toArray, List.getElem_cons_zero, List.getElem_cons_succ, List.setIfInBounds_toArray, List.set_cons_zero, List.set_cons_succ]
      refine wpAnyH_take (i := 2) (oi := _) (v := .string (bsB x0)) rfl (by kernel_rfl) (by kernel_rfl) (by kernel_rfl) (fun _ _ _ h => h) (Or.inl ⟨by rfl, fun w' hSw => by have hc := (SC.out w' hSw).1; go_simp⟩) hHeld ?_
      simp only [Act.put, List.getElem_toArray, List.getElem_cons_zero, List.getElem_cons_succ, List.setIfInBounds_toArray, List.set_cons_zero, List.set_cons_succ]
      refine wpAnyH_take (i := 4) (oi := _) (v := .slice (some ⟨w.heap.size + 1, 0, none⟩) (m + 4) (m + 4)) rfl (by kernel_rfl) (by kernel_rfl) (by kernel_rfl) (fun _ _ _ h => h) (Or.inl ⟨by rfl, fun w' hSw => by go_simp⟩) hHeld ?_
      simp only [Act.put, List.getElem_toArray, List.getElem_cons_zero, List.getElem_cons_succ, List.setIfInBounds_toArray, List.set_cons_zero, List.set_cons_succ]
      refine wpAnyH_take (i := 5) (oi := _) (v := .pointer (some ⟨w.heap.size + 1, 1, none⟩)) rfl (by kernel_rfl) (by kernel_rfl) (by kernel_rfl) (fun _ _ _ h => h) (Or.inl ⟨by rfl, fun w' hSw => by go_simp⟩) hHeld ?_
      simp only [Act.put, List.getElem_toArray, List.getElem_cons_zero, List.getElem_cons_succ, List.setIfInBounds_toArray, List.set_cons_zero, List.set_cons_succ]
      refine wpAnyH_take (i := 6) (oi := _) (v := .string (bsB x1)) rfl (by kernel_rfl) (by kernel_rfl) (by kernel_rfl) (fun _ _ _ h => h) (Or.inl ⟨by rfl, fun w' hSw => by have hc := (SC.out w' hSw).2.1; go_simp⟩) hHeld ?_
      simp only [Act.put, List.getElem_toArray, List.getElem_cons_zero, List.getElem_cons_succ, List.setIfInBounds_toArray, List.set_cons_zero, List.set_cons_succ]
      refine wpAnyH_take (i := 8) (oi := _) (v := .slice (some ⟨w.heap.size + 1, 0, none⟩) (m + 4) (m + 4)) rfl (by kernel_rfl) (by kernel_rfl) (by kernel_rfl) (fun _ _ _ h => h) (Or.inl ⟨by rfl, fun w' hSw => by go_simp⟩) hHeld ?_
      simp only [Act.put, List.getElem_toArray, List.getElem_cons_zero, List.getElem_cons_succ, List.setIfInBounds_toArray, List.set_cons_zero, List.set_cons_succ]
      refine wpAnyH_take (i := 9) (oi := _) (v := .pointer (some ⟨w.heap.size + 1, 2, none⟩)) rfl (by kernel_rfl) (by kernel_rfl) (by kernel_rfl) (fun _ _ _ h => h) (Or.inl ⟨by rfl, fun w' hSw => by go_simp⟩) hHeld ?_
      simp only [Act.put, List.getElem_toArray, List.getElem_cons_zero, List.getElem_cons_succ, List.setIfInBounds_toArray, List.set_cons_zero, List.set_cons_succ]
      refine wpAnyH_take (i := 10) (oi := _) (v := .string (bsB x2)) rfl (by kernel_rfl) (by kernel_rfl) (by kernel_rfl) (fun _ _ _ h => h) (Or.inl ⟨by rfl, fun w' hSw => by have hc := (SC.out w' hSw).2.2.1; go_simp⟩) hHeld ?_
      simp only [Act.put, List.getElem_toArray, List.getElem_cons_zero, List.getElem_cons_succ, List.setIfInBounds_toArray, List.set_cons_zero, List.set_cons_succ]
      refine wpAnyH_take (i := 12) (oi := _) (v := .slice (some ⟨w.heap.size + 1, 0, none⟩) (m + 4) (m + 4)) rfl (by kernel_rfl) (by kernel_rfl) (by kernel_rfl) (fun _ _ _ h => h) (Or.inl ⟨by rfl, fun w' hSw => by go_simp⟩) hHeld ?_
      simp only [Act.put, List.getElem_toArray, List.getElem_cons_zero, List.getElem_cons_succ, List.setIfInBounds_toArray, List.set_cons_zero, List.set_cons_succ]
      refine wpAnyH_take (i := 13) (oi := _) (v := .pointer (some ⟨w.heap.size + 1, 3, none⟩)) rfl (by kernel_rfl) (by kernel_rfl) (by kernel_rfl) (fun _ _ _ h => h) (Or.inl ⟨by rfl, fun w' hSw => by go_simp⟩) hHeld ?_
      simp only [Act.put, List.getElem_toArray, List.getElem_cons_zero, List.getElem_cons_succ, List.setIfInBounds_toArray, List.set_cons_zero, List.set_cons_succ]
      refine wpAnyH_take (i := 14) (oi := _) (v := .string (bsB x3)) rfl (by kernel_rfl) (by kernel_rfl) (by kernel_rfl) (fun _ _ _ h => h) (Or.inl ⟨by rfl, fun w' hSw => by have hc := (SC.out w' hSw).2.2.2; go_simp⟩) hHeld ?_
      simp only [Act.put, List.getElem_toArray, List.getElem_cons_zero, List.getElem_cons_succ, List.setIfInBounds_toArray, List.set_cons_zero, List.set_cons_succ]
      refine wpAnyH_take (i := 15) (oi := _) (v := .bool B) rfl (by kernel_rfl) (by kernel_rfl) (by kernel_rfl) (fun _ _ _ h => h) (Or.inl ⟨by rfl, fun w' hSw => by have hb := HB.out; go_simp⟩) hHeld ?_
      simp only [Act.put, List.getElem_toArray, List.getElem_cons_zero, List.getElem_cons_succ, List.setIfInBounds_toArray, List.set_cons_zero, List.set_cons_succ]
      obtain ⟨w2, hw2⟩ : ∃ w2, w2 = w1.drew := ⟨_, rfl⟩
      rw [← hw2] at hHeld ⊢
      refine chain1 (S := S) 4 parseC 17 parseL (fun i a wx => a = parseF t w.heap.size m u15 x0 x1 x2 x3 B i none ∧ S wx) (fun i a wx => ∃ blk, a = parseF t w.heap.size m u15 x0 x1 x2 x3 B i (some blk) ∧ S wx ∧ w1.heap.size ≤ blk ∧ wx.heap[blk]? = some (.cells #[.int .i64 0, .slice none 0 0, .int .i64 0, .int .i64 0, .bool false] 24 (0, 0))) (by kernel_rfl) parseL_call parseL_new (fun _ _ _ h => h.2) (fun _ _ _ ⟨_, _, h, _⟩ => h) ?hm ?hc ?hc' 1 ?hfin _ _ ⟨by rw [HU.out]; rfl, hHeld⟩
      case hm =>
        intro i a wx K hi h hK
        obtain ⟨rfl, hSw⟩ := h
        show wpOp _ _ _ 17 K (parseFr t w.heap.size m u15 x0 x1 x2 x3 B undef (at1 1 i _) (at1 2 i _) (at1 3 i _) (at1 4 i _)) wx
        refine wpOp_step (i := 17) (o := _) rfl (fun K' hK' => ?_)
        go_simp
        exact hK' _ _ (hK _ _ ⟨wx.heap.size, rfl, by rw [hS] at hSw ⊢; exact hSw.alloc hSw.size _, by rw [hS] at hSw; exact hSw.size, heap_alloc_new wx _⟩)
      case hc =>
        intro i a wx K hi h hK
        obtain ⟨rfl, hSw⟩ := h
        have T2 : Tabs wx := by rw [hS] at hSw; exact (TT.out.on B1.out).on hSw
        have HS : ∀ w', RowKit.Below wx.heap.size wx w' → S w' := fun w' h => by rw [hS] at hSw ⊢; exact hSw.trans (h.mono hSw.size)
        rcases (by omega : i = 0 ∨ i = 1 ∨ i = 2 ∨ i = 3) with rfl | rfl | rfl | rfl
        · show wpOp _ _ _ 3 K (parseFr t w.heap.size m u15 x0 x1 x2 x3 B undef undef undef undef undef) wx
          refine wpOp_step (i := 3) (o := _) rfl (fun K' hK' => ?_)
          go_simp
          refine (numberW_any x0 _ T2 SH.out.1).mono ?_
          rintro e w3 ⟨rfl, b3⟩
          exact hK' _ _ (hK _ _ ⟨rfl, HS _ b3⟩)
        · show wpOp _ _ _ 7 K (parseFr t w.heap.size m u15 x0 x1 x2 x3 B undef (.int .i64 (numP x0)) undef undef undef) wx
          refine wpOp_step (i := 7) (o := _) rfl (fun K' hK' => ?_)
          go_simp
          refine (numberW_any x1 _ T2 SH.out.2.1).mono ?_
          rintro e w3 ⟨rfl, b3⟩
          exact hK' _ _ (hK _ _ ⟨rfl, HS _ b3⟩)
        · show wpOp _ _ _ 11 K (parseFr t w.heap.size m u15 x0 x1 x2 x3 B undef (.int .i64 (numP x0)) (.int .i64 (numP x1)) undef undef) wx
          refine wpOp_step (i := 11) (o := _) rfl (fun K' hK' => ?_)
          go_simp
          refine (numberW_any x2 _ T2 SH.out.2.2.1).mono ?_
          rintro e w3 ⟨rfl, b3⟩
          exact hK' _ _ (hK _ _ ⟨rfl, HS _ b3⟩)
        · show wpOp _ _ _ 16 K (parseFr t w.heap.size m u15 x0 x1 x2 x3 B undef (.int .i64 (numP x0)) (.int .i64 (numP x1)) (.int .i64 (numP x2)) undef) wx
          refine wpOp_step (i := 16) (o := _) rfl (fun K' hK' => ?_)
          go_simp
          exact hK' _ _ (hK _ _ ⟨rfl, hSw⟩)
      case hc' =>
        intro i a wx K hi h hK
        obtain ⟨blk, rfl, hSw, hb, hh⟩ := h
        have T2 : Tabs wx := by rw [hS] at hSw; exact (TT.out.on B1.out).on hSw
        have HS : ∀ w', RowKit.Below wx.heap.size wx w' → S w' := fun w' h => by rw [hS] at hSw ⊢; exact hSw.trans (h.mono hSw.size)
        rcases (by omega : i = 0 ∨ i = 1 ∨ i = 2 ∨ i = 3) with rfl | rfl | rfl | rfl
        · show wpOp _ _ _ 3 K (parseFr t w.heap.size m u15 x0 x1 x2 x3 B (.pointer (some ⟨blk, 0, none⟩)) undef undef undef undef) wx
          refine wpOp_step (i := 3) (o := _) rfl (fun K' hK' => ?_)
          go_simp
          refine (numberW_any x0 _ T2 SH.out.1).mono ?_
          rintro e w3 ⟨rfl, b3⟩
          exact hK' _ _ (hK _ _ ⟨blk, rfl, HS _ b3, hb, (b3.block _ (Array.getElem?_eq_some_iff.1 hh).1).trans hh⟩)
        · show wpOp _ _ _ 7 K (parseFr t w.heap.size m u15 x0 x1 x2 x3 B (.pointer (some ⟨blk, 0, none⟩)) (.int .i64 (numP x0)) undef undef undef) wx
          refine wpOp_step (i := 7) (o := _) rfl (fun K' hK' => ?_)
          go_simp
          refine (numberW_any x1 _ T2 SH.out.2.1).mono ?_
          rintro e w3 ⟨rfl, b3⟩
          exact hK' _ _ (hK _ _ ⟨blk, rfl, HS _ b3, hb, (b3.block _ (Array.getElem?_eq_some_iff.1 hh).1).trans hh⟩)
        · show wpOp _ _ _ 11 K (parseFr t w.heap.size m u15 x0 x1 x2 x3 B (.pointer (some ⟨blk, 0, none⟩)) (.int .i64 (numP x0)) (.int .i64 (numP x1)) undef undef) wx
          refine wpOp_step (i := 11) (o := _) rfl (fun K' hK' => ?_)
          go_simp
          refine (numberW_any x2 _ T2 SH.out.2.2.1).mono ?_
          rintro e w3 ⟨rfl, b3⟩
          exact hK' _ _ (hK _ _ ⟨blk, rfl, HS _ b3, hb, (b3.block _ (Array.getElem?_eq_some_iff.1 hh).1).trans hh⟩)
        · show wpOp _ _ _ 16 K (parseFr t w.heap.size m u15 x0 x1 x2 x3 B (.pointer (some ⟨blk, 0, none⟩)) (.int .i64 (numP x0)) (.int .i64 (numP x1)) (.int .i64 (numP x2)) undef) wx
          refine wpOp_step (i := 16) (o := _) rfl (fun K' hK' => ?_)
          go_simp
          exact hK' _ _ (hK _ _ ⟨blk, rfl, hSw, hb, hh⟩)
      case hfin =>
        intro a wx h
        obtain ⟨blk, rfl, hSw, hb, hh⟩ := h
        obtain ⟨⟨e0, e1, e2, e3, e4⟩, f0, f1, f2, f3, f4⟩ := cells5 hh
        show wpAnyH _ _ _ _ S 1 _ (parseFr t w.heap.size m u15 x0 x1 x2 x3 B (.pointer (some ⟨blk, 0, none⟩)) (.int .i64 (numP x0)) (.int .i64 (numP x1)) (.int .i64 (numP x2)) (.agg #[.int .i64 (numP x0), .slice none 0 0, .int .i64 (numP x1), .int .i64 (numP x2), .bool B])) wx
        refine wpAnyH_ready (rs := [18]) (by kernel_rfl) (by simp) ?_
        refine AllReadyH.cons (o := _) rfl (fun K hK => ?_) AllReadyH.nil
        go_simp
        have hB4 : RowKit.Below w1.heap.size w1 (five wx blk (.int .i64 (numP x0)) (.slice none 0 0) (.int .i64 (numP x1)) (.int .i64 (numP x2)) (.bool B)) := by rw [hS] at hSw; exact five_below hSw hb _ _ _ _ _
        refine hK.out _ _ (by rw [hS]; exact hB4) (fun hH => ?_)
        refine wpAnyH_done (by kernel_rfl) ?_ _
        clear hK K
        show Exit.then _ _ Exit.normal _ (five wx blk (.int .i64 (numP x0)) (.slice none 0 0) (.int .i64 (numP x1)) (.int .i64 (numP x2)) (.bool B))
        go_wp2
        go_meet
        exact ⟨blk, rfl, hb, five_at hh _ _ _ _ _, hB4⟩
    case rest =>
      obtain ⟨b, rfl, hb, hh, hbw⟩ := hcut
      obtain ⟨w2, rfl⟩ : ∃ w2 : World, w2 = wc := ⟨_, rfl⟩
      have B2 := Lib.hid hbw
      have HH := Lib.hid hh
      have RC := Lib.hid (show ∀ k (h : k < m) w', Below w1.heap.size w1 w' → w'.cell? ⟨w.heap.size + 1, 4 + k, none⟩ = some (.string (bsB (rest[k]'(by have := HM.out; omega)))) from fun k h w' hw' => by
        have e := (hw'.block (w.heap.size + 1) (by have := L1.out; omega)).trans D1.out
        rw [HX.out] at e
        have e2 := HM.out
        simp only [World.cell?, e, List.map_cons]
        rw [Nat.add_comm 4 k]
        simp [List.getElem?_eq_getElem (show k < rest.length by omega)])
      clear hS SC hbw hh htest S HU
      go_upto_region 5 with fail
      go_cut [36, 37, 38] (fun v u i wx => (∃ oo, v = .slice (some ⟨w.heap.size + 1, oo, none⟩) m m ∧ (m ≠ 0 → oo = 4)) ∧ u = .int .i64 m ∧ i = .int .i64 0 ∧ wx = w2)
      case first =>
        have h0 : m = 0 ∨ 0 < m := by omega
        rcases h0 with rfl | h0
        · go_wp2
          go_meet
          exact ⟨⟨_, rfl, fun h => absurd rfl h⟩, rfl, rfl, rfl⟩
        · have h0' : ¬ m = 0 := by omega
          go_wp2
          go_meet
          exact ⟨⟨_, rfl, fun _ => rfl⟩, rfl, rfl, rfl⟩
      case rest =>
        obtain ⟨⟨oo, rfl, hoo⟩, rfl, rfl, e0⟩ := hcut
        obtain rfl := e0.symm
        have OO := Lib.hid hoo
        clear hoo i0 i1 i2 i3
        have ROW := Lib.hid (show OwnP w1.heap.size w2 (.slice none 0 0) ((rest.take 0).map regP) from ⟨rfl, .inl ⟨rfl, rfl⟩⟩)
        go_wp2
        go_loopw [7, 8, 9, 10, 38] (fun _ _ _ _ i wr => ∃ k : Nat, k ≤ m ∧ i = .int .i64 k ∧ ∃ v, wr.heap[b]? = some (.cells #[.int .i64 (numP x0), v, .int .i64 (numP x1), .int .i64 (numP x2), .bool B] 24 (0, 0)) ∧ OwnP w1.heap.size wr v ((rest.take k).map regP) ∧ v.ownBlock ≠ some b ∧ Below w1.heap.size w1 wr) (fun _ _ _ _ i _ => m - (RowKit.intOf i).toNat)
        case atStart => exact ⟨0, by omega, rfl, _, HH.out, ROW.out, by simp [Value.ownBlock], B2.out⟩
        case round =>
          obtain ⟨k, hk, rfl, v, hv, hown, hnb, hbw⟩ := hrel
          have HV := Lib.hid hv
          have OWN := Lib.hid hown
          have NB := Lib.hid hnb
          have BW := Lib.hid hbw
          have LE := L1.out
          clear hv hown hnb hbw HH B2 ROW
          by_cases hlt : k < m
          · have c1 := RC.out k hlt _ BW.out
            have hlr : k < rest.length := by have := HM.out; omega
            obtain ⟨x, hx⟩ : ∃ x, x = rest[k] := ⟨_, rfl⟩
            rw [← hx] at c1
            obtain rfl : oo = 4 := OO.out (by omega)
            have HXK := Lib.hid hx
            have SX := Lib.hid (show x.length ≤ 200 from hx ▸ SH.out.2.2.2.2 _ (List.getElem_mem _))
            clear hx
            go_wp2_with fail
            refine (cutW_any x _ ((TT.out.on B1.out).on BW.out) SX.out).mono ?_
            rintro e w5 ⟨rfl, b5⟩
            obtain ⟨y1, hy1⟩ : ∃ y1, y1 = (Lib.cut x [58]).1 := ⟨_, rfl⟩
            obtain ⟨y2, hy2⟩ : ∃ y2, y2 = (Lib.cut x [58]).2.1 := ⟨_, rfl⟩
            obtain ⟨y3, hy3⟩ : ∃ y3, y3 = (Lib.cut x [58]).2.2 := ⟨_, rfl⟩
            rw [← hy1, ← hy2, ← hy3]
            have Y := Lib.hid (show regP x = (numP y1, numP y2) ∧ y1.length ≤ 200 ∧ y2.length ≤ 200 from by
              have := cut_short x [58]
              have := SX.out
              rw [hy1, hy2]
              exact ⟨rfl, by omega, by omega⟩)
            have B5 := Lib.hid (BW.out.trans (b5.mono BW.out.size))
            have V5 := Lib.hid ((b5.block b (Array.getElem?_eq_some_iff.1 HV.out).1).trans HV.out)
            have O5 := Lib.hid (show OwnP w1.heap.size w5 v ((rest.take k).map regP) from OwnP.below OWN.out b5)
            clear hy1 hy2 hy3 HV OWN BW b5 c1
            go_upto_region 9 with fail
            refine wp_region_held_drew (S := fun _ => True) (by kernel_rfl) trivial (fun hHeld => ?_)
            refine wpAnyH_take (i := 0) (oi := _) (v := .pointer (some ⟨b, 1, none⟩)) rfl (by kernel_rfl) (by kernel_rfl) (by kernel_rfl) (fun _ _ _ h => h) (Or.inl ⟨by rfl, fun w' hSw => by go_simp⟩) hHeld ?_
            simp only [Act.put, List.getElem_toArray, List.getElem_cons_zero, List.getElem_cons_succ, List.setIfInBounds_toArray, List.set_cons_zero, List.set_cons_succ]
            refine wpAnyH_take (i := 2) (oi := _) (v := .string (bsB y1)) rfl (by kernel_rfl) (by kernel_rfl) (by kernel_rfl) (fun _ _ _ h => h) (Or.inl ⟨by rfl, fun w' hSw => by go_simp⟩) hHeld ?_
            simp only [Act.put, List.getElem_toArray, List.getElem_cons_zero, List.getElem_cons_succ, List.setIfInBounds_toArray, List.set_cons_zero, List.set_cons_succ]
            refine wpAnyH_take (i := 4) (oi := _) (v := .string (bsB y2)) rfl (by kernel_rfl) (by kernel_rfl) (by kernel_rfl) (fun _ _ _ h => h) (Or.inl ⟨by rfl, fun w' hSw => by go_simp⟩) hHeld ?_
            simp only [Act.put, List.getElem_toArray, List.getElem_cons_zero, List.getElem_cons_succ, List.setIfInBounds_toArray, List.set_cons_zero, List.set_cons_succ]
            refine chain1 (S := fun _ => True) 4 roundC 1 roundL (fun i a wx => ∃ sb, a = (roundFr t w.heap.size m b k x y1 y2 y3 u11 u12 u13 u14 u15 u16 u17 u18 u19 u20 u21 u22 u23 u24 u25 u26 u27 u28 u29 u30 u31 u32 u33 u34 u35 u49 (atU 1 i (.int .i64 (numP y1)) u51) (atU 2 i (.int .i64 (numP y2)) u53) (atU 3 i (.agg #[.int .i64 (numP y1), .int .i64 (numP y2)]) u54) (atU 4 i (.slice (some ⟨sb, 0, none⟩) 1 1) u55) u56 u57 u58 u59 u60 u61 u62 u63 u64 u65 u66 u67 u68 u69 u70) ∧ Below w5.heap.size w5 wx ∧ (i = 4 → w5.heap.size ≤ sb ∧ wx.heap[sb]? = some (.cells #[.int .i64 (numP y1), .int .i64 (numP y2)] 48 (0, 0)))) (fun i a wx => ∃ sb, a = (roundFr t w.heap.size m b k x y1 y2 y3 u11 u12 u13 u14 u15 u16 u17 u18 u19 u20 u21 u22 u23 u24 u25 u26 u27 u28 u29 u30 u31 u32 u33 u34 u35 v (atU 1 i (.int .i64 (numP y1)) u51) (atU 2 i (.int .i64 (numP y2)) u53) (atU 3 i (.agg #[.int .i64 (numP y1), .int .i64 (numP y2)]) u54) (atU 4 i (.slice (some ⟨sb, 0, none⟩) 1 1) u55) u56 u57 u58 u59 u60 u61 u62 u63 u64 u65 u66 u67 u68 u69 u70) ∧ Below w5.heap.size w5 wx ∧ (i = 4 → w5.heap.size ≤ sb ∧ wx.heap[sb]? = some (.cells #[.int .i64 (numP y1), .int .i64 (numP y2)] 48 (0, 0)))) (by kernel_rfl) roundL_call roundL_load (fun _ _ _ _ => trivial) (fun _ _ _ _ => trivial) ?hm ?hc ?hc' 3 ?hfin _ _ ⟨0, rfl, (Below.refl _ _).drew, fun h => by cases h⟩
            case hm =>
              intro i a wx K hi h hK
              obtain ⟨sb, rfl, hbx, hsb⟩ := h
              have e1 := (hbx.block b (Array.getElem?_eq_some_iff.1 V5.out).1).trans V5.out
              have e2 : wx.cell? ⟨b, 1, none⟩ = some v := by simp [World.cell?, e1]
              show wpOp _ _ _ 1 K (roundFr t w.heap.size m b k x y1 y2 y3 u11 u12 u13 u14 u15 u16 u17 u18 u19 u20 u21 u22 u23 u24 u25 u26 u27 u28 u29 u30 u31 u32 u33 u34 u35 u49 (atU 1 i _ _) (atU 2 i _ _) (atU 3 i _ _) (atU 4 i _ _) u56 u57 u58 u59 u60 u61 u62 u63 u64 u65 u66 u67 u68 u69 u70) wx
              refine wpOp_step (i := 1) (o := _) rfl (fun K' hK' => ?_)
              have HSB := Lib.hid hsb
              clear hsb e1
              go_simp
              exact hK' _ _ (hK _ _ ⟨sb, rfl, hbx, HSB.out⟩)
            case hc =>
              intro i a wx K hi h hK
              obtain ⟨sb, rfl, hbx, hsb⟩ := h
              have T2 : Tabs wx := ((TT.out.on B1.out).on B5.out).on hbx
              have HBX := Lib.hid hbx
              clear hsb
              rcases (by omega : i = 0 ∨ i = 1 ∨ i = 2 ∨ i = 3) with rfl | rfl | rfl | rfl
              · show wpOp _ _ _ 3 K (roundFr t w.heap.size m b k x y1 y2 y3 u11 u12 u13 u14 u15 u16 u17 u18 u19 u20 u21 u22 u23 u24 u25 u26 u27 u28 u29 u30 u31 u32 u33 u34 u35 u49 u51 u53 u54 u55 u56 u57 u58 u59 u60 u61 u62 u63 u64 u65 u66 u67 u68 u69 u70) wx
                refine wpOp_step (i := 3) (o := _) rfl (fun K' hK' => ?_)
                go_simp
                refine (numberW_any y1 _ T2 Y.out.2.1).mono ?_
                rintro e w6 ⟨rfl, b6⟩
                exact hK' _ _ (hK _ _ ⟨sb, rfl, HBX.out.trans (b6.mono HBX.out.size), fun h => by cases h⟩)
              · show wpOp _ _ _ 5 K (roundFr t w.heap.size m b k x y1 y2 y3 u11 u12 u13 u14 u15 u16 u17 u18 u19 u20 u21 u22 u23 u24 u25 u26 u27 u28 u29 u30 u31 u32 u33 u34 u35 u49 (.int .i64 (numP y1)) u53 u54 u55 u56 u57 u58 u59 u60 u61 u62 u63 u64 u65 u66 u67 u68 u69 u70) wx
                refine wpOp_step (i := 5) (o := _) rfl (fun K' hK' => ?_)
                go_simp
                refine (numberW_any y2 _ T2 Y.out.2.2).mono ?_
                rintro e w6 ⟨rfl, b6⟩
                exact hK' _ _ (hK _ _ ⟨sb, rfl, HBX.out.trans (b6.mono HBX.out.size), fun h => by cases h⟩)
              · show wpOp _ _ _ 6 K (roundFr t w.heap.size m b k x y1 y2 y3 u11 u12 u13 u14 u15 u16 u17 u18 u19 u20 u21 u22 u23 u24 u25 u26 u27 u28 u29 u30 u31 u32 u33 u34 u35 u49 (.int .i64 (numP y1)) (.int .i64 (numP y2)) u54 u55 u56 u57 u58 u59 u60 u61 u62 u63 u64 u65 u66 u67 u68 u69 u70) wx
                refine wpOp_step (i := 6) (o := _) rfl (fun K' hK' => ?_)
                go_simp
                exact hK' _ _ (hK _ _ ⟨sb, rfl, HBX.out, fun h => by cases h⟩)
              · show wpOp _ _ _ 7 K (roundFr t w.heap.size m b k x y1 y2 y3 u11 u12 u13 u14 u15 u16 u17 u18 u19 u20 u21 u22 u23 u24 u25 u26 u27 u28 u29 u30 u31 u32 u33 u34 u35 u49 (.int .i64 (numP y1)) (.int .i64 (numP y2)) (.agg #[.int .i64 (numP y1), .int .i64 (numP y2)]) u55 u56 u57 u58 u59 u60 u61 u62 u63 u64 u65 u66 u67 u68 u69 u70) wx
                refine wpOp_step (i := 7) (o := _) rfl (fun K' hK' => ?_)
                go_simp
                exact hK' _ _ (hK _ _ ⟨wx.heap.size, rfl, HBX.out.alloc HBX.out.size _, fun _ => ⟨HBX.out.size, heap_alloc_new wx _⟩⟩)
            case hc' =>
              intro i a wx K hi h hK
              obtain ⟨sb, rfl, hbx, hsb⟩ := h
              have T2 : Tabs wx := ((TT.out.on B1.out).on B5.out).on hbx
              have HBX := Lib.hid hbx
              clear hsb
              rcases (by omega : i = 0 ∨ i = 1 ∨ i = 2 ∨ i = 3) with rfl | rfl | rfl | rfl
              · show wpOp _ _ _ 3 K (roundFr t w.heap.size m b k x y1 y2 y3 u11 u12 u13 u14 u15 u16 u17 u18 u19 u20 u21 u22 u23 u24 u25 u26 u27 u28 u29 u30 u31 u32 u33 u34 u35 v u51 u53 u54 u55 u56 u57 u58 u59 u60 u61 u62 u63 u64 u65 u66 u67 u68 u69 u70) wx
                refine wpOp_step (i := 3) (o := _) rfl (fun K' hK' => ?_)
                go_simp
                refine (numberW_any y1 _ T2 Y.out.2.1).mono ?_
                rintro e w6 ⟨rfl, b6⟩
                exact hK' _ _ (hK _ _ ⟨sb, rfl, HBX.out.trans (b6.mono HBX.out.size), fun h => by cases h⟩)
              · show wpOp _ _ _ 5 K (roundFr t w.heap.size m b k x y1 y2 y3 u11 u12 u13 u14 u15 u16 u17 u18 u19 u20 u21 u22 u23 u24 u25 u26 u27 u28 u29 u30 u31 u32 u33 u34 u35 v (.int .i64 (numP y1)) u53 u54 u55 u56 u57 u58 u59 u60 u61 u62 u63 u64 u65 u66 u67 u68 u69 u70) wx
                refine wpOp_step (i := 5) (o := _) rfl (fun K' hK' => ?_)
                go_simp
                refine (numberW_any y2 _ T2 Y.out.2.2).mono ?_
                rintro e w6 ⟨rfl, b6⟩
                exact hK' _ _ (hK _ _ ⟨sb, rfl, HBX.out.trans (b6.mono HBX.out.size), fun h => by cases h⟩)
              · show wpOp _ _ _ 6 K (roundFr t w.heap.size m b k x y1 y2 y3 u11 u12 u13 u14 u15 u16 u17 u18 u19 u20 u21 u22 u23 u24 u25 u26 u27 u28 u29 u30 u31 u32 u33 u34 u35 v (.int .i64 (numP y1)) (.int .i64 (numP y2)) u54 u55 u56 u57 u58 u59 u60 u61 u62 u63 u64 u65 u66 u67 u68 u69 u70) wx
                refine wpOp_step (i := 6) (o := _) rfl (fun K' hK' => ?_)
                go_simp
                exact hK' _ _ (hK _ _ ⟨sb, rfl, HBX.out, fun h => by cases h⟩)
              · show wpOp _ _ _ 7 K (roundFr t w.heap.size m b k x y1 y2 y3 u11 u12 u13 u14 u15 u16 u17 u18 u19 u20 u21 u22 u23 u24 u25 u26 u27 u28 u29 u30 u31 u32 u33 u34 u35 v (.int .i64 (numP y1)) (.int .i64 (numP y2)) (.agg #[.int .i64 (numP y1), .int .i64 (numP y2)]) u55 u56 u57 u58 u59 u60 u61 u62 u63 u64 u65 u66 u67 u68 u69 u70) wx
                refine wpOp_step (i := 7) (o := _) rfl (fun K' hK' => ?_)
                go_simp
                exact hK' _ _ (hK _ _ ⟨wx.heap.size, rfl, HBX.out.alloc HBX.out.size _, fun _ => ⟨HBX.out.size, heap_alloc_new wx _⟩⟩)
            case hfin =>
              intro a wx h
              obtain ⟨sb, rfl, hbx, hsb⟩ := h
              obtain ⟨hs1, hs2⟩ := hsb rfl
              have BX := Lib.hid hbx
              have HS1 := Lib.hid hs1
              have HS2 := Lib.hid hs2
              have OX := Lib.hid (show OwnP w1.heap.size wx v ((rest.take k).map regP) from OwnP.below O5.out hbx)
              clear hbx hs1 hs2 hsb
              obtain ⟨i0, hi0, hz0, hz1, hz2⟩ := info_parts Tryz.infoReg
              show wpAnyH _ _ _ _ _ 3 _ (roundFr t w.heap.size m b k x y1 y2 y3 u11 u12 u13 u14 u15 u16 u17 u18 u19 u20 u21 u22 u23 u24 u25 u26 u27 u28 u29 u30 u31 u32 u33 u34 u35 v (.int .i64 (numP y1)) (.int .i64 (numP y2)) (.agg #[.int .i64 (numP y1), .int .i64 (numP y2)]) (.slice (some ⟨sb, 0, none⟩) 1 1) u56 u57 u58 u59 u60 u61 u62 u63 u64 u65 u66 u67 u68 u69 u70) wx
              refine wpAnyH_ready (rs := [8]) (by kernel_rfl) (by simp) ?_
              refine AllReadyH.cons (o := _) rfl (fun K hK => ?_) AllReadyH.nil
              refine step_append_lies _ (by rfl) _ _ _ (by rfl) w1.heap.size 48 i0 _ 2 16 Tryz.underlying22 hi0 hz0 hz1 hz2 rfl (by omega) v _ _ (by rfl) OX.out ⟨sb, 0, none⟩ 1 1 (pcells [(numP y1, numP y2)]) (by rfl) (by rfl) (World.news_of_block HS2.out) (pcells_one _) (by omega) ?len1 ?len2 (by have := BX.out.size; have := B5.out.size; omega) _ rfl ?_
              case len1 => rw [List.length_map, List.length_take]; unfold maxLen; omega
              case len2 => rw [List.length_map, List.length_take]; omega
              intro g9 cap9 w9 own9 grow9 at9 lt9
              obtain ⟨n9, hn9⟩ : ∃ n9, n9 = ((rest.take k).map regP).length + 1 := ⟨_, rfl⟩
              have LO := Lib.hid (show ∀ q, v.ownBlock = some q → w1.heap.size ≤ q from fun q hq => (World.ownsRow.lt OX.out q hq).1)
              have bx : b < w5.heap.size := (Array.getElem?_eq_some_iff.1 V5.out).1
              have B9 := Lib.hid (show RowKit.Below w1.heap.size w1 w9 from (B5.out.trans (BX.out.mono B5.out.size)).grown grow9 (by have := BX.out.size; have := B5.out.size; omega) LO.out)
              have E9 := Lib.hid (show w9.heap[b]? = some (.cells #[.int .i64 (numP x0), v, .int .i64 (numP x1), .int .i64 (numP x2), .bool B] 24 (0, 0)) from (grow9.block b (by have := BX.out.size; omega) (fun e => NB.out e.symm)).trans ((BX.out.block b bx).trans V5.out))
              have OW9 := Lib.hid (show OwnP w1.heap.size w9 (.slice (some ⟨g9, 0, none⟩) n9 cap9) ((rest.take (k + 1)).map regP) from by
                have h := own_snoc own9
                rw [← hn9] at h
                rw [List.take_succ_eq_append_getElem hlr, List.map_append, List.map_singleton, ← HXK.out, Y.out.1]
                exact h)
              have NB9 := Lib.hid (show (Value.slice (some ⟨g9, 0, none⟩) n9 cap9).ownBlock ≠ some b from by
                intro e
                have e : g9 = b := by simpa [Value.ownBlock] using e
                rcases at9 with h | h
                · exact NB.out (h.trans (by rw [e]))
                · have := BX.out.size; omega)
              rw [← hn9]
              refine hK.out _ _ trivial (fun hH9 => ?_)
              clear hK K hH9 own9 grow9 at9 lt9 hn9
              have hE9 := E9.out
              obtain ⟨⟨e0, e1, e2, e3, e4⟩, f0, f1, f2, f3, f4⟩ := cells5 hE9
              refine wpAnyH_ready (rs := [9]) (by kernel_rfl) (by simp) ?_
              refine AllReadyH.cons (o := _) rfl (fun K hK => ?_) AllReadyH.nil
              go_simp
              refine hK.out _ _ trivial (fun hH9 => ?_)
              clear hK K hH9
              refine wpAnyH_ready (rs := [10]) (by kernel_rfl) (by simp) ?_
              refine AllReadyH.cons (o := _) rfl (fun K hK => ?_) AllReadyH.nil
              go_simp
              refine hK.out _ _ trivial (fun hH9 => ?_)
              clear hK K hH9 e0 e1 e2 e3 e4 f0 f1 f2 f3 f4 hE9
              refine wpAnyH_done (by kernel_rfl) ?_ _
              have R10 := Lib.hid (show (w9.setCell ⟨b, 1, none⟩ (.slice (some ⟨g9, 0, none⟩) n9 cap9)).heap[b]? = some (.cells #[.int .i64 (numP x0), (.slice (some ⟨g9, 0, none⟩) n9 cap9), .int .i64 (numP x1), .int .i64 (numP x2), .bool B] 24 (0, 0)) ∧ OwnP w1.heap.size (w9.setCell ⟨b, 1, none⟩ (.slice (some ⟨g9, 0, none⟩) n9 cap9)) (.slice (some ⟨g9, 0, none⟩) n9 cap9) ((rest.take (k + 1)).map regP) ∧ (Value.slice (some ⟨g9, 0, none⟩) n9 cap9).ownBlock ≠ some b ∧ RowKit.Below w1.heap.size w1 (w9.setCell ⟨b, 1, none⟩ (.slice (some ⟨g9, 0, none⟩) n9 cap9)) from
                ⟨one_setCell E9.out (.slice (some ⟨g9, 0, none⟩) n9 cap9), ownsRow_setCell_other OW9.out NB9.out _, NB9.out, B9.out.setCell (p := ⟨b, 1, none⟩) hb (.slice (some ⟨g9, 0, none⟩) n9 cap9)⟩)
              obtain ⟨w10, hw10⟩ : ∃ w10, w10 = w9.setCell ⟨b, 1, none⟩ (.slice (some ⟨g9, 0, none⟩) n9 cap9) := ⟨_, rfl⟩
              rw [← hw10] at R10 ⊢
              clear hw10 B9 E9 OW9 NB9
              go_wp2
              go_roundw
              case rel => exact ⟨k + 1, by omega, by go_num, _, R10.out.1, R10.out.2.1, R10.out.2.2.1, R10.out.2.2.2⟩
              case measure => simp [RowKit.intOf]; omega
          · obtain rfl : k = m := by omega
            have hL : (rest.take k).map regP = rest.map regP := by rw [List.take_of_length_le (by have := HM.out; omega)]
            obtain ⟨RL, hRL⟩ : ∃ RL, RL = rest.map regP := ⟨_, rfl⟩
            rw [hL, ← hRL] at OWN
            obtain ⟨a, cap, rfl, hpa, hcap⟩ := OwnP.shape OWN.out
            have hlen : RL.length = k := by rw [hRL, List.length_map]; exact HM.out.symm
            obtain ⟨e0, e1, e2, e3, e4⟩ := (cells5 HV.out).1
            have S0 := Lib.hid (show ∀ s, Good s → bsB (stText s) = t → s = ⟨numP x0, RL, numP x1, numP x2, B⟩ from fun s hg e => by
              have h1 := wordsP_text hg (t := t.data.toList) (by rw [← e, bsB_list])
              have h2 := HW.out
              unfold wordsL at h2
              rw [← h2, HX.out] at h1
              rw [← h1, ← HB.out, ← beq_toListBytes' x3, hRL]
              rfl)
            have STR := Lib.hid (show StR wr ⟨numP x0, RL, numP x1, numP x2, B⟩ a from ⟨by unfold maxLen; dsimp only; omega, hpa⟩)
            have BLT := Lib.hid (Array.getElem?_eq_some_iff.1 HV.out).1
            obtain ⟨T, hT⟩ : ∃ T, T = bsB (stText ⟨numP x0, RL, numP x1, numP x2, B⟩) := ⟨_, rfl⟩
            have HT := Lib.hid hT
            have ALO := Lib.hid (show ∀ q o, a = some ⟨q, o, none⟩ → w1.heap.size ≤ q from fun q o e => OwnP.blk OWN.out q (by rw [e]; rfl))
            clear hL hpa hcap hlen hlt hRL hT NB OWN
            go_wp2_with fail
            refine (check_any ⟨numP x0, RL, numP x1, numP x2, B⟩ a cap _ STR.out).mono ?_
            rintro e w6 ⟨rfl, b6⟩
            have B6 := Lib.hid b6
            have Z6 := Lib.hid (show w6.heap[w.heap.size]? = some (.cells #[.int .i64 0, .slice none 0 0, .int .i64 0, .int .i64 0, .bool false] 24 (0, 0)) from (b6.block _ (by have := BW.out.size; omega)).trans ((BW.out.block _ (by omega)).trans R1.out))
            have W6 := Lib.hid (show Below w.heap.size w w6 from (B1.out.trans (BW.out.mono (by omega))).trans (b6.mono (by have := BW.out.size; omega)))
            have V6 := Lib.hid ((b6.block b BLT.out).trans HV.out)
            clear e0 e1 e2 e3 e4 b6
            by_cases hf : stateFault ⟨numP x0, RL, numP x1, numP x2, B⟩ = 0
            · rw [hf, errV_nil]
              have HG := Lib.hid ((good_iff _).1 hf)
              obtain ⟨e0, e1, e2, e3, e4⟩ := (cells5 V6.out).1
              clear hf
              go_wp2_with fail
              refine (text_any ⟨numP x0, RL, numP x1, numP x2, B⟩ a cap _ ((TT.out.on W6.out)) (STR.out.below B6.out) HG.out.fits (by have := HG.out.regs_len; omega)).mono ?_
              rintro e w7 ⟨rfl, b7⟩
              rw [← HT.out]
              have W7 := Lib.hid (W6.out.trans (b7.mono W6.out.size))
              have Z7 := Lib.hid ((b7.block _ (Array.getElem?_eq_some_iff.1 Z6.out).1).trans Z6.out)
              have V7 := Lib.hid ((b7.block b (Array.getElem?_eq_some_iff.1 V6.out).1).trans V6.out)
              have S7 := Lib.hid ((STR.out.below B6.out).below b7)
              clear e0 e1 e2 e3 e4 b7
              obtain ⟨⟨z0, z1, z2, z3, z4⟩, f0, f1, f2, f3, f4⟩ := cells5 Z7.out
              by_cases he : T = t
              · obtain ⟨e0, e1, e2, e3, e4⟩ := (cells5 V7.out).1
                have hq : (T.toList == t.toList) = true := by rw [he]; simp
                have hq2 : (T.toList != t.toList) = false := by rw [he]; simp
                have HE := Lib.hid he
                clear he
                go_wp2
                refine bodyPost_ret (v := .tuple #[stV ⟨numP x0, RL, numP x1, numP x2, B⟩ a cap, .nilIface]) (results_r2 Tryz.results6 _ _ w.heap.size 24 #[.int .i64 (numP x0), .slice a RL.length cap, .int .i64 (numP x1), .int .i64 (numP x2), .bool B] _ .nilIface rfl rfl (five_at Z7.out _ _ _ _ _) state_row.1 rfl state_row.2) rfl ?_
                exact ⟨.inl ⟨_, a, cap, HG.out, by rw [← HT.out, HE.out], rfl, StR.five S7.out (fun q o e => by have := ALO.out q o e; omega) _ _ _ _ _, fun q o e => by have := ALO.out q o e; omega⟩, five_below W7.out (Nat.le_refl _) _ _ _ _ _⟩
              · have hq : (T.toList == t.toList) = false := by rw [ByteArray.toList_eq, ByteArray.toList_eq]; exact beq_eq_false_iff_ne.2 (fun h => he (ByteArray.ext (Array.toList_inj.1 h)))
                have hq2 : (T.toList != t.toList) = true := by rw [bne, hq]; rfl
                have HE := Lib.hid he
                clear he
                go_wp2
                refine bodyPost_ret (v := .tuple #[stV ⟨0, [], 0, 0, false⟩ none 0, errV 3]) (results_r2 Tryz.results6 _ _ w.heap.size 24 #[.int .i64 0, .slice none 0 0, .int .i64 0, .int .i64 0, .bool false] _ (errV 3) rfl rfl (five_at Z7.out _ _ _ _ _) state_row.1 rfl state_row.2) rfl ?_
                exact ⟨.inr ⟨fun s hg e => HE.out (by rw [HT.out, ← S0.out s hg e, e]), rfl⟩, five_below W7.out (Nat.le_refl _) _ _ _ _ _⟩
            · rw [errV_some hf]
              obtain ⟨⟨z0, z1, z2, z3, z4⟩, f0, f1, f2, f3, f4⟩ := cells5 Z6.out
              have HF := Lib.hid hf
              obtain ⟨sf, hsf⟩ : ∃ sf, sf = stateFault ⟨numP x0, RL, numP x1, numP x2, B⟩ := ⟨_, rfl⟩
              rw [← hsf]
              clear hf hsf
              go_wp2
              refine bodyPost_ret (v := .tuple #[stV ⟨0, [], 0, 0, false⟩ none 0, errV 3]) (results_r2 Tryz.results6 _ _ w.heap.size 24 #[.int .i64 0, .slice none 0 0, .int .i64 0, .int .i64 0, .bool false] _ (errV 3) rfl rfl (five_at Z6.out _ _ _ _ _) state_row.1 rfl state_row.2) rfl ?_
              exact ⟨.inr ⟨fun s hg e => HF.out (by rw [← S0.out s hg e]; exact (good_iff s).2 hg), rfl⟩, five_below W6.out (Nat.le_refl _) _ _ _ _ _⟩
end Go.Proofs.YtamjmejkffhmeaaGreatDoor
