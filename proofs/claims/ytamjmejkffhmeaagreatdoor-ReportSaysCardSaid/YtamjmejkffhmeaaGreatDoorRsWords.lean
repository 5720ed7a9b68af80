/-
  Contract: the document's words.
-/
import Derived.Test.YtamjmejkffhmeaaGreatDoorRsNum
import Derived.WalkSpells
import Derived.Lib.LazyBuf
namespace Go.Proofs.YtamjmejkffhmeaaGreatDoor
open Go.RowKit Go.Lib

/-- a slice value that owns a list of texts, in blocks from B on -/
def OwnS (B : Nat) (w : World) (v : Value) (l : List Bs) : Prop := w.ownsRow B 9 1 v l.length (l.map fun x => .string (bsB x))
theorem Tryz.infoStr : (Tryz.prog.info? 9).map (fun i => (i.zero, i.size, i.bytes)) = some (some (.string ⟨#[]⟩), 1, 16) := by kernel_rfl

/-- a slice of texts can be read -/
def Strs (B : Nat) (w : World) (a : Option Addr) (l : List Bs) : Prop :=
  ∀ i (h : i < l.length), ∃ b o, a = some ⟨b, o, none⟩ ∧ b < B ∧ w.cell? ⟨b, o + i, none⟩ = some (.string (bsB l[i]))
theorem OwnS.shape {B : Nat} {w : World} {v : Value} {l : List Bs} (h : OwnS B w v l) : ∃ a cap, v = .slice a l.length cap ∧ Strs w.heap.size w a l := by
  obtain ⟨h1, h2⟩ := h
  rcases h2 with ⟨rfl, hn⟩ | ⟨g, cap, cur, rfl, hg, hh, hc, hm, hs, ht⟩
  · have : l = [] := List.length_eq_zero_iff.1 hn
    subst this
    exact ⟨none, 0, rfl, fun i h => absurd h (by simp)⟩
  · refine ⟨_, cap, rfl, fun i hi => ?_⟩
    have hlt : g < w.heap.size := (Array.getElem?_eq_some_iff.1 hh).1
    refine ⟨g, 0, rfl, hlt, ?_⟩
    have hcell : w.cell? ⟨g, 0 + i, none⟩ = (l.map fun x => Value.string (bsB x))[i]? := by
      rw [← ht, List.getElem?_take_of_lt (by omega)]
      simp [World.cell?, hh]
    rw [hcell]; simp [hi]
theorem OwnS.blk {B : Nat} {w : World} {v : Value} {l : List Bs} (h : OwnS B w v l) : ∀ k, v.ownBlock = some k → B ≤ k := by
  obtain ⟨_, h2⟩ := h
  rcases h2 with ⟨rfl, _⟩ | ⟨g, cap, cur, rfl, hg, _⟩
  · intro k hk; cases hk
  · intro k hk; simp [Value.ownBlock] at hk; omega
theorem Strs.below {B C : Nat} {w w' : World} {a : Option Addr} {l : List Bs} (h : Strs B w a l) (hb : Below C w w') (hBC : B ≤ C) : Strs B w' a l := by
  intro i hi
  obtain ⟨b, o, rfl, hbB, h1⟩ := h i hi
  exact ⟨b, o, rfl, hbB, (hb.cell (p := ⟨b, o + i, none⟩) (by show b < C; omega)).trans h1⟩

theorem dWords_step {s : ByteArray} {k : Nat} (h : k < s.size) (x : Bs) : dWords x (s.data.toList.drop k) = if s[k] = 32 then x :: dWords [] (s.data.toList.drop (k + 1)) else dWords (x ++ [s[k]]) (s.data.toList.drop (k + 1)) := by
  have h1 : k < s.data.toList.length := by simpa using h
  rw [List.drop_eq_getElem_cons h1]
  rfl
theorem dWords_end {s : ByteArray} {k : Nat} (h : s.size ≤ k) (x : Bs) : dWords x (s.data.toList.drop k) = [x] := by
  rw [List.drop_eq_nil_of_le (by simpa using h)]
  rfl
theorem extract_one {s : ByteArray} {k : Nat} (h : k < s.size) : s.extract k (k + 1) = bsB [s[k]] := by
  apply ByteArray.ext
  apply Array.toList_inj.1
  have h1 : k < s.data.toList.length := by simpa using h
  have : (s.data.toList.drop k).take 1 = [s[k]] := by rw [List.drop_eq_getElem_cons h1]; rfl
  simpa [bsB] using this

set_option maxHeartbeats 4000000 in
set_option maxRecDepth 100000 in
theorem words_any (s : ByteArray) (w : World) (hs : s.size ≤ 200) :
    Calls Tryz.prog 20 #[.string s] w fun e w' => ∃ v, e = .returned v ∧ OwnS w.heap.size w' v (dWords [] s.data.toList) ∧ Below w.heap.size w w' := by
  obtain ⟨i0, hi, hz0, hz1, hz2⟩ := info_parts Tryz.infoStr
  go_enter Tryz.func20, Tryz.ntmps20
  go_wp2
  go_loopw [3, 4, 5] (fun v t i wr => ∃ (k : Nat) (L : List Bs) (x : Bs), k ≤ s.size ∧ i = .int .i64 k ∧ t = .string (bsB x) ∧ x.length ≤ k ∧ L.length ≤ k ∧ dWords [] s.data.toList = L ++ dWords x (s.data.toList.drop k) ∧ OwnS w.heap.size wr v L ∧ Below w.heap.size w wr) (fun _ _ i _ => s.size - (intOf i).toNat)
  case atStart => exact ⟨0, [], [], by omega, rfl, rfl, by simp, by simp, by simp, ⟨rfl, .inl ⟨rfl, rfl⟩⟩, Below.refl _ _⟩
  case round =>
    obtain ⟨k, L, x, hk, rfl, rfl, hx, hL, hd, hown, hb⟩ := hrel
    have HOWN := Lib.hid hown
    have HBLK := Lib.hid hown.blk
    have HD := Lib.hid hd
    have hsz := hb.size
    clear hown hd
    by_cases hlt : k < s.size
    · by_cases hc : s[k] = 32
      · have q : ((s[k].toNat : Int) == 32) = true := by rw [hc]; rfl
        have HX := Lib.hid (show dWords [] s.data.toList = (L ++ [x]) ++ dWords [] (s.data.toList.drop (k + 1)) from by rw [HD.out, dWords_step hlt, if_pos hc]; simp)
        clear hc
        go_wp2_with (at_builtin; refine wpList_append_own _ rfl _ _ 41 rfl w.heap.size 9 i0 (.string ⟨#[]⟩) 1 16 Tryz.underlying41 hi hz0 hz1 hz2 rfl (by decide) _ _ _ rfl (HOWN.out.alloc _) ⟨wr.heap.size, 0, none⟩ 1 1 [.string (bsB x)] rfl rfl ?c1 ?c2 ?c3 ?c4 ?c5 ?_)
        case c1 =>
          intro j u hj
          match j, hj with
          | 0, hj => simp at hj; subst hj; simp [Addr.add]
        case c2 => intro u hu; simp at hu; subst hu; rfl
        case c3 => unfold maxLen; omega
        case c4 => omega
        case c5 => simp; omega
        intro v' w1 hown1 hg1 _
        have hb1 : Below w.heap.size w w1 := (hb.alloc (by omega) _).grown hg1 (by simp; omega) HBLK.out
        have HO1 := Lib.hid hown1
        clear hown1 hg1
        go_wp2
        go_roundw
        case rel => exact ⟨k + 1, L ++ [x], [], by omega, by go_num, rfl, by simp, by simp; omega, HX.out, by simpa [OwnS] using HO1.out, hb1⟩
        case measure => simp [intOf]; omega
      · have q : ((s[k].toNat : Int) == 32) = false := by
          have : s[k].toNat ≠ 32 := fun e => hc (UInt8.toNat_inj.1 (by simpa using e))
          simp; omega
        have HX := Lib.hid (show dWords [] s.data.toList = L ++ dWords (x ++ [s[k]]) (s.data.toList.drop (k + 1)) from by rw [HD.out, dWords_step hlt, if_neg hc])
        have hex := extract_one hlt
        have hadd := fun w => run_string_add_sum (P := Tryz.prog) w (bsB x) (bsB [s[k]]) (by rw [bsB_size, bsB_size]; simp; omega)
        clear hc
        go_wp2
        go_roundw
        case rel => exact ⟨k + 1, L, x ++ [s[k]], by omega, by go_num, by rw [← bsB_append], by simp; omega, by omega, HX.out, HOWN.out, hb⟩
        case measure => simp [intOf]; omega
    · have HX := Lib.hid (show dWords [] s.data.toList = L ++ [x] from by rw [HD.out, dWords_end (by omega)])
      go_wp2_with (at_builtin; refine wpList_append_own _ rfl _ _ 41 rfl w.heap.size 9 i0 (.string ⟨#[]⟩) 1 16 Tryz.underlying41 hi hz0 hz1 hz2 rfl (by decide) _ _ _ rfl (HOWN.out.alloc _) ⟨wr.heap.size, 0, none⟩ 1 1 [.string (bsB x)] rfl rfl ?c1 ?c2 ?c3 ?c4 ?c5 ?_)
      case c1 =>
        intro j u hj
        match j, hj with
        | 0, hj => simp at hj; subst hj; simp [Addr.add]
      case c2 => intro u hu; simp at hu; subst hu; rfl
      case c3 => unfold maxLen; omega
      case c4 => omega
      case c5 => simp; omega
      intro v' w1 hown1 hg1 _
      have hb1 : Below w.heap.size w w1 := (hb.alloc (by omega) _).grown hg1 (by simp; omega) HBLK.out
      have HO1 := Lib.hid hown1
      clear hown1 hg1
      go_wp2
      go_ret
      exact ⟨v', rfl, by rw [HX.out]; simpa [OwnS] using HO1.out, hb1⟩
end Go.Proofs.YtamjmejkffhmeaaGreatDoor
