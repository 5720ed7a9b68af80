/-
  Contract: report.Keys.
-/
import Derived.Test.YtamjmejkffhmeaaGreatDoorRsPlain
import Derived.Test.YtamjmejkffhmeaaGreatDoorOthers
import Derived.Test.YtamjmejkffhmeaaGreatDoorShelf
import Derived.Sort.OwnSortedInts
namespace Go.Proofs.YtamjmejkffhmeaaGreatDoor
open Go.RowKit

theorem progKeys_nil : progKeys [] = [] := by unfold progKeys; simp [Lib.compact, Lib.compactUpTo]
theorem compact_len (zs : List Int) : (Lib.compact zs).length ≤ zs.length := by
  have : ∀ (d : Array Int) m, (Lib.compactUpTo d m).length ≤ m := by
    intro d m
    induction m with
    | zero => simp [Lib.compactUpTo]
    | succ m ih =>
      rw [Lib.compactUpTo_succ, List.length_append]
      split <;> simp <;> omega
  exact this _ _
/-- behind the two: the slice's first cells are the keys -/
theorem ints_of_block {w : World} {g : Nat} {e : TypeId} {cur : Array Value} {L M : List Int} (hb : w.heap[g]? = some (.cells (Go.Sort.putCells (Value.int .i64) 0 (L ++ M).toArray cur) e (0, 0))) (hc : (L ++ M).length ≤ cur.size) : Ints w.heap.size w (some ⟨g, 0, none⟩) L := by
  have hg : g < w.heap.size := (Array.getElem?_eq_some_iff.1 hb).1
  intro i hi
  refine ⟨g, 0, rfl, hg, ?_⟩
  have ht := take_putCellsI cur (L ++ M) hc
  have h1 : ((Go.Sort.putCells (Value.int .i64) 0 (L ++ M).toArray cur).toList.take (L ++ M).length)[i]? = ((L ++ M).map (Value.int .i64))[i]? := by rw [ht]
  have hi2 : i < (L ++ M).length := by rw [List.length_append]; omega
  rw [List.getElem?_take_of_lt hi2] at h1
  simp only [World.cell?, hb, Nat.zero_add]
  simp only [Option.isSome_none, Bool.false_eq_true, if_false]
  rw [← Array.getElem?_toList, h1]
  simp [List.getElem?_append_left, hi]

set_option maxHeartbeats 4000000 in
set_option maxRecDepth 100000 in
theorem pkeys_any (s : St) (a : Option Addr) (cap : Nat) (w : World) (hr : StR w s a) (hl : s.regs.length ≤ 100) :
    Calls Tryz.prog 14 #[stV s a cap] w fun e w' => ∃ a' c', e = .returned (.slice a' (progKeys (s.regs.map (·.2))).length c') ∧ Ints w'.heap.size w' a' (progKeys (s.regs.map (·.2))) ∧ Below w.heap.size w w' := by
  obtain ⟨g, l, t, h, st⟩ := s
  obtain ⟨_, hr⟩ := hr
  dsimp only at hl hr
  obtain ⟨i0, hi, hz0, hz1, hz2⟩ := info_parts Tryz.infoInt
  obtain ⟨KS, hKS⟩ : ∃ KS, l.map (·.2) = KS := ⟨_, rfl⟩
  have HKS := Lib.hid hKS
  have HKL := Lib.hid (show KS.length = l.length from by rw [← hKS, List.length_map])
  dsimp only
  rw [hKS]
  clear hKS
  go_enter Tryz.func14, Tryz.ntmps14
  go_wp2
  go_loopw [3, 9] (fun v i wr => ∃ k : Nat, k ≤ l.length ∧ i = .int .i64 k ∧ OwnI (w.heap.size + 1) wr v (KS.take k) ∧ Below (w.heap.size + 1) (w.alloc (.cells #[.int .i64 g, .slice a l.length cap, .int .i64 t, .int .i64 h, .bool st] 24)) wr) (fun _ i _ => l.length - (intOf i).toNat)
  case atStart => exact ⟨0, by omega, rfl, ⟨rfl, .inl ⟨rfl, rfl⟩⟩, Below.refl _ _⟩
  case round =>
    obtain ⟨k, hk, rfl, hown, hb⟩ := hrel
    have HOWN := Lib.hid hown
    have HBLK := Lib.hid hown.blk
    have HB := Lib.hid hb
    have HTL := Lib.hid (show (KS.take k).length ≤ k from by rw [List.length_take]; omega)
    have hs := bsz hb
    clear hown
    by_cases hlt : k < l.length
    · obtain ⟨b, o, rfl, hbs, h1, h2⟩ := hr k hlt
      have c1 := ((bover hb (by omega)).cell (p := ⟨b, o + k * 2, none⟩) hbs).trans h1
      have c2 := ((bover hb (by omega)).cell (p := ⟨b, o + k * 2 + 1, none⟩) hbs).trans h2
      have hkk : k < KS.length := by have := HKL.out; omega
      have HE := Lib.hid (show KS.take (k + 1) = KS.take k ++ [l[k].2] from by
        rw [List.take_succ_eq_append_getElem hkk]
        have := HKS.out
        subst this
        simp)
      clear hr h1 h2
      have htl := HTL.out
      go_wp2_with (at_builtin; refine wpList_append_own _ rfl _ _ 38 rfl (w.heap.size + 1) 3 i0 (.int .i64 0) 1 8 Tryz.underlying38 hi hz0 hz1 hz2 rfl (by decide) _ _ _ rfl ((HOWN.out.alloc _).alloc _) ⟨wr.heap.size + 1, 0, none⟩ 1 1 [.int .i64 l[k].2] rfl rfl ?c1 ?c2 ?c3 ?c4 ?c5 ?_)
      case c1 =>
        intro j u hj
        match j, hj with
        | 0, hj => simp at hj; subst hj; simp [Addr.add]
      case c2 => intro u hu; simp at hu; subst hu; rfl
      case c3 => unfold maxLen; omega
      case c4 => omega
      case c5 => simp; omega
      intro v' w1 hown1 hg1 _
      have hb1 := ((hb.alloc (by omega) _).alloc (by simp; omega) _).grown hg1 (by simp; omega) HBLK.out
      have HO1 := Lib.hid hown1
      clear hown1 hg1
      go_wp2
      go_roundw
      case rel => exact ⟨k + 1, by omega, by go_num, by rw [HE.out]; simpa [OwnI] using HO1.out, hb1⟩
      case measure => simp [intOf]; omega
    · have hT : KS.take k = KS := List.take_of_length_le (by have := HKL.out; omega)
      rw [hT] at HOWN
      clear hT HTL
      have HKB := Lib.hid (show KS.length ≤ 100 from by rw [HKL.out]; omega)
      by_cases h0 : KS = []
      · obtain ⟨a', c', rfl, hI⟩ := HOWN.out.shape
        subst h0
        have HI := Lib.hid hI
        clear hI HKS HKL HKB HBLK HOWN
        go_wp2_with fail
        refine (Tryz.slices_Sort_int_none a' c' _).mono ?_
        rintro e w1 ⟨rfl, rfl⟩
        go_wp2_with fail
        refine (Tryz.slices_Compact_int_empty a' c' _).mono ?_
        rintro e w1 ⟨rfl, rfl⟩
        go_wp2
        go_ret
        exact ⟨a', c', by rw [progKeys_nil]; rfl, by rw [progKeys_nil]; exact HI.out, bover HB.out (by omega)⟩
      · obtain ⟨hx1, hx2⟩ := HOWN.out
        have hn0 : KS.length ≠ 0 := fun e => h0 (List.length_eq_zero_iff.1 e)
        rcases hx2 with ⟨_, hn⟩ | ⟨gb, cp, cur, rfl, hg, hh, hc, hm, hsz, ht⟩
        · exact absurd hn hn0
        have hlt2 : gb < wr.heap.size := (Array.getElem?_eq_some_iff.1 hh).1
        obtain ⟨Z, hZ⟩ : ∃ Z, KS.mergeSort (fun x y => decide (x ≤ y)) = Z := ⟨_, rfl⟩
        have hZl : Z.length = KS.length := by rw [← hZ, List.length_mergeSort]
        have HP := Lib.hid (show progKeys KS = Lib.compact Z from by unfold progKeys; rw [hZ])
        have HH := Lib.hid hh
        have HG := Lib.hid hg
        have HZ := Lib.hid hZl
        have HSZ := Lib.hid hsz
        have HC := Lib.hid hc
        have C1 := Tryz.slices_Sort_int gb 0 cp KS wr (holds_of_blockI hh (by rw [Nat.mul_one] at ht; exact ht)) hlt2 (by have := HKB.out; omega)
        rw [hZ] at C1
        have C1H := Lib.hid C1
        clear C1 hh hg hc hm hsz ht hx1 hZ hZl hn0 h0 HKS HOWN
        go_wp2_with fail
        refine C1H.out.mono ?_
        rintro e w1 ⟨rfl, n1, os1, hw1⟩
        have H1 := Lib.hid (show w1.heap[gb]? = some (.cells (Go.Sort.putCells (Value.int .i64) 0 Z.toArray cur) 3 (0, 0)) from by rw [hw1]; exact heap_sortedI Z.toArray HH.out)
        have G1 := Lib.hid (show Below (w.heap.size + 1) _ w1 from HB.out.grown (by rw [hw1]; exact grownBy_sortedI Z.toArray) (by omega) (fun k hk => by have := HG.out; simp at hk; omega))
        have hps : (Go.Sort.putCells (Value.int .i64) 0 Z.toArray cur).size = cur.size := by simp [Go.Sort.putCells]
        have HPS := Lib.hid hps
        have HH1 := Lib.hid (holds_of_blockI (ss := Z) H1.out (take_putCellsI cur Z (by have := HZ.out; have := HSZ.out; have := HC.out; omega)))
        have CL := Lib.hid (compact_len Z)
        rw [← HZ.out]
        clear hw1 hps
        go_wp2_with fail
        refine (Tryz.slices_Compact_int gb 0 cp Z w1 HH1.out (by have := HZ.out; have := HKB.out; omega) (by have := HZ.out; have := HC.out; omega)).mono ?_
        rintro e w2 ⟨rfl, q, hw2⟩
        have hw3 : w2 = Go.Sort.grow (Go.Sort.putRow (Value.int .i64) (Go.Sort.ahead w1 q) gb 0 (Lib.compact Z ++ List.replicate (Z.length - (Lib.compact Z).length) 0).toArray) #[] := by rw [Go.Sort.grow_empty]; exact hw2
        have H2 := Lib.hid (show w2.heap[gb]? = some (.cells (Go.Sort.putCells (Value.int .i64) 0 (Lib.compact Z ++ List.replicate (Z.length - (Lib.compact Z).length) 0).toArray (Go.Sort.putCells (Value.int .i64) 0 Z.toArray cur)) 3 (0, 0)) from by rw [hw3]; exact heap_sortedI _ H1.out)
        have G2 := Lib.hid (show Below (w.heap.size + 1) _ w2 from G1.out.grown (by rw [hw3]; exact grownBy_sortedI _) (by have := G1.out.size; simp at this; omega) (fun k hk => by have := HG.out; simp at hk; omega))
        clear hw2 hw3
        go_wp2
        go_ret
        exact ⟨_, cp, by rw [HP.out]; rfl, by rw [HP.out]; exact ints_of_block H2.out (by rw [HPS.out, List.length_append, List.length_replicate]; have := CL.out; have := HZ.out; have := HSZ.out; have := HC.out; omega), bover G2.out (by omega)⟩
end Go.Proofs.YtamjmejkffhmeaaGreatDoor
