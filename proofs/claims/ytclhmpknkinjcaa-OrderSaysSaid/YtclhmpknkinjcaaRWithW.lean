/-
  The walk of the document's With.
-/
import Derived.Test.YtclhmpknkinjcaaRWith
namespace Go.Proofs.Ytclhmpknkinjcaa
open Go.RowKit

theorem OwnP.blk {B : Nat} {w : World} {v : Value} {l : List (Int × Int)} (h : OwnP B w v l) : ∀ k, v.ownBlock = some k → B ≤ k := by
  obtain ⟨_, h2⟩ := h
  rcases h2 with ⟨rfl, _⟩ | ⟨g, cap, cur, rfl, hg, _⟩
  · intro k hk; cases hk
  · intro k hk; simp [Value.ownBlock] at hk; omega

theorem own_snoc {B : Nat} {w : World} {v : Value} {l : List (Int × Int)} {x y : Int} (h : w.ownsRow B 134 2 v (l.length + 1) (pcells l ++ pcells [(x, y)])) : OwnP B w v (l ++ [(x, y)]) := by
  unfold OwnP
  rw [pcells_append, List.length_append]
  exact h

theorem OwnP.alloc {B : Nat} {w : World} {v : Value} {l : List (Int × Int)} (h : OwnP B w v l) (o : Obj) : OwnP B (w.alloc o) v l := h.below (bal w o)

theorem one_cells (w : World) (x y : Int) (T : TypeId) (n : Nat) (hn : n = w.heap.size) : ∀ j u, (pcells [(x, y)])[j]? = some u → (w.alloc (.cells #[.int .i64 x, .int .i64 y] T)).cell? ((⟨n, 0, none⟩ : Addr).add j) = some u := by
  subst hn
  intro j u hj
  have hadd : (⟨w.heap.size, 0, none⟩ : Addr).add j = ⟨w.heap.size, j, none⟩ := by unfold Addr.add; split <;> simp_all
  rw [hadd]
  match j, hj with
  | 0, hj => simp [pcells] at hj; simp [hj]
  | 1, hj => simp [pcells] at hj; simp [hj]
  | j + 2, hj => simp [pcells] at hj

set_option maxHeartbeats 2000000 in
set_option maxRecDepth 100000 in
theorem rwith_lo (s : St) (a : Option Addr) (cap : Nat) (who key : Int) (w : World) (hr : StR w s a) (hl : s.regs.length ≤ 50) (hk : 0 ≤ key) (hs : s.regs.Pairwise (fun a b => a.1 < b.1)) :
    Calls Try.prog 97 #[stV s a cap, .int .i64 who, .int .i64 key] w fun e w' => ∃ a' cap', e = .returned (stV (s.withRegs (withL s.regs who key)) a' cap') ∧ StR w' (s.withRegs (withL s.regs who key)) a' ∧ Below w.heap.size w w' ∧ (∀ b o, a' = some ⟨b, o, none⟩ → w.heap.size ≤ b) := by
  rw [← rw_with who key s.regs hk hs]
  obtain ⟨g, l, t, h, st⟩ := s
  obtain ⟨_, hr⟩ := hr
  dsimp only at hl hr
  obtain ⟨i0, hi, hz0, hz1, hz2⟩ := info_parts Try.infoReg
  have hkb : (key == 0) = decide (key = 0) := by rcases (by omega : key = 0 ∨ key ≠ 0) with e | e <;> simp [e]
  have HKB := Lib.hid hkb
  clear hs hkb
  go_enter Try.func97, Try.ntmps97
  go_wp2
  go_loopw [7, 8, 9] (fun v b i wr => ∃ k : Nat, k ≤ l.length ∧ i = .int .i64 k ∧ b = .bool (rwFold who key (l.take k)).2 ∧ OwnP (w.heap.size + 2) wr v (rwFold who key (l.take k)).1 ∧
      Below (w.heap.size + 2) ((w.alloc (.cells #[.int .i64 g, .slice a l.length cap, .int .i64 t, .int .i64 h, .bool st] 47)).alloc (.cells #[.int .i64 0, .slice none 0 0, .int .i64 0, .int .i64 0, .bool false] 47)) wr) (fun _ _ i _ => l.length - (intOf i).toNat)
  case atStart => exact ⟨0, by omega, rfl, by rw [HKB.out]; rfl, ⟨rfl, .inl ⟨rfl, rfl⟩⟩, Below.refl _ _⟩
  case round =>
    obtain ⟨k, hk, rfl, rfl, hown, hb⟩ := hrel
    have hfl := rw_len who key (l.take k)
    have hfl2 : (rwFold who key (l.take k)).1.length ≤ 2 * l.length := by simp at hfl; omega
    clear hfl
    have HSN := Lib.hid (rw_snoc who key l k)
    have hsz : w.heap.size + 2 ≤ wr.heap.size := by have := hb.size; simpa using this
    have hhp : ∀ A B : Obj, ((w.alloc A).alloc B).heap[w.heap.size]? = some A ∧ ((w.alloc A).alloc B).heap[w.heap.size + 1]? = some B := fun A B => ⟨heap_alloc2_old w A B, heap_alloc2_new w A B⟩
    obtain ⟨⟨e0, e1, e2, e3, e4⟩, f0, f1, f2, f3, f4⟩ := box5 hb (b := w.heap.size) (by omega) (hhp _ _).1
    obtain ⟨⟨g0, g1, g2, g3, g4⟩, k0, k1, k2, k3, k4⟩ := box5 hb (b := w.heap.size + 1) (by omega) (hhp _ _).2
    clear hhp
    by_cases hlt : k < l.length
    · have hsn := HSN.out hlt
      obtain ⟨b, o, rfl, hbs, h1, h2⟩ := hr k hlt
      have b0 : Below w.heap.size w wr := bover (bover hb (by simp)) (by simp)
      have c1 := (b0.cell (p := ⟨b, o + k * 2, none⟩) hbs).trans h1
      have c2 := (b0.cell (p := ⟨b, o + k * 2 + 1, none⟩) hbs).trans h2
      generalize rwFold who key (l.take k) = F at *
      obtain ⟨acc, laid⟩ := F
      dsimp only at hown hfl2 ⊢
      have HOWN := Lib.hid hown
      have HBLK := Lib.hid hown.blk
      have H1 := Lib.hid h1
      have H2 := Lib.hid h2
      clear hown HSN hr h1 h2
      have hfl3 : acc.length ≤ 100 := by omega
      cases laid
      · by_cases hge : who ≤ l[k].1
        · rcases (by omega : l[k].1 = who ∨ l[k].1 ≠ who) with he | he
          · have hst : rwStep who key (acc, false) l[k] = (acc ++ [(who, key)], true) := by
              have hly : rwLay who key (acc, false) l[k] = (acc ++ [(who, key)], true) := by simp [rwLay, hge]
              unfold rwStep
              rw [if_neg (by simp [he]), hly]
            have HST := Lib.hid (hsn.trans hst)
            have heb : (l[k].1 != who) = false := by simp [he]
            clear hst hsn he
            have q3 : acc.length + 1 ≤ maxLen := by unfold maxLen; omega
            have q4 : (acc.length + 1) * 16 ≤ 140737488355328 := by omega
            have q5 : ∀ o, w.heap.size + 2 ≤ (wr.alloc o).heap.size := fun o => by simp; omega
            go_wp2_with (at_builtin; refine wpList_append_own _ rfl (.tmp 31) (.tmp 35) 45 rfl (w.heap.size + 2) 134 i0 (.agg #[.int .i64 0, .int .i64 0]) 2 16 Try.underlying45 hi hz0 hz1 hz2 rfl (by decide) _ _ _ rfl (HOWN.out.alloc _) ⟨wr.heap.size, 0, none⟩ 1 1 (pcells [(who, key)]) rfl rfl (one_cells _ _ _ _ _ rfl) (pcells_one _) q3 q4 (q5 _) ?_)
            intro v1 w1 hown1 hg1 _
            clear q3 q4 q5
            have own1 : OwnP (w.heap.size + 2) w1 v1 (acc ++ [(who, key)]) := own_snoc hown1
            have hb1 := (hb.alloc (by omega) _).grown hg1 (by simp; omega) HBLK.out
            have HOWN1 := Lib.hid own1
            have HBLK1 := Lib.hid own1.blk
            have hsz1 : w.heap.size + 2 ≤ w1.heap.size := by have := hb1.size; simpa using this
            clear hown1 hg1 own1
            have b1 : Below w.heap.size w w1 := bover (bover hb1 (by simp)) (by simp)
            have c11 := (b1.cell (p := ⟨b, o + k * 2, none⟩) hbs).trans H1.out
            have c21 := (b1.cell (p := ⟨b, o + k * 2 + 1, none⟩) hbs).trans H2.out
            obtain ⟨⟨e01, e11, e21, e31, e41⟩, f01, f11, f21, f31, f41⟩ := box5 hb1 (b := w.heap.size) (by omega) (heap_alloc2_old w _ _)
            go_wp2
            go_roundw
            case rel => exact ⟨k + 1, by omega, by go_num, by rw [HST.out], by rw [HST.out]; exact HOWN1.out, hb1⟩
            case measure => simp [intOf]; omega
          · have hst : rwStep who key (acc, false) l[k] = (acc ++ [(who, key)] ++ [l[k]], true) := by
              have hly : rwLay who key (acc, false) l[k] = (acc ++ [(who, key)], true) := by simp [rwLay, hge]
              unfold rwStep
              rw [if_pos he, hly]
            have HST := Lib.hid (hsn.trans hst)
            have heb : (l[k].1 != who) = true := by simp [he]
            clear hst hsn he
            have q3 : acc.length + 1 ≤ maxLen := by unfold maxLen; omega
            have q4 : (acc.length + 1) * 16 ≤ 140737488355328 := by omega
            have q5 : ∀ o, w.heap.size + 2 ≤ (wr.alloc o).heap.size := fun o => by simp; omega
            go_wp2_with (at_builtin; refine wpList_append_own _ rfl (.tmp 31) (.tmp 35) 45 rfl (w.heap.size + 2) 134 i0 (.agg #[.int .i64 0, .int .i64 0]) 2 16 Try.underlying45 hi hz0 hz1 hz2 rfl (by decide) _ _ _ rfl (HOWN.out.alloc _) ⟨wr.heap.size, 0, none⟩ 1 1 (pcells [(who, key)]) rfl rfl (one_cells _ _ _ _ _ rfl) (pcells_one _) q3 q4 (q5 _) ?_)
            intro v1 w1 hown1 hg1 _
            clear q3 q4 q5
            have own1 : OwnP (w.heap.size + 2) w1 v1 (acc ++ [(who, key)]) := own_snoc hown1
            have hb1 := (hb.alloc (by omega) _).grown hg1 (by simp; omega) HBLK.out
            have HOWN1 := Lib.hid own1
            have HBLK1 := Lib.hid own1.blk
            have hsz1 : w.heap.size + 2 ≤ w1.heap.size := by have := hb1.size; simpa using this
            clear hown1 hg1 own1
            have b1 : Below w.heap.size w w1 := bover (bover hb1 (by simp)) (by simp)
            have c11 := (b1.cell (p := ⟨b, o + k * 2, none⟩) hbs).trans H1.out
            have c21 := (b1.cell (p := ⟨b, o + k * 2 + 1, none⟩) hbs).trans H2.out
            obtain ⟨⟨e01, e11, e21, e31, e41⟩, f01, f11, f21, f31, f41⟩ := box5 hb1 (b := w.heap.size) (by omega) (heap_alloc2_old w _ _)
            have q3 : (acc ++ [(who, key)]).length + 1 ≤ maxLen := by simp only [List.length_append, List.length_cons, List.length_nil]; unfold maxLen; omega
            have q4 : ((acc ++ [(who, key)]).length + 1) * 16 ≤ 140737488355328 := by simp only [List.length_append, List.length_cons, List.length_nil]; omega
            have q5 : ∀ o, w.heap.size + 2 ≤ (w1.alloc o).heap.size := fun o => by simp; omega
            go_wp2_with (at_builtin; refine wpList_append_own _ rfl (.tmp 45) (.tmp 51) 45 rfl (w.heap.size + 2) 134 i0 (.agg #[.int .i64 0, .int .i64 0]) 2 16 Try.underlying45 hi hz0 hz1 hz2 rfl (by decide) _ _ _ rfl (HOWN1.out.alloc _) ⟨w1.heap.size, 0, none⟩ 1 1 (pcells [(l[k].1, l[k].2)]) rfl rfl (one_cells _ _ _ _ _ rfl) (pcells_one _) q3 q4 (q5 _) ?_)
            intro v2 w2 hown2 hg2 _
            clear q3 q4 q5
            have own2 : OwnP (w.heap.size + 2) w2 v2 (acc ++ [(who, key)] ++ [l[k]]) := own_snoc (l := acc ++ [(who, key)]) (x := l[k].1) (y := l[k].2) (by rw [List.length_append]; exact hown2)
            have hb2 := (hb1.alloc (by omega) _).grown hg2 (by simp; omega) HBLK1.out
            have HOWN2 := Lib.hid own2
            have HBLK2 := Lib.hid own2.blk
            have hsz2 : w.heap.size + 2 ≤ w2.heap.size := by have := hb2.size; simpa using this
            clear hown2 hg2 own2
            go_wp2
            go_roundw
            case rel => exact ⟨k + 1, by omega, by go_num, by rw [HST.out], by rw [HST.out]; exact HOWN2.out, hb2⟩
            case measure => simp [intOf]; omega
        · have he : l[k].1 ≠ who := by omega
          have hst : rwStep who key (acc, false) l[k] = (acc ++ [l[k]], false) := by
            have hly : rwLay who key (acc, false) l[k] = (acc, false) := by simp [rwLay, hge]
            unfold rwStep
            rw [if_pos he, hly]
          have HST := Lib.hid (hsn.trans hst)
          have heb : (l[k].1 != who) = true := by simp [he]
          clear hst hsn he
          have q3 : acc.length + 1 ≤ maxLen := by unfold maxLen; omega
          have q4 : (acc.length + 1) * 16 ≤ 140737488355328 := by omega
          have q5 : ∀ o, w.heap.size + 2 ≤ (wr.alloc o).heap.size := fun o => by simp; omega
          go_wp2_with (at_builtin; refine wpList_append_own _ rfl (.tmp 45) (.tmp 51) 45 rfl (w.heap.size + 2) 134 i0 (.agg #[.int .i64 0, .int .i64 0]) 2 16 Try.underlying45 hi hz0 hz1 hz2 rfl (by decide) _ _ _ rfl (HOWN.out.alloc _) ⟨wr.heap.size, 0, none⟩ 1 1 (pcells [(l[k].1, l[k].2)]) rfl rfl (one_cells _ _ _ _ _ rfl) (pcells_one _) q3 q4 (q5 _) ?_)
          intro v2 w2 hown2 hg2 _
          clear q3 q4 q5
          have own2 : OwnP (w.heap.size + 2) w2 v2 (acc ++ [l[k]]) := own_snoc hown2
          have hb2 := (hb.alloc (by omega) _).grown hg2 (by simp; omega) HBLK.out
          have HOWN2 := Lib.hid own2
          have HBLK2 := Lib.hid own2.blk
          have hsz2 : w.heap.size + 2 ≤ w2.heap.size := by have := hb2.size; simpa using this
          clear hown2 hg2 own2
          go_wp2
          go_roundw
          case rel => exact ⟨k + 1, by omega, by go_num, by rw [HST.out], by rw [HST.out]; exact HOWN2.out, hb2⟩
          case measure => simp [intOf]; omega
      · rcases (by omega : l[k].1 = who ∨ l[k].1 ≠ who) with he | he
        · have hst : rwStep who key (acc, true) l[k] = (acc, true) := by
            have hly : rwLay who key (acc, true) l[k] = (acc, true) := by simp [rwLay]
            unfold rwStep
            rw [if_neg (by simp [he]), hly]
          have HST := Lib.hid (hsn.trans hst)
          have heb : (l[k].1 != who) = false := by simp [he]
          clear hst hsn he
          go_wp2
          go_roundw
          case rel => exact ⟨k + 1, by omega, by go_num, by rw [HST.out], by rw [HST.out]; exact HOWN.out, hb⟩
          case measure => simp [intOf]; omega
        · have hst : rwStep who key (acc, true) l[k] = (acc ++ [l[k]], true) := by
            have hly : rwLay who key (acc, true) l[k] = (acc, true) := by simp [rwLay]
            unfold rwStep
            rw [if_pos he, hly]
          have HST := Lib.hid (hsn.trans hst)
          have heb : (l[k].1 != who) = true := by simp [he]
          clear hst hsn he
          have q3 : acc.length + 1 ≤ maxLen := by unfold maxLen; omega
          have q4 : (acc.length + 1) * 16 ≤ 140737488355328 := by omega
          have q5 : ∀ o, w.heap.size + 2 ≤ (wr.alloc o).heap.size := fun o => by simp; omega
          go_wp2_with (at_builtin; refine wpList_append_own _ rfl (.tmp 45) (.tmp 51) 45 rfl (w.heap.size + 2) 134 i0 (.agg #[.int .i64 0, .int .i64 0]) 2 16 Try.underlying45 hi hz0 hz1 hz2 rfl (by decide) _ _ _ rfl (HOWN.out.alloc _) ⟨wr.heap.size, 0, none⟩ 1 1 (pcells [(l[k].1, l[k].2)]) rfl rfl (one_cells _ _ _ _ _ rfl) (pcells_one _) q3 q4 (q5 _) ?_)
          intro v2 w2 hown2 hg2 _
          clear q3 q4 q5
          have own2 : OwnP (w.heap.size + 2) w2 v2 (acc ++ [l[k]]) := own_snoc hown2
          have hb2 := (hb.alloc (by omega) _).grown hg2 (by simp; omega) HBLK.out
          have HOWN2 := Lib.hid own2
          have HBLK2 := Lib.hid own2.blk
          have hsz2 : w.heap.size + 2 ≤ w2.heap.size := by have := hb2.size; simpa using this
          clear hown2 hg2 own2
          go_wp2
          go_roundw
          case rel => exact ⟨k + 1, by omega, by go_num, by rw [HST.out], by rw [HST.out]; exact HOWN2.out, hb2⟩
          case measure => simp [intOf]; omega
    · obtain rfl : k = l.length := by omega
      simp only [List.take_length] at hown hfl2 ⊢
      clear HSN hlt
      generalize hF : rwFold who key l = F at *
      obtain ⟨acc, laid⟩ := F
      dsimp only at hown hfl2 ⊢
      have HF := Lib.hid hF
      clear hF
      have HOWN := Lib.hid hown
      have HBLK := Lib.hid hown.blk
      have hfl3 : acc.length ≤ 100 := by omega
      cases laid
      · clear hown
        have q3 : acc.length + 1 ≤ maxLen := by unfold maxLen; omega
        have q4 : (acc.length + 1) * 16 ≤ 140737488355328 := by omega
        have q5 : ∀ o, w.heap.size + 2 ≤ (wr.alloc o).heap.size := fun o => by simp; omega
        go_wp2_with (at_builtin; refine wpList_append_own _ rfl (.tmp 55) (.tmp 59) 45 rfl (w.heap.size + 2) 134 i0 (.agg #[.int .i64 0, .int .i64 0]) 2 16 Try.underlying45 hi hz0 hz1 hz2 rfl (by decide) _ _ _ rfl (HOWN.out.alloc _) ⟨wr.heap.size, 0, none⟩ 1 1 (pcells [(who, key)]) rfl rfl (one_cells _ _ _ _ _ rfl) (pcells_one _) q3 q4 (q5 _) ?_)
        intro v1 w1 hown1 hg1 _
        clear q3 q4 q5
        have own1 : OwnP (w.heap.size + 2) w1 v1 (acc ++ [(who, key)]) := own_snoc hown1
        have hb1 := (hb.alloc (by omega) _).grown hg1 (by simp; omega) HBLK.out
        have HOWN1 := Lib.hid own1
        have HBLK1 := Lib.hid own1.blk
        have hsz1 : w.heap.size + 2 ≤ w1.heap.size := by have := hb1.size; simpa using this
        clear hown1 hg1 own1
        obtain ⟨a1, p1, hv1, pr1, _⟩ := HOWN1.out.shape
        subst hv1
        obtain ⟨⟨e01, e11, e21, e31, e41⟩, f01, f11, f21, f31, f41⟩ := box5 hb1 (b := w.heap.size) (by omega) (heap_alloc2_old w _ _)
        obtain ⟨⟨g01, g11, g21, g31, g41⟩, k01, k11, k21, k31, k41⟩ := box5 hb1 (b := w.heap.size + 1) (by omega) (heap_alloc2_new w _ _)
        go_wp2
        refine bodyPost_ret (v := stV ⟨g, acc ++ [(who, key)], t, h, st⟩ a1 p1) (by simp [results, Try.results97, go_sem, g01, g11, g21, g31, g41]) rfl ?_
        have hfin : rwEnd who key (rwFold who key l) = acc ++ [(who, key)] := by rw [HF.out]; simp [rwEnd]
        show ∃ a' cap', _ = Ending.returned (stV (St.withRegs ⟨g, l, t, h, st⟩ (rwEnd who key (rwFold who key l))) a' cap') ∧ StR _ (St.withRegs ⟨g, l, t, h, st⟩ (rwEnd who key (rwFold who key l))) a' ∧ _
        rw [hfin]
        refine ⟨a1, p1, rfl, ⟨?_, ?_⟩, ?_, ?_⟩
        · show (acc ++ [(who, key)]).length ≤ maxLen; unfold maxLen; simp only [List.length_append, List.length_cons, List.length_nil]; omega
        · have lo := (show OwnP _ w1 (.slice a1 _ p1) (acc ++ [(who, key)]) from HOWN1.out).lo
          have hn : ∀ q : Nat, q < w.heap.size + 1 + 1 → ∀ b o, a1 = some ⟨b, o, none⟩ → b ≠ q := fun q hq b o e => by have := lo b o e; omega
          refine (?_ : Pairs w1.heap.size _ _ _).mono (by simp [World.setCell])
          iterate 6 (with_reducible refine Pairs.setCell ?_ (hn _ (by dsimp only; omega)) _)
          exact pr1
        · exact ((((((bover (bover hb1 (by simp)) (by first | (simp; done) | omega)).setCell (Nat.le_refl _) _).setCell (by show w.heap.size ≤ w.heap.size + 1; omega) _).setCell (by show w.heap.size ≤ w.heap.size + 1; omega) _).setCell (by show w.heap.size ≤ w.heap.size + 1; omega) _).setCell (by show w.heap.size ≤ w.heap.size + 1; omega) _).setCell (by show w.heap.size ≤ w.heap.size + 1; omega) _
        · exact fun b o e => by have := (show OwnP _ w1 (.slice a1 _ p1) (acc ++ [(who, key)]) from HOWN1.out).lo b o e; omega
      · obtain ⟨a1, p1, hv1, pr1, _⟩ := hown.shape
        subst hv1
        clear hown
        go_wp2
        refine bodyPost_ret (v := stV ⟨g, acc, t, h, st⟩ a1 p1) (by simp [results, Try.results97, go_sem, g0, g1, g2, g3, g4]) rfl ?_
        have hfin : rwEnd who key (rwFold who key l) = acc := by rw [HF.out]; simp [rwEnd]
        show ∃ a' cap', _ = Ending.returned (stV (St.withRegs ⟨g, l, t, h, st⟩ (rwEnd who key (rwFold who key l))) a' cap') ∧ StR _ (St.withRegs ⟨g, l, t, h, st⟩ (rwEnd who key (rwFold who key l))) a' ∧ _
        rw [hfin]
        refine ⟨a1, p1, rfl, ⟨?_, ?_⟩, ?_, ?_⟩
        · show (acc).length ≤ maxLen; unfold maxLen; omega
        · have lo := (show OwnP _ wr (.slice a1 _ p1) (acc) from HOWN.out).lo
          have hn : ∀ q : Nat, q < w.heap.size + 1 + 1 → ∀ b o, a1 = some ⟨b, o, none⟩ → b ≠ q := fun q hq b o e => by have := lo b o e; omega
          refine (?_ : Pairs wr.heap.size _ _ _).mono (by simp [World.setCell])
          iterate 6 (with_reducible refine Pairs.setCell ?_ (hn _ (by dsimp only; omega)) _)
          exact pr1
        · exact ((((((bover (bover hb (by simp)) (by first | (simp; done) | omega)).setCell (Nat.le_refl _) _).setCell (by show w.heap.size ≤ w.heap.size + 1; omega) _).setCell (by show w.heap.size ≤ w.heap.size + 1; omega) _).setCell (by show w.heap.size ≤ w.heap.size + 1; omega) _).setCell (by show w.heap.size ≤ w.heap.size + 1; omega) _).setCell (by show w.heap.size ≤ w.heap.size + 1; omega) _
        · exact fun b o e => by have := (show OwnP _ wr (.slice a1 _ p1) (acc) from HOWN.out).lo b o e; omega
theorem rwith_any (s : St) (a : Option Addr) (cap : Nat) (who key : Int) (w : World) (hr : StR w s a) (hl : s.regs.length ≤ 50) (hk : 0 ≤ key) (hs : s.regs.Pairwise (fun a b => a.1 < b.1)) :
    Calls Try.prog 97 #[stV s a cap, .int .i64 who, .int .i64 key] w fun e w' => ∃ a' cap', e = .returned (stV (s.withRegs (withL s.regs who key)) a' cap') ∧ StR w' (s.withRegs (withL s.regs who key)) a' ∧ Below w.heap.size w w' :=
  (rwith_lo s a cap who key w hr hl hk hs).mono fun _ _ ⟨a', cap', h1, h2, h3, _⟩ => ⟨a', cap', h1, h2, h3⟩
end Go.Proofs.Ytclhmpknkinjcaa
