/-
  Contract: order.out.
-/
import Derived.Test.YtclhmpknkinjcaaRegister
namespace Go.Proofs.Ytclhmpknkinjcaa
open Go.RowKit Go.Sort

theorem gone_hit (who key : Int) (l : List (Int × Int)) (k : Nat) (h : k < l.length) (e : outB who key l[k] = false) : goneL who key (l.take (k + 1)) = goneL who key (l.take k) := by
  unfold goneL
  rw [List.take_succ_eq_append_getElem h, List.filter_append, List.filter_cons_of_neg (by simp [e])]
  simp
theorem gone_miss (who key : Int) (l : List (Int × Int)) (k : Nat) (h : k < l.length) (e : outB who key l[k] = true) : goneL who key (l.take (k + 1)) = goneL who key (l.take k) ++ [l[k].1] := by
  unfold goneL
  rw [List.take_succ_eq_append_getElem h, List.filter_append, List.filter_cons_of_pos (by simp [e])]
  simp
theorem gone_len (who key : Int) (l : List (Int × Int)) : (goneL who key l).length ≤ l.length := by
  unfold goneL
  rw [List.length_map]
  exact List.length_filter_le _ _
theorem gone_mem (who key : Int) (l : List (Int × Int)) (P : Int → Prop) (h : ∀ r ∈ l, P r.1) : ∀ x ∈ goneL who key l, P x := by
  intro x hx
  unfold goneL at hx
  obtain ⟨r, hr, rfl⟩ := List.mem_map.1 hx
  exact h r (List.mem_filter.1 hr).1
theorem putOut_step (L : List (Int × Int)) (G : List Int) (j : Nat) (h : j < G.length) : putOut (withL L G[j] 0) (G.drop (j + 1)) = putOut L (G.drop j) := by
  rw [List.drop_eq_getElem_cons h]; rfl
theorem putOut_end (L : List (Int × Int)) (G : List Int) (j : Nat) (h : G.length ≤ j) : putOut L (G.drop j) = L := by
  rw [List.drop_of_length_le h]; rfl

/-- a list that With may take -/
structure LF (l : List (Int × Int)) (n : Nat) : Prop where
  len : l.length ≤ n
  bound : ∀ r ∈ l, 0 ≤ r.1 ∧ r.1 ≤ 1000
  sort : l.Pairwise (fun a b => a.1 < b.1)
theorem LF.without {l : List (Int × Int)} {n : Nat} (h : LF l n) (who : Int) : LF (withL l who 0) n := by
  have e : withL l who 0 = l.filter (fun r => decide (r.1 ≠ who)) := by
    unfold withL; rw [if_neg (by omega)]; unfold Go.Proofs.Ytclhmpknkinjcaa.without
    congr 1; funext r; by_cases hr : r.1 = who <;> simp [hr]
  rw [e]
  exact ⟨Nat.le_trans (List.length_filter_le _ _) h.len, fun r hr => h.bound r (List.mem_filter.1 hr).1, h.sort.sublist List.filter_sublist⟩

def OutPost (s : St) (a : Option Addr) (who key : Int) (w : World) (e : Ending) (w' : World) : Prop :=
  ∃ a' cap' v, e = .returned (.tuple #[.agg #[.int .i64 s.gen, .slice a' (putOut s.regs (goneL who key s.regs)).length cap', .int .i64 s.typ, .int .i64 s.holder, .bool s.stays], v]) ∧
    StR w' ⟨s.gen, putOut s.regs (goneL who key s.regs), s.typ, s.holder, s.stays⟩ a' ∧ (a' = a ∨ ∀ b o, a' = some ⟨b, o, none⟩ → w.heap.size ≤ b) ∧ OwnI w.heap.size w' v (goneL who key s.regs) ∧ Below w.heap.size w w'

/-- the second loop's relation -/
def OutRel (g : Int) (t h : Int) (st : Bool) (a : Option Addr) (F : List (Int × Int)) (G : List Int) (N : Nat) (w0 : World) (i : Value) (wz : World) : Prop :=
  ∃ (j : Nat) (L : List (Int × Int)) (a2 : Option Addr) (c2 : Nat), j ≤ G.length ∧ i = .int .i64 j ∧ putOut L (G.drop j) = F ∧ LF L 40 ∧ StR wz ⟨g, L, t, h, st⟩ a2 ∧ (a2 = a ∨ ∀ b o, a2 = some ⟨b, o, none⟩ → N + 2 ≤ b) ∧
    wz.heap[N]? = some (.cells #[.int .i64 g, .slice a2 L.length c2, .int .i64 t, .int .i64 h, .bool st] 47 (0, 0)) ∧ Keeps (· = N) w0 wz

theorem out_fin {g : Int} {l L : List (Int × Int)} {t h who key : Int} {st : Bool} {a a2 ag : Option Addr} {cz cg : Nat} {G : List Int} {w wo wr w' : World} (hG : G = goneL who key l) (hL : L = putOut l G) (hS : StR wr ⟨g, L, t, h, st⟩ a2) (hA : a2 = a ∨ ∀ b o, a2 = some ⟨b, o, none⟩ → w.heap.size + 2 ≤ b)
    (ho : OwnI (w.heap.size + 2) wo (.slice ag G.length cg) G) (hw : Below w.heap.size w wo) (k : Keeps (· = w.heap.size) wo wr) (k2 : Keeps (· = w.heap.size + 1) wr w') (hR : StR w ⟨g, l, t, h, st⟩ a) :
    OutPost ⟨g, l, t, h, st⟩ a who key w (.returned (.tuple #[.agg #[.int .i64 g, .slice a2 L.length cz, .int .i64 t, .int .i64 h, .bool st], .slice ag G.length cg])) w' := by
  subst hG hL
  have hbr : Below w.heap.size w wr := hw.trans (k.below hw.size (fun m hm => by omega))
  have hb : Below w.heap.size w w' := hbr.trans (k2.below hbr.size (fun m hm => by omega))
  refine ⟨a2, cz, _, rfl, ?_, hA.imp id (fun h b o e => by have := h b o e; omega), ?_, hb⟩
  · refine ⟨hS.len, fun i hi => ?_⟩
    obtain ⟨b, o, e, hb1, c1, c2⟩ := hS.rep i hi
    have hn : b ≠ w.heap.size + 1 := by
      rcases hA with rfl | hA
      · have hl : 0 < l.length := by
          have hi' : i < (putOut l (goneL who key l)).length := hi
          rw [putOut_filter] at hi'
          have := List.length_filter_le (fun r => !(goneL who key l).contains r.1) l
          omega
        obtain ⟨b', o', e', hb', -⟩ := hR.rep 0 hl
        rw [e] at e'
        cases e'
        omega
      · have := hA b o e; omega
    exact ⟨b, o, e, Nat.lt_of_lt_of_le hb1 k2.size, by rw [k2.cell hn hb1]; exact c1, by rw [k2.cell hn hb1]; exact c2⟩
  · exact ((ho.keeps k (fun m hm => by omega)).keeps k2 (fun m hm => by omega)).mono (by omega)

set_option maxRecDepth 100000 in
set_option maxHeartbeats 4000000 in
theorem out_any (s : St) (a : Option Addr) (cap : Nat) (who key : Int) (w : World) (hr : StR w s a) (hl : LF s.regs 40) :
    Calls Try.prog 110 #[stV s a cap, .int .i64 who, .int .i64 key] w (OutPost s a who key w) := by
  obtain ⟨g, l, t, h, st⟩ := s
  have HR := Lib.hid hr
  obtain ⟨_, hp⟩ := hr
  have hlen := hl.len
  dsimp only at hl hp hlen
  have HL := Lib.hid hl
  have HP := Lib.hid hp
  clear hl
  obtain ⟨i0, hi, hz0, hz1, hz2⟩ := info_parts Try.infoInt
  go_enter Try.func110, Try.ntmps110
  go_wp2
  go_loopw [8, 16] (fun v i wr => ∃ k : Nat, k ≤ l.length ∧ i = .int .i64 k ∧ OwnI (w.heap.size + 2) wr v (goneL who key (l.take k)) ∧ Below (w.heap.size + 2) ((w.alloc (.cells #[.int .i64 g, .slice a l.length cap, .int .i64 t, .int .i64 h, .bool st] 47)).alloc (.cells #[.int .i64 0, .slice none 0 0, .int .i64 0, .int .i64 0, .bool false] 47)) wr) (fun _ i _ => l.length - (intOf i).toNat)
  case atStart => exact ⟨0, by omega, rfl, ⟨rfl, .inl ⟨rfl, rfl⟩⟩, Below.refl _ _⟩
  case round =>
    obtain ⟨k, hk, rfl, hown, hb⟩ := hrel
    have HOWN := Lib.hid hown
    have HBLK := Lib.hid hown.blk
    clear hown
    have hs : w.heap.size + 2 ≤ wr.heap.size := by have := hb.size; simp at this; omega
    have hb0 : Below w.heap.size w wr := (((bal w _).alloc (by simp) _)).trans (hb.mono (by omega))
    have hol : (goneL who key (l.take k)).length ≤ k := Nat.le_trans (gone_len who key _) (by simp; omega)
    by_cases hlt : k < l.length
    · obtain ⟨b, o, rfl, hbs, h1, h2⟩ := HP.out k hlt
      have c1 := (hb0.cell (p := ⟨b, o + k * 2, none⟩) hbs).trans h1
      have c2 := (hb0.cell (p := ⟨b, o + k * 2 + 1, none⟩) hbs).trans h2
      clear h1 h2 hp
      by_cases hw : l[k].1 = who
      · have hwb : (l[k].1 != who) = false := by simp [hw]
        have HE := Lib.hid (gone_hit who key l k hlt (by simp [outB, hw]))
        clear hw
        go_wp2
        go_roundw
        case rel => exact ⟨k + 1, by omega, by go_num, by rw [HE.out]; exact HOWN.out.below (bal _ _), hb.alloc (by omega) _⟩
        case measure => simp [intOf]; omega
      have hwb : (l[k].1 != who) = true := by simp [hw]
      by_cases hz : key = 0
      · have hzb : (key == 0) = true := by simp [hz]
        have HE := Lib.hid (gone_miss who key l k hlt (by simp [outB, hw, hz]))
        clear hw hz
        go_wp2_with (at_builtin; refine wpList_append_own _ rfl _ _ 71 rfl (w.heap.size + 2) 3 i0 (.int .i64 0) 1 8 Try.underlying71 hi hz0 hz1 hz2 rfl (by decide) _ _ _ rfl ((HOWN.out.alloc _).alloc _) ⟨wr.heap.size + 1, 0, none⟩ 1 1 [.int .i64 l[k].1] rfl rfl ?c1 ?c2 ?c3 ?c4 ?c5 ?_)
        case c1 =>
          intro j u hj
          match j, hj with
          | 0, hj => simp at hj; subst hj; simp [Addr.add]
        case c2 => intro u hu; simp at hu; subst hu; rfl
        case c3 => unfold maxLen; omega
        case c4 => omega
        case c5 => simp; omega
        intro v' w1 hown1 hg1 _
        have hb1 : Below (w.heap.size + 2) ((w.alloc (.cells #[.int .i64 g, .slice (some ⟨b, o, none⟩) l.length cap, .int .i64 t, .int .i64 h, .bool st] 47)).alloc (.cells #[.int .i64 0, .slice none 0 0, .int .i64 0, .int .i64 0, .bool false] 47)) w1 := ((hb.alloc (by omega) _).alloc (by simp; omega) _).grown hg1 (by simp; omega) HBLK.out
        have HO1 := Lib.hid hown1
        clear hown1 hg1
        go_wp2
        go_roundw
        case rel => exact ⟨k + 1, by omega, by go_num, by rw [HE.out]; simpa [OwnI] using HO1.out, hb1⟩
        case measure => simp [intOf]; omega
      have hzb : (key == 0) = false := by simp [hz]
      by_cases hk2 : l[k].2 = key
      · have hkb : (l[k].2 == key) = true := by simp [hk2]
        have HE := Lib.hid (gone_miss who key l k hlt (by simp [outB, hw, hk2]))
        clear hw hz hk2
        go_wp2_with (at_builtin; refine wpList_append_own _ rfl _ _ 71 rfl (w.heap.size + 2) 3 i0 (.int .i64 0) 1 8 Try.underlying71 hi hz0 hz1 hz2 rfl (by decide) _ _ _ rfl ((HOWN.out.alloc _).alloc _) ⟨wr.heap.size + 1, 0, none⟩ 1 1 [.int .i64 l[k].1] rfl rfl ?c1 ?c2 ?c3 ?c4 ?c5 ?_)
        case c1 =>
          intro j u hj
          match j, hj with
          | 0, hj => simp at hj; subst hj; simp [Addr.add]
        case c2 => intro u hu; simp at hu; subst hu; rfl
        case c3 => unfold maxLen; omega
        case c4 => omega
        case c5 => simp; omega
        intro v' w1 hown1 hg1 _
        have hb1 : Below (w.heap.size + 2) ((w.alloc (.cells #[.int .i64 g, .slice (some ⟨b, o, none⟩) l.length cap, .int .i64 t, .int .i64 h, .bool st] 47)).alloc (.cells #[.int .i64 0, .slice none 0 0, .int .i64 0, .int .i64 0, .bool false] 47)) w1 := ((hb.alloc (by omega) _).alloc (by simp; omega) _).grown hg1 (by simp; omega) HBLK.out
        have HO1 := Lib.hid hown1
        clear hown1 hg1
        go_wp2
        go_roundw
        case rel => exact ⟨k + 1, by omega, by go_num, by rw [HE.out]; simpa [OwnI] using HO1.out, hb1⟩
        case measure => simp [intOf]; omega
      · have hkb : (l[k].2 == key) = false := by simp [hk2]
        have HE := Lib.hid (gone_hit who key l k hlt (by simp [outB, hz, hk2]))
        clear hw hz hk2
        go_wp2
        go_roundw
        case rel => exact ⟨k + 1, by omega, by go_num, by rw [HE.out]; exact HOWN.out.below (bal _ _), hb.alloc (by omega) _⟩
        case measure => simp [intOf]; omega
    · have HKL := Lib.hid (show goneL who key (l.take k) = goneL who key l from by rw [List.take_of_length_le (by omega)])
      obtain ⟨ag, cg, rfl, -⟩ := HOWN.out.shape
      have HG := Lib.hid HOWN.out.hi
      have HB0 := Lib.hid ((hb.block w.heap.size (by omega)).trans (heap_alloc2_old w _ _))
      have HBZ := Lib.hid ((hb.block (w.heap.size + 1) (by omega)).trans (heap_alloc2_new w _ _))
      have HS0 := Lib.hid (show StR wr ⟨g, l, t, h, st⟩ a from ⟨HR.out.len, (HP.out.below hb0 (Nat.le_refl _)).mono hb0.size⟩)
      have HW0 := Lib.hid hb0
      obtain ⟨wo, rfl⟩ : ∃ wo : World, wo = wr := ⟨_, rfl⟩
      obtain ⟨G, hG⟩ : ∃ G, goneL who key (l.take k) = G := ⟨_, rfl⟩
      rw [hG] at HKL HOWN HG hol
      have GB := Lib.hid (show ∀ x ∈ G, 0 ≤ x ∧ x ≤ 1000 from hG ▸ gone_mem who key (l.take k) _ (fun r hr => HL.out.bound r (List.mem_of_mem_take hr)))
      have gl : G.length ≤ 40 := by omega
      clear hb hb0 hp HBLK
      rw [hG]
      clear hG
      go_wp2
      go_loopw [42] (fun i wz => OutRel g t h st a (putOut l G) G w.heap.size wo i wz) (fun i _ => G.length - (intOf i).toNat)
      case atStart => exact ⟨0, l, a, cap, by omega, rfl, rfl, HL.out, HS0.out, .inl rfl, HB0.out, Keeps.refl _ _⟩
      case round =>
        obtain ⟨j, L, a2, cz, hj, rfl, hF, hLF, hS, hA, hB, hk⟩ := hrel
        have HF := Lib.hid hF
        have HLF := Lib.hid hLF
        have HS := Lib.hid hS
        have HA := Lib.hid hA
        have HB := Lib.hid hB
        have HK := Lib.hid hk
        clear hF hLF hS hA hB hk
        have hsz : wo.heap.size ≤ wr.heap.size := HK.out.size
        have hlt0 : w.heap.size < wr.heap.size := by omega
        obtain ⟨⟨d0, d1, d2, d3, d4⟩, f0, f1, f2, f3, f4⟩ := box5 (Below.refl wr.heap.size wr) hlt0 HB.out
        by_cases hgt : j < G.length
        · obtain ⟨b, o, rfl, hb1, hb2, c1⟩ := HG.out j hgt
          have c2 := (HK.out.cell (b := b) (o := o + j) (by omega) hb2).trans c1
          clear c1
          go_wp2_with fail
          refine (with_xlo g L t h st a2 cz G[j] 0 _ HS.out (by have := HLF.out.len; omega) (GB.out _ (List.getElem_mem _)) HLF.out.bound HLF.out.sort _ rfl).mono ?_
          rintro e w7 ⟨a7, c7, rfl, hs7, lo7, h7⟩
          have hz7 : w.heap.size < w7.heap.size := Nat.lt_of_lt_of_le hlt0 h7.size
          obtain ⟨⟨e0, e1, e2, e3, e4⟩, g0, g1, g2, g3, g4⟩ := box5 h7 hlt0 HB.out
          have HS7 := Lib.hid hs7
          have LO7 := Lib.hid lo7
          have H7 := Lib.hid h7
          clear hs7 lo7 h7
          go_wp2
          go_roundw
          case rel =>
            have kp : Keeps (· = w.heap.size) w7 (((((w7.setCell ⟨w.heap.size, 0, none⟩ (.int .i64 g)).setCell ⟨w.heap.size, 1, none⟩ (.slice a7 (withL L G[j] 0).length c7)).setCell ⟨w.heap.size, 2, none⟩ (.int .i64 t)).setCell ⟨w.heap.size, 3, none⟩ (.int .i64 h)).setCell ⟨w.heap.size, 4, none⟩ (.bool st)) := keeps_set (keeps_set (keeps_set (keeps_set (keeps_set (Keeps.refl _ _) _ _) _ _) _ _) _ _) _ _
            refine ⟨j + 1, withL L G[j] 0, a7, c7, by omega, by go_num, by rw [putOut_step L G j hgt]; exact HF.out, HLF.out.without _, str_keeps HS7.out LO7.out kp (fun m hm => by omega), .inr (fun b o e => by have := LO7.out b o e; omega), ?_, (HK.out.trans (Keeps.of_below H7.out)).trans kp⟩
            have hb7 := (H7.out.block w.heap.size hlt0).trans HB.out
            exact block_setCell (block_setCell (block_setCell (block_setCell (block_setCell hb7 _) _) _) _) _
          case measure => simp [intOf]; omega
        · have hjG : j = G.length := by omega
          have HE := Lib.hid (show L = putOut l G from by rw [← HF.out, putOut_end L G j (by omega)])
          have hBZ := (HK.out.block (w.heap.size + 1) (by omega) (by omega)).trans HBZ.out
          obtain ⟨⟨e0, e1, e2, e3, e4⟩, g0, g1, g2, g3, g4⟩ := box5 (Below.refl wr.heap.size wr) (b := w.heap.size + 1) (by omega) hBZ
          clear hBZ hjG HF
          go_wp2
          refine bodyPost_ret (v := .tuple #[.agg #[.int .i64 g, .slice a2 L.length cz, .int .i64 t, .int .i64 h, .bool st], .slice ag G.length cg]) (by simp [results, Try.results110, go_sem, *]) rfl ?_
          exact out_fin HKL.out HE.out HS.out HA.out HOWN.out HW0.out HK.out (keeps_set (keeps_set (keeps_set (keeps_set (keeps_set (Keeps.refl _ _) _ _) _ _) _ _) _ _) _ _) HR.out
end Go.Proofs.Ytclhmpknkinjcaa
