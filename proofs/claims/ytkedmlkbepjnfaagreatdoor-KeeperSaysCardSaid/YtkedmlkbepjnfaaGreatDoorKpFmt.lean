/-
  A live disk made ready: the plain law, and the contract of Format.
-/
import Derived.Test.YtkedmlkbepjnfaaGreatDoorKpKeep
import Derived.Test.YtkedmlkbepjnfaaGreatDoorKpSize
namespace Go.Proofs.YtkedmlkbepjnfaaGreatDoor
open Go.RowKit

/-- a disk that doesn't fall -/
def Live (d : Dk) : Prop := d.fuse = -1 ∧ d.down = false
theorem live_step {d : Dk} (h : Live d) : d.step = d := by
  obtain ⟨kept, now, wait, f, b⟩ := d
  obtain ⟨rfl, rfl⟩ : f = -1 ∧ b = false := h
  rfl
theorem live_steps {d : Dk} (h : Live d) : d.steps = true := Dk.steps_of h.1 h.2
theorem live_write {n p : Nat} {d : Dk} {s : ByteArray} (h : Live d) (hp : p < n) (hs : s.size ≤ 64) : d.write n (p : Int) s = ⟨d.kept, d.now.set p (fullB s), d.wait ++ [(p, fullB s)], -1, false⟩ := by
  rw [Dk.write_steps hp hs (live_steps h), live_step h]
  dsimp only
  rw [h.1, h.2]
theorem live_flush {d : Dk} (h : Live d) : d.flush = ⟨d.now, d.now, [], -1, false⟩ := by
  rw [Dk.flush_steps (live_steps h), live_step h]
  dsimp only
  rw [h.1, h.2]
theorem live_mk (a b : List ByteArray) (c : List (Nat × ByteArray)) : Live ⟨a, b, c, -1, false⟩ := ⟨rfl, rfl⟩
theorem live_lay {n a : Nat} {d : Dk} {A B : ByteArray} (h : Live d) (ha : 2 * a + 1 < n) (hA : A.size ≤ 64) (hB : B.size ≤ 64) :
    layD n d a A B = (⟨((d.now.set (2 * a) full0).set (2 * a + 1) (fullB B)).set (2 * a) (fullB A), ((d.now.set (2 * a) full0).set (2 * a + 1) (fullB B)).set (2 * a) (fullB A), [], -1, false⟩, true) := by
  have hE : (⟨#[]⟩ : ByteArray).size ≤ 64 := by decide
  have nf : ∀ {x : Dk}, Live x → ¬ x.steps = false := fun hx e => by rw [live_steps hx] at e; cases e
  unfold layD
  dsimp only
  rw [live_write h (by omega) hE, if_neg (nf h), if_neg (nf (live_mk _ _ _)), live_flush (live_mk _ _ _), if_neg (nf (live_mk _ _ _)), live_write (live_mk _ _ _) ha hB, if_neg (nf (live_mk _ _ _)), live_flush (live_mk _ _ _),
    if_neg (nf (live_mk _ _ _)), live_write (live_mk _ _ _) (by omega) hA, if_neg (nf (live_mk _ _ _)), live_flush (live_mk _ _ _)]
  rfl
def sNone : St := ⟨0, [], 0, 0, false⟩
theorem good_none : Good sNone := (good_iff _).1 (by decide)
theorem knum_one : KNum 1 1 sNone := ⟨by omega, by omega, by omega, by omega, good_none⟩
/-- the disk behind Format -/
def fmtD (n : Nat) (d : Dk) : Dk := ((((d.write n ((0 : Nat) : Int) ⟨#[]⟩).write n ((1 : Nat) : Int) ⟨#[]⟩).write n ((2 : Nat) : Int) ⟨#[]⟩).write n ((3 : Nat) : Int) ⟨#[]⟩).flush
theorem fmt_law {n : Nat} {d : Dk} (h : Live d) (ok : d.ok n) (n6 : 6 ≤ n) :
    Live (fmtD n d) ∧ (fmtD n d).wait = [] ∧ (layD n (fmtD n d) 1 (kA 1 1 sNone) (kB 1 1 sNone)).2 = true ∧ KD n (layD n (fmtD n d) 1 (kA 1 1 sNone) (kB 1 1 sNone)).1 1 1 sNone ∧ Live (layD n (fmtD n d) 1 (kA 1 1 sNone) (kB 1 1 sNone)).1 := by
  have hE : (⟨#[]⟩ : ByteArray).size ≤ 64 := by decide
  have nl := ok.nl
  have e : fmtD n d = ⟨(((d.now.set 0 full0).set 1 full0).set 2 full0).set 3 full0, (((d.now.set 0 full0).set 1 full0).set 2 full0).set 3 full0, [], -1, false⟩ := by
    unfold fmtD
    rw [live_write h (by omega) hE, live_write (live_mk _ _ _) (by omega) hE, live_write (live_mk _ _ _) (by omega) hE, live_write (live_mk _ _ _) (by omega) hE, live_flush (live_mk _ _ _)]
    rfl
  have hA : (kA 1 1 sNone).size ≤ 64 := KNum.kA_size
  have hB := knum_one.kB_size
  rw [e, live_lay (live_mk _ _ _) (by omega) hA hB]
  refine ⟨live_mk _ _ _, rfl, rfl, ⟨⟨ok.n40, by simp [nl], by simp [nl], (fun _ hr => by cases hr), by show (-1 : Int) ≤ -1; omega, by show (-1 : Int) ≤ _; omega⟩, n6, rfl, rfl, rfl, by omega, ⟨?_, ?_, knum_one⟩, .inl ?_⟩, live_mk _ _ _⟩
  · show List.getD _ 2 _ = _
    rw [getD_set_eq (by simp [nl]; omega)]
  · show List.getD _ 3 _ = _
    rw [getD_set_ne (by decide), getD_set_eq (by simp [nl]; omega)]
  · show List.getD _ 0 _ = _
    rw [getD_set_ne (by decide), getD_set_ne (by decide), getD_set_ne (by decide), getD_set_ne (by decide), getD_set_ne (by decide), getD_set_ne (by decide), getD_set_eq (by omega)]

theorem KpR.next {S : Nat → Prop} {w w' : World} {K D n : Nat} {a : Option Addr} {cap : Nat} {k : Kp} {d : Dk} (h : KpR S w K D n a cap k) (hd : DkAt (grow S w w') w' 65 78 D n d) (kp : Keeps S w w') : KpR (grow S w w') w' K D n a cap { k with d := d } := by
  have hK := (Array.getElem?_eq_some_iff.1 h.blk).1
  refine ⟨(kp.block K h.nk hK).trans h.blk, hd, fun e => ?_, fun b e => ?_, h.str.keeps kp (fun b o e hn => (h.ap b o e hn).1), fun b o e hn => ⟨fun hS => ?_, (h.ap b o e hn).2⟩⟩
  · rcases e with e | e
    · exact h.nk e
    · omega
  · rcases e with e | e
    · exact Nat.lt_of_lt_of_le (h.lt b e) kp.size
    · exact e.2
  · subst e
    have := h.str.blt hn
    rcases hS with e | e
    · exact (h.ap b o rfl hn).1 e
    · omega
/-- what Format keeps: the keeper at hand, and what lay there -/
structure FF (S0 : Nat → Prop) (w : World) (K D n : Nat) (k : Kp) (S : Nat → Prop) (wx : World) : Prop where
  kr : KpR S wx K D n none 0 k
  sub : ∀ b, S b → grow S0 w wx b
  keep : Keeps S0 w wx
theorem FF.next {S0 S : Nat → Prop} {w wx w' : World} {K D n : Nat} {k : Kp} {d : Dk} (f : FF S0 w K D n k S wx) (hd : DkAt (grow S wx w') w' 65 78 D n d) (kp : Keeps S wx w') : FF S0 w K D n { k with d := d } (grow S wx w') w' := by
  refine ⟨f.kr.next hd kp, fun b e => ?_, ?_⟩
  · rcases e with e | e
    · rcases f.sub b e with e | e
      · exact .inl e
      · exact .inr ⟨e.1, Nat.lt_of_lt_of_le e.2 kp.size⟩
    · exact .inr ⟨Nat.le_trans f.keep.size e.1, e.2⟩
  · refine ⟨kp.os.trans f.keep.os, kp.tape.trans f.keep.tape, kp.output.trans f.keep.output, Nat.le_trans f.keep.size kp.size, fun b hb hlt => ?_⟩
    refine (kp.block b (fun e => ?_) (Nat.lt_of_lt_of_le hlt f.keep.size)).trans (f.keep.block b hb hlt)
    rcases f.sub b e with e | e
    · exact hb e
    · omega
def fmtW (n : Nat) (d : Dk) : Nat → Dk
  | 0 => d
  | k + 1 => (fmtW n d k).write n (k : Int) ⟨#[]⟩
theorem fmtW_facts {n : Nat} {d : Dk} (h : Live d) (ok : d.ok n) (n6 : 6 ≤ n) (hw : d.wait.length ≤ 800) : ∀ k, k ≤ 4 → Live (fmtW n d k) ∧ (fmtW n d k).ok n ∧ (fmtW n d k).wait.length ≤ 800 + k
  | 0, _ => ⟨h, ok, hw⟩
  | k + 1, hk => by
    obtain ⟨h1, h2, h3⟩ := fmtW_facts h ok n6 hw k (by omega)
    refine ⟨?_, Dk.write_ok h2 _ _, ?_⟩
    · unfold fmtW; rw [live_write h1 (by omega) (by decide)]; exact live_mk _ _ _
    · unfold fmtW; rw [live_write h1 (by omega) (by decide)]; simp; omega
/-- what Format leaves of a live disk -/
def FmtPost (S : Nat → Prop) (w : World) (D n : Nat) (e : Ending) (w' : World) : Prop :=
  e = .returned .nilIface ∧ ∃ d' S', DkAt S' w' 65 78 D n d' ∧ KD n d' 1 1 sNone ∧ Live d' ∧ Sz d' ∧ (∀ b, S' b → grow S w w' b) ∧ (∀ b, S' b → b < w'.heap.size) ∧ Keeps S w w'

set_option maxRecDepth 100000 in
set_option maxHeartbeats 4000000 in
theorem format_any (S : Nat → Prop) (w : World) (D n : Nat) (d : Dk) (h : DkAt S w 65 78 D n d) (hl : Live d) (ok : d.ok n) (sz : Sz d) (n6 : 6 ≤ n) (hw : d.wait.length ≤ 800) (lt : ∀ b, S b → b < w.heap.size) (gl : 8 ≤ w.heap.size) (tt : ∀ w', Keeps S w w' → Tabs w') :
    Calls Tryz.prog 10 #[.pointer (some ⟨D, 0, none⟩)] w fun e w' => FmtPost S w D n e w' := by
  have HH := Lib.hid h
  have HL := Lib.hid hl
  have OK := Lib.hid ok
  have LT := Lib.hid lt
  have TT := Lib.hid tt
  have SZ := Lib.hid (show Sz (layD n (fmtD n d) 1 (kA 1 1 sNone) (kB 1 1 sNone)).1 from Sz.lay (Sz.flush (Sz.write (Sz.write (Sz.write (Sz.write sz _ _) _ _) _ _) _ _)))
  have FW := Lib.hid (fmtW_facts hl ok n6 hw)
  have FL := Lib.hid (fmt_law hl ok n6)
  have SEC := Lib.hid (fun w' (hd : DkAt S w' 65 78 D n d) => dsectors_any S w' D n d hd)
  have n40 := ok.n40
  clear h hl ok lt tt hw sz
  go_enter Tryz.func10, Tryz.ntmps10
  go_wp2_with fail
  refine (SEC.out _ HH.out).mono ?_
  rintro e w0 ⟨rfl, rfl⟩
  have hn6 : ¬ (n : Int) < 6 := by omega
  have F0 := Lib.hid (show FF S w0 w0.heap.size D n ⟨fmtW n d 0, 0, 0, sNone⟩ S (w0.alloc (.cells #[.pointer (some ⟨D, 0, none⟩), .int .i64 0, .int .i64 0, .int .i64 0, .slice none 0 0, .int .i64 0, .int .i64 0, .bool false] 68)) from
    ⟨⟨heap_alloc_new w0 _, HH.out.below (bal w0 _), fun e => by have := LT.out _ e; omega, fun b e => by have := LT.out b e; simp; omega, ⟨by simp [sNone], Pairs.nil _ _ _⟩, fun b o e => by cases e⟩, fun b e => .inl e, Keeps.of_below (bal w0 _)⟩)
  go_wp2
  go_loopw [4, 5, 14] (fun _ _ i wr => ∃ k : Nat, k ≤ 4 ∧ i = .int .i64 k ∧ ∃ S', FF S w0 w0.heap.size D n ⟨fmtW n d k, 0, 0, sNone⟩ S' wr) (fun _ _ i _ => 4 - (RowKit.intOf i).toNat)
  case atStart => exact ⟨0, by omega, rfl, S, F0.out⟩
  case round =>
    obtain ⟨k, hk, rfl, S1, hf⟩ := hrel
    have F1 := Lib.hid hf
    clear hf
    by_cases hlt : k < 4
    · obtain ⟨h1, h2, h3⟩ := FW.out k (by omega)
      have ST := Lib.hid (live_steps h1)
      have hk4 : ((k : Nat) : Int) < 4 := by omega
      have WR := Lib.hid (dwrite_any S1 wr D n (fmtW n d k) (k : Int) ⟨#[]⟩ F1.out.kr.dk h2 (by omega))
      clear h1 h2 h3
      go_wp2_with fail
      refine WR.out.mono ?_
      rintro e w3 ⟨rfl, hd, kp⟩
      have F2 := Lib.hid (show FF S w0 w0.heap.size D n ⟨fmtW n d (k + 1), 0, 0, sNone⟩ (grow S1 wr w3) w3 from F1.out.next hd kp)
      rw [Dk.writeF_of (by omega) (by omega) (by decide), ST.out]
      simp only [if_true]
      rw [errV_nil]
      clear hd kp
      go_wp2
      go_roundw
      case rel => exact ⟨k + 1, by omega, by go_num, _, F2.out⟩
      case measure => simp [RowKit.intOf]; omega
    · obtain rfl : k = 4 := by omega
      obtain ⟨h1, h2, h3⟩ := FW.out 4 (by omega)
      have ST := Lib.hid (live_steps h1)
      have FLU := Lib.hid (dflush_any S1 wr D n (fmtW n d 4) F1.out.kr.dk h2)
      have OKF := Lib.hid (show (fmtD n d).ok n from Dk.flush_ok' h2)
      clear h1 h2 h3
      go_wp2_with fail
      refine FLU.out.mono ?_
      rintro e w3 ⟨rfl, hd, kp⟩
      have F2 := Lib.hid (show FF S w0 w0.heap.size D n ⟨fmtD n d, 0, 0, sNone⟩ (grow S1 wr w3) w3 from F1.out.next (hd.mono (fun _ e => .inl e)) kp)
      rw [ST.out]
      simp only [if_true]
      rw [errV_nil]
      clear hd kp
      have LAY := Lib.hid (lay_any _ w3 w0.heap.size D n none none 0 0 ⟨fmtD n d, 0, 0, sNone⟩ 1 sNone F2.out.kr OKF.out (by show (fmtD n d).wait.length ≤ 900; rw [FL.out.2.1]; simp) n6 (by show (0 : Int) ≤ 0; omega) (by show KNum (0 + 1) 1 sNone; exact knum_one) ⟨by simp [sNone], Pairs.nil _ _ _⟩ (fun b o e => by cases e) (TT.out _ F2.out.keep))
      go_wp2_with fail
      refine LAY.out.mono ?_
      rintro e w4 ⟨rfl, S2, a2, cap2, k2, s2, kk2, -⟩
      have RES : (⟨fmtD n d, 0, 0, sNone⟩ : Kp).lay n 1 sNone = (⟨(layD n (fmtD n d) 1 (kA 1 1 sNone) (kB 1 1 sNone)).1, 1, 1, sNone⟩, 0) := by
        unfold Kp.lay
        show (if (layD n (fmtD n d) 1 (kA 1 1 sNone) (kB 1 1 sNone)).2 = true then _ else _) = _
        rw [if_pos FL.out.2.2.1]
        rfl
      rw [RES] at k2 ⊢
      have POST := Lib.hid (show FmtPost S w0 D n (.returned .nilIface) w4 from by
        refine ⟨rfl, _, S2, k2.dk, FL.out.2.2.2.1, FL.out.2.2.2.2, SZ.out, fun b e => ?_, k2.lt, ?_⟩
        · rcases s2 b e with e | e
          · rcases F2.out.sub b e with e | e
            · exact .inl e
            · exact .inr ⟨e.1, Nat.lt_of_lt_of_le e.2 kk2.size⟩
          · exact .inr ⟨Nat.le_trans F2.out.keep.size e.1, e.2⟩
        · refine ⟨kk2.os.trans F2.out.keep.os, kk2.tape.trans F2.out.keep.tape, kk2.output.trans F2.out.keep.output, Nat.le_trans F2.out.keep.size kk2.size, fun b hb hlt => ?_⟩
          refine (kk2.block b (fun e => ?_) (Nat.lt_of_lt_of_le hlt F2.out.keep.size)).trans (F2.out.keep.block b hb hlt)
          rcases e with e | e
          · rcases F2.out.sub b e with e | e
            · exact hb e
            · omega
          · omega)
      clear k2 s2 kk2 RES
      rw [errV_nil]
      go_wp2
      go_ret
      exact POST.out
end Go.Proofs.YtkedmlkbepjnfaaGreatDoor
