/-
  TopDisk: the walk.
-/
import Derived.Test.YtclhmpknkinjcaaDiskN
import Derived.Test.YtclhmpknkinjcaaLightActs
import Derived.Deep.CutBlock
import Derived.Deep.DeepCutAuto
namespace Go.Proofs.Ytclhmpknkinjcaa
open Go.RowKit Go.Sort

/-! ### plain -/
/-- a disk that goes on -/
structure Dk.live (d : Dk) : Prop where
  up : d.down = false
  fu : d.fuse = -1
theorem Dk.live.steps {d : Dk} (h : d.live) : d.steps = true := by unfold Dk.steps; rw [h.up, h.fu]; rfl
theorem Dk.live.step {d : Dk} (h : d.live) : d.step = d := by
  obtain ⟨kept, now, wait, f, b⟩ := d
  obtain ⟨h1, h2⟩ := h
  dsimp only at h1 h2
  subst h1; subst h2
  rfl
theorem Dk.new_live (n : Nat) : (Dk.new n).live := ⟨rfl, rfl⟩
theorem Dk.live.flush {d : Dk} (h : d.live) : d.flush = { d with kept := d.now, wait := [] } := by unfold Dk.flush; rw [if_pos h.steps, h.step]
theorem Dk.live.write {d : Dk} (h : d.live) (n : Nat) (p : Int) (s : ByteArray) :
    d.write n p s = (if p < 0 ∨ n ≤ p ∨ 64 < s.size then d else { d with now := d.now.set p.toNat (fullB s), wait := d.wait ++ [(p.toNat, fullB s)] }) ∧ d.writeF n p s = (if p < 0 ∨ n ≤ p ∨ 64 < s.size then 1 else 0) := by
  unfold Dk.write Dk.writeF
  rw [if_pos h.steps, if_pos h.steps, h.step]
  exact ⟨rfl, rfl⟩
theorem Dk.live.write_live {d : Dk} (h : d.live) (n : Nat) (p : Int) (s : ByteArray) : (d.write n p s).live := by
  rw [(h.write n p s).1]
  split
  · exact h
  · exact ⟨h.up, h.fu⟩
theorem Dk.live.wait_len {d : Dk} (h : d.live) (n : Nat) (p : Int) (s : ByteArray) : (d.write n p s).wait.length ≤ d.wait.length + 1 := by
  rw [(h.write n p s).1]
  split
  · omega
  · simp
theorem Dk.live.read {d : Dk} (h : d.live) {n k : Nat} (hk : k < n) : d.readF n k = 0 ∧ d.readS n k = d.now.getD k ⟨#[]⟩ := by
  unfold Dk.readF Dk.readS
  rw [h.up]
  simp only [Bool.false_eq_true, if_false]
  rw [if_neg (by omega), if_neg (by omega)]
  exact ⟨rfl, rfl⟩
theorem Dk.flush_ok {n : Nat} {d : Dk} (h : d.ok n) (hl : d.live) : d.flush.ok n := by
  rw [hl.flush]
  exact ⟨h.n40, h.nl, h.nl, (fun _ hr => by cases hr), h.fu, h.fm⟩
theorem restTo_congr (keep : Int) (d d' : Dk) (hk : d'.kept = d.kept) : ∀ (k : Nat), (∀ i, i < k → d'.wait.getD i (0, ⟨#[]⟩) = d.wait.getD i (0, ⟨#[]⟩)) → d'.restTo keep k = d.restTo keep k
  | 0, _ => hk
  | k + 1, h => by
    have ih := restTo_congr keep d d' hk k (fun i hi => h i (by omega))
    unfold Dk.restTo
    rw [ih, h k (by omega)]
/-- what is written behind a flush -/
theorem Dk.restTo_write (keep : Int) {d : Dk} (h : d.live) {n : Nat} {p : Nat} {s : ByteArray} (hp : p < n) (hs : s.size ≤ 64) :
    (d.write n p s).wait.length = d.wait.length + 1 ∧ (d.write n p s).restTo keep (d.wait.length + 1) = if bitK keep d.wait.length then (d.restTo keep d.wait.length).set p (fullB s) else d.restTo keep d.wait.length := by
  rw [(h.write n p s).1, if_neg (by omega)]
  refine ⟨by simp, ?_⟩
  have e : Dk.restTo keep { d with now := d.now.set (p : Int).toNat (fullB s), wait := d.wait ++ [((p : Int).toNat, fullB s)] } d.wait.length = d.restTo keep d.wait.length :=
    restTo_congr keep d { d with now := d.now.set (p : Int).toNat (fullB s), wait := d.wait ++ [((p : Int).toNat, fullB s)] } rfl _ (fun i hi => by simp [List.getD, List.getElem?_append_left hi])
  show (if bitK keep d.wait.length then _ else _) = _
  rw [e]
  simp [List.getD]

/-! ### in memory -/
structure TD (w : World) (D : Nat) (d : Dk) (S : Nat → Prop) (wx : World) : Prop where
  at' : DkAt S wx 144 148 D 4 d
  ok : d.ok 4
  live : d.live
  lo : ∀ k, S k → w.heap.size ≤ k ∧ k < wx.heap.size
  below : Below w.heap.size w wx
theorem TD.over {w wx w' : World} {D : Nat} {d : Dk} {S : Nat → Prop} (f : TD w D d S wx) (b : Below wx.heap.size wx w') : TD w D d S w' :=
  ⟨f.at'.below b, f.ok, f.live, fun k hk => ⟨(f.lo k hk).1, Nat.lt_of_lt_of_le (f.lo k hk).2 b.size⟩, f.below.trans (b.mono f.below.size)⟩
theorem TD.next {w wx w' : World} {D : Nat} {d d' : Dk} {S : Nat → Prop} (f : TD w D d S wx) (h : DkAt (grow S wx w') w' 144 148 D 4 d') (ok : d'.ok 4) (hl : d'.live) (k : Keeps S wx w') : TD w D d' (grow S wx w') w' :=
  ⟨h, ok, hl, fun b hb => by
    rcases hb with hb | hb
    · exact ⟨(f.lo b hb).1, Nat.lt_of_lt_of_le (f.lo b hb).2 k.size⟩
    · exact ⟨Nat.le_trans f.below.size hb.1, hb.2⟩, f.below.trans (k.below f.below.size (fun b hb => (f.lo b hb).1))⟩
theorem TD.same {w wx w' : World} {D : Nat} {d d' : Dk} {S : Nat → Prop} (f : TD w D d S wx) (h : DkAt S w' 144 148 D 4 d') (ok : d'.ok 4) (hl : d'.live) (k : Keeps S wx w') : TD w D d' S w' :=
  ⟨h, ok, hl, fun b hb => ⟨(f.lo b hb).1, Nat.lt_of_lt_of_le (f.lo b hb).2 k.size⟩, f.below.trans (k.below f.below.size (fun b hb => (f.lo b hb).1))⟩
/-- four strings in an array of their own -/
structure TW (w : World) (D V : Nat) (d : Dk) (l : List ByteArray) (S : Nat → Prop) (wx : World) : Prop where
  td : TD w D d S wx
  hV : wx.heap[V]? = some (.cells (strs l).toArray 128 (0, 0))
  l4 : l.length = 4
  lo : w.heap.size ≤ V
  ne : ¬ S V
theorem TW.lt {w wx : World} {D V : Nat} {d : Dk} {l : List ByteArray} {S : Nat → Prop} (f : TW w D V d l S wx) : V < wx.heap.size := (Array.getElem?_eq_some_iff.1 f.hV).1
theorem TW.over {w wx w' : World} {D V : Nat} {d : Dk} {l : List ByteArray} {S : Nat → Prop} (f : TW w D V d l S wx) (b : Below wx.heap.size wx w') : TW w D V d l S w' :=
  ⟨f.td.over b, (b.block V f.lt).trans f.hV, f.l4, f.lo, f.ne⟩
theorem TW.next {w wx w' : World} {D V : Nat} {d d' : Dk} {l : List ByteArray} {S : Nat → Prop} (f : TW w D V d l S wx) (h : DkAt (grow S wx w') w' 144 148 D 4 d') (ok : d'.ok 4) (hl : d'.live) (k : Keeps S wx w') : TW w D V d' l (grow S wx w') w' :=
  ⟨f.td.next h ok hl k, (k.block V f.ne f.lt).trans f.hV, f.l4, f.lo, fun e => by
    rcases e with e | e
    · exact f.ne e
    · have := f.lt; omega⟩
theorem TW.same {w wx w' : World} {D V : Nat} {d d' : Dk} {l : List ByteArray} {S : Nat → Prop} (f : TW w D V d l S wx) (h : DkAt S w' 144 148 D 4 d') (ok : d'.ok 4) (hl : d'.live) (k : Keeps S wx w') : TW w D V d' l S w' :=
  ⟨f.td.same h ok hl k, (k.block V f.ne f.lt).trans f.hV, f.l4, f.lo, f.ne⟩
theorem TW.set {w wx : World} {D V : Nat} {d : Dk} {l : List ByteArray} {S : Nat → Prop} (f : TW w D V d l S wx) (i : Nat) (s : ByteArray) : TW w D V d (l.set i s) S (wx.setCell ⟨V, i, none⟩ (.string s)) := by
  have kp : Keeps (· = V) wx (wx.setCell ⟨V, i, none⟩ (.string s)) := (Keeps.refl (· = V) wx).setCell (p := ⟨V, i, none⟩) rfl _
  refine ⟨⟨f.td.at'.keeps kp (fun b hb e => f.ne (e ▸ hb)), f.td.ok, f.td.live, fun k hk => ⟨(f.td.lo k hk).1, Nat.lt_of_lt_of_le (f.td.lo k hk).2 kp.size⟩, f.td.below.trans (kp.below f.td.below.size (fun b hb => hb ▸ f.lo))⟩, ?_, by simp [f.l4], f.lo, f.ne⟩
  rw [block_setCell f.hV]
  simp [strs, List.map_set]
theorem TW.cell {w wx : World} {D V : Nat} {d : Dk} {l : List ByteArray} {S : Nat → Prop} (f : TW w D V d l S wx) {i : Nat} (hi : i < l.length) : wx.cell? ⟨V, i, none⟩ = some (.string l[i]) ∧ wx.frozen? ⟨V, i, none⟩ = false := by
  simp [World.cell?, World.frozen?, f.hV, strs, hi]

set_option maxRecDepth 100000 in
set_option maxHeartbeats 1000000 in
theorem topdisk_walk (l more : List Ac) (a a2 : Option Addr) (cap cap2 : Nat) (keep : Int) (w : World) (hl : l.length ≤ maxLen) (hr : ActsAt w a l) (hl2 : more.length ≤ maxLen) (hr2 : ActsAt w a2 more) :
    Calls Try.prog 12 #[.slice a l.length cap, .slice a2 more.length cap2, .int .u64 keep] w fun e w' => e = .returned (.bool true) ∧ Below w.heap.size w w' := by
  have HR := Lib.hid hr
  have HR2 := Lib.hid hr2
  clear hr hr2
  go_enter Try.func12, Try.ntmps12
  go_wp2_with fail
  refine (dnew_any 4 _ (by omega)).mono ?_
  rintro e w1 ⟨D, rfl, dk, b1⟩
  have T1 := Lib.hid (show TD w D (Dk.new 4) (made w w1) w1 from ⟨dk, Dk.new_ok (by omega), Dk.new_live 4, fun k hk => hk, b1⟩)
  clear dk b1
  go_wp2_with fail
  refine (dflush_any _ _ D 4 (Dk.new 4) T1.out.at' T1.out.ok).mono ?_
  rintro e w2 ⟨rfl, dk, kp⟩
  have T2 := Lib.hid (T1.out.same dk (Dk.flush_ok T1.out.ok T1.out.live) ⟨by rw [T1.out.live.flush]; rfl, by rw [T1.out.live.flush]; rfl⟩ kp)
  clear dk kp T1
  rw [if_pos (Dk.new_live 4).steps, errV_nil]
  go_wp2_with fail
  refine (dsectors_any _ _ D 4 _ T2.out.at').mono ?_
  rintro e w3 ⟨rfl, rfl⟩
  go_wp2_with fail
  refine (lightacts_any l a cap 40 _ hl (HR.out.below T2.out.below)).mono ?_
  rintro e w3 ⟨L, rfl, hL, b3⟩
  have T3 := Lib.hid (T2.out.over b3)
  have HL := Lib.hid hL
  clear b3 T2 hL
  cases L
  · go_wp2
    go_ret
    exact ⟨rfl, T3.out.below⟩
  have hl40 : l.length ≤ 40 := (HL.out rfl).1
  clear HL
  go_wp2_with fail
  refine (lightacts_any more a2 cap2 60 _ hl2 (HR2.out.below T3.out.below)).mono ?_
  rintro e w4 ⟨L, rfl, hL, b3⟩
  have T4 := Lib.hid (T3.out.over b3)
  have HL := Lib.hid hL
  clear b3 T3 hL
  cases L
  · go_wp2
    go_ret
    exact ⟨rfl, T4.out.below⟩
  have hm60 : more.length ≤ 60 := (HL.out rfl).1
  clear HL
  have LW := Lib.hid (show (Dk.new 4).flush.wait.length = 0 from by rw [(Dk.new_live 4).flush]; rfl)
  go_wp2
  go_loopw [9, 49] (fun v _ wr => ∃ (k : Nat) (d : Dk) (S : Nat → Prop), k ≤ l.length ∧ v = .int .i64 k ∧ d.wait.length ≤ k ∧ TD w D d S wr) (fun v _ _ => l.length - (intOf v).toNat)
  case atStart => exact ⟨0, _, _, by omega, rfl, by rw [LW.out]; omega, T4.out⟩
  case round =>
    obtain ⟨k, d, S, hk, rfl, hwk, td⟩ := hrel
    have TT := Lib.hid td
    have HWK := Lib.hid hwk
    clear td hwk T4 LW
    by_cases hlt : k < l.length
    · have AT := (HR.out.below TT.out.below) k hlt
      obtain ⟨X, hX⟩ : ∃ X, l[k] = X := ⟨_, rfl⟩
      rw [hX] at AT
      obtain ⟨ok, b, o, rfl, hbl, hrg⟩ := AT
      go_upto_region 9 with fail
      refine region_tail2 11 (by kernel_rfl) (by kernel_rfl) ?_
      intro wd hwd hwh
      have ac := act_cells hrg
      have m1 := (hwd.cell (p := ⟨b, o + k * 19 + 1, none⟩) hbl).trans ac.1.2.1
      have m3 := (hwd.cell (p := ⟨b, o + k * 19 + 3, none⟩) hbl).trans ac.1.2.2.2.1
      have T5 := Lib.hid (TT.out.over hwd)
      have hki : (k : Int) < (l.length : Int) := by omega
      have hk0 : (0 : Int) ≤ (k : Int) := by omega
      clear ac hrg hbl hwd hwh ok hX TT
      simp only [List.take_succ_cons, List.take_zero, List.drop_succ_cons, List.drop_zero]
      repeat still_step
      refine wpStill_nil ?_
      go_wp2_with fail
      refine (dwrite_any S _ D 4 d X.a X.s T5.out.at' T5.out.ok (by have := HWK.out; omega)).mono ?_
      rintro e w6 ⟨rfl, dk, kp⟩
      have T6 := Lib.hid (T5.out.next dk (Dk.write_ok T5.out.ok _ _) (T5.out.live.write_live _ _ _) kp)
      have LW := Lib.hid (T5.out.live.wait_len 4 X.a X.s)
      clear dk kp
      go_wp2
      go_roundw
      case rel => exact ⟨k + 1, _, _, by omega, by go_num, by have := LW.out; have := HWK.out; omega, T6.out⟩
      case measure => simp [intOf]; omega
    · obtain rfl : k = l.length := by omega
      clear hlt hk HR
      go_wp2_with fail
      refine (dflush_any S _ D 4 d TT.out.at' TT.out.ok).mono ?_
      rintro e w2 ⟨rfl, dk, kp⟩
      rw [if_pos TT.out.live.steps, errV_nil]
      rw [TT.out.live.flush] at dk
      have T2 := Lib.hid (TT.out.same dk (by have := Dk.flush_ok TT.out.ok TT.out.live; rwa [TT.out.live.flush] at this) ⟨TT.out.live.up, TT.out.live.fu⟩ kp)
      obtain ⟨base, hbase⟩ : ∃ base, d.now = base := ⟨_, rfl⟩
      rw [hbase] at T2
      have B4 := Lib.hid (show base.length = 4 from hbase ▸ TT.out.ok.nl)
      clear dk kp TT hbase
      go_upto_region 13 with fail
      have T5 := Lib.hid (show TW w D w2.heap.size { d with kept := base, now := base, wait := [] } [⟨#[]⟩, ⟨#[]⟩, ⟨#[]⟩, ⟨#[]⟩] S (w2.alloc (.cells #[.string ⟨#[]⟩, .string ⟨#[]⟩, .string ⟨#[]⟩, .string ⟨#[]⟩] 128)) from
        ⟨T2.out.over (bal w2 _), heap_alloc_new w2 _, rfl, T2.out.below.size, fun e => by have := (T2.out.lo _ e).2; omega⟩)
      obtain ⟨w5, hw5⟩ : ∃ w5, w5 = w2.alloc (.cells #[.string ⟨#[]⟩, .string ⟨#[]⟩, .string ⟨#[]⟩, .string ⟨#[]⟩] 128) := ⟨_, rfl⟩
      rw [← hw5] at T5 ⊢
      clear hw5
      obtain ⟨V, hV⟩ : ∃ V, w2.heap.size = V := ⟨_, rfl⟩
      rw [hV] at T5 ⊢
      clear hV T2
      obtain ⟨d2, hd2⟩ : ∃ d2 : Dk, d2 = { d with kept := base, now := base, wait := [] } := ⟨_, rfl⟩
      rw [← hd2] at T5
      have DN := Lib.hid (show d2.now = base ∧ d2.kept = base ∧ d2.wait = [] from by rw [hd2]; exact ⟨rfl, rfl, rfl⟩)
      clear hd2
      go_wp2
      go_loopw [11, 70] (fun v _ wr => ∃ (k : Nat) (wl : List ByteArray), k ≤ 4 ∧ v = .int .i64 k ∧ (∀ i, i < k → wl[i]? = base[i]?) ∧ TW w D V d2 wl S wr) (fun v _ _ => 4 - (intOf v).toNat)
      case atStart => exact ⟨0, _, by omega, rfl, fun i hi => by omega, T5.out⟩
      case round =>
        obtain ⟨k, wl, hk, rfl, hwl, tw⟩ := hrel
        have TT := Lib.hid tw
        have HWL := Lib.hid hwl
        clear tw hwl T5
        by_cases hlt : k < 4
        · have RS := Lib.hid (TT.out.td.live.read (n := 4) hlt)
          obtain ⟨Z, hZ⟩ : ∃ Z, d2.now.getD k ⟨#[]⟩ = Z := ⟨_, rfl⟩
          have HZ := Lib.hid (show base[k]? = some Z from by
            have hb : k < base.length := by rw [B4.out]; exact hlt
            rw [← hZ, DN.out.1]; simp [List.getD, hb])
          go_wp2_with fail
          refine (dread_any S _ D 4 d2 k TT.out.td.at' TT.out.td.ok).mono ?_
          rintro e w6 ⟨rfl, rfl⟩
          rw [RS.out.1, RS.out.2, hZ, errV_nil]
          obtain ⟨v0, v1⟩ := TT.out.cell (i := k) (by rw [TT.out.l4]; exact hlt)
          have T6 := Lib.hid (TT.out.set k Z)
          have W6 := Lib.hid (show ∀ i, i < k + 1 → (wl.set k Z)[i]? = base[i]? from fun i hi => by
            by_cases e : i = k
            · subst e; rw [HZ.out]; simp [TT.out.l4, hlt]
            · rw [List.getElem?_set_ne (Ne.symm e)]; exact HWL.out i (by omega))
          have hk4 : (k : Int) < 4 := by omega
          have hk0 : (0 : Int) ≤ (k : Int) := by omega
          clear hZ RS
          go_wp2
          go_roundw
          case rel => exact ⟨k + 1, _, by omega, by go_num, W6.out, T6.out⟩
          case measure => simp [intOf]; omega
        · obtain rfl : k = 4 := by omega
          have WB := Lib.hid (show wl = base from List.ext_getElem? fun i => by
            by_cases hi : i < 4
            · exact HWL.out i hi
            · rw [List.getElem?_eq_none (by rw [TT.out.l4]; omega), List.getElem?_eq_none (by rw [B4.out]; omega)])
          rw [WB.out] at TT
          clear WB HWL hlt hk
          have TB := Lib.hid (show TW w D V d2 (d2.restTo keep d2.wait.length) S wr from by rw [DN.out.2.2]; show TW w D V d2 d2.kept S wr; rw [DN.out.2.1]; exact TT.out)
          have LW := Lib.hid (show d2.wait.length = 0 from by rw [DN.out.2.2]; rfl)
          clear TT DN B4
          obtain ⟨wq, rfl⟩ : ∃ wq : World, wq = wr := ⟨_, rfl⟩
          rw [show ((4 : Nat) : Int) = 4 from rfl]
          go_wp2
          go_loopw [14, 15] (fun n i wr => ∃ (k : Nat) (d : Dk) (S : Nat → Prop), k ≤ more.length ∧ i = .int .i64 k ∧ n = .int .i64 d.wait.length ∧ d.wait.length ≤ k ∧ TW w D V d (d.restTo keep d.wait.length) S wr) (fun _ i _ => more.length - (intOf i).toNat)
          case atStart => exact ⟨0, d2, S, by omega, rfl, by rw [LW.out]; rfl, by rw [LW.out]; omega, TB.out⟩
          case round =>
            clear TB LW
            obtain ⟨k, d, S, hk, rfl, rfl, hwk, tw⟩ := hrel
            have TT := Lib.hid tw
            obtain ⟨N, hN⟩ : ∃ N, d.wait.length = N := ⟨_, rfl⟩
            rw [hN] at hwk TT ⊢
            have HNN := Lib.hid hN
            have HWK := Lib.hid hwk
            clear tw hN
            by_cases hlt : k < more.length
            · have AT := (HR2.out.below TT.out.td.below) k hlt
              obtain ⟨X, hX⟩ : ∃ X, more[k] = X := ⟨_, rfl⟩
              rw [hX] at AT
              obtain ⟨ok, b, o, rfl, hbl, hrg⟩ := AT
              go_upto_region 24 with fail
              refine region_tail2 11 (by kernel_rfl) (by kernel_rfl) ?_
              intro wd hwd hwh
              have ac := act_cells hrg
              have m1 := (hwd.cell (p := ⟨b, o + k * 19 + 1, none⟩) hbl).trans ac.1.2.1
              have m3 := (hwd.cell (p := ⟨b, o + k * 19 + 3, none⟩) hbl).trans ac.1.2.2.2.1
              have T5 := Lib.hid (TT.out.over hwd)
              have hki : (k : Int) < (more.length : Int) := by omega
              have hk0 : (0 : Int) ≤ (k : Int) := by omega
              clear ac hrg hbl hwd hwh ok TT
              simp only [List.take_succ_cons, List.take_zero, List.drop_succ_cons, List.drop_zero]
              repeat still_step
              refine wpStill_nil ?_
              go_wp2_with fail
              refine (dwrite_any S _ D 4 d X.a X.s T5.out.td.at' T5.out.td.ok (by have := HWK.out; rw [HNN.out]; omega)).mono ?_
              rintro e w6 ⟨rfl, dk, kp⟩
              have T6 := Lib.hid (T5.out.next dk (Dk.write_ok T5.out.td.ok _ _) (T5.out.td.live.write_live _ _ _) kp)
              have WR := Lib.hid (T5.out.td.live.write 4 X.a X.s)
              clear dk kp m1 m3
              by_cases hbad : X.a < 0 ∨ (4 : Int) ≤ X.a ∨ 64 < X.s.size
              · rw [show d.writeF 4 X.a X.s = 1 from WR.out.2.trans (if_pos hbad), show errV 1 = .iface 138 (.int .i64 1) from rfl]
                rw [show d.write 4 X.a X.s = d from WR.out.1.trans (if_pos hbad)] at T6
                clear hbad WR
                go_wp2
                go_roundw
                case rel => exact ⟨k + 1, d, _, by omega, by go_num, by rw [HNN.out], by have := HWK.out; rw [HNN.out]; omega, by rw [HNN.out]; exact T6.out⟩
                case measure => simp [intOf]; omega
              · rw [show d.writeF 4 X.a X.s = 0 from WR.out.2.trans (if_neg hbad), errV_nil]
                obtain ⟨p, hp⟩ : ∃ p : Nat, X.a = p := ⟨X.a.toNat, by omega⟩
                rw [hp] at T6
                have RW := Lib.hid (Dk.restTo_write keep T5.out.td.live (n := 4) (p := p) (s := X.s) (by omega) (by omega))
                have HP := Lib.hid (show p < 4 by omega)
                have RD := Lib.hid (T6.out.td.live.read (n := 4) HP.out)
                have NOW := Lib.hid (show (d.write 4 p X.s).now.getD p ⟨#[]⟩ = fullB X.s from by
                  rw [(T5.out.td.live.write 4 p X.s).1, if_neg (by omega)]
                  have : p < d.now.length := by rw [T5.out.td.ok.nl]; omega
                  show (d.now.set (p : Int).toNat (fullB X.s)).getD p ⟨#[]⟩ = _
                  simp [List.getD, this])
                obtain ⟨d', hd'⟩ : ∃ d', d.write 4 p X.s = d' := ⟨_, rfl⟩
                rw [hd'] at T6 RW RD NOW
                rw [HNN.out] at RW
                have AT := (HR2.out.below T6.out.td.below) k hlt
                rw [hX] at AT
                obtain ⟨-, b', o', e2, -, hrg⟩ := AT
                obtain ⟨rfl, rfl⟩ : b = b' ∧ o = o' := by simpa using e2
                have m1 := (act_cells hrg).1.2.1
                rw [hp] at m1 ⊢
                obtain ⟨B, hB⟩ : ∃ B, (bits BinOp.and IntKind.u64 (keep / 2 ^ N) 1 == 1) = B := ⟨_, rfl⟩
                have HB := Lib.hid (show bitK keep N = B from by unfold bitK; rw [Nat.mod_eq_of_lt (by have := HWK.out; omega)]; exact hB)
                rw [HB.out] at RW
                have hN64 : (N : Int) < 64 := by have := HWK.out; omega
                have hN60 : N ≤ 60 := by have := HWK.out; omega
                clear hrg e2 hp hbad WR hX hd'
                cases B
                · have RW2 := Lib.hid (show d'.wait.length = N + 1 ∧ d'.restTo keep (N + 1) = d.restTo keep N from RW.out)
                  clear RW
                  go_wp2
                  go_roundw
                  case rel => exact ⟨k + 1, d', _, by omega, by go_num, by rw [RW2.out.1]; go_num, by have := HWK.out; rw [RW2.out.1]; omega, by rw [RW2.out.1, RW2.out.2]; exact T6.out⟩
                  case measure => simp [intOf]; omega
                · have RW2 := Lib.hid (show d'.wait.length = N + 1 ∧ d'.restTo keep (N + 1) = (d.restTo keep N).set p (fullB X.s) from RW.out)
                  clear RW
                  go_wp2_with fail
                  refine (dread_any _ _ D 4 d' p T6.out.td.at' T6.out.td.ok).mono ?_
                  rintro e w7 ⟨rfl, rfl⟩
                  rw [RD.out.1, RD.out.2, NOW.out, errV_nil]
                  obtain ⟨v0, v1⟩ := T6.out.cell (i := p) (by rw [T6.out.l4]; exact HP.out)
                  have T7 := Lib.hid (T6.out.set p (fullB X.s))
                  have hp4 : (p : Int) < 4 := by have := HP.out; omega
                  have hp0 : (0 : Int) ≤ (p : Int) := by omega
                  clear RD NOW
                  go_wp2
                  go_roundw
                  case rel => exact ⟨k + 1, d', _, by omega, by go_num, by rw [RW2.out.1]; go_num, by have := HWK.out; rw [RW2.out.1]; omega, by rw [RW2.out.1, RW2.out.2]; exact T7.out⟩
                  case measure => simp [intOf]; omega
            · obtain rfl : k = more.length := by omega
              clear hlt hk
              go_wp2_with fail
              refine (drestart_any S _ D 4 d keep TT.out.td.at' TT.out.td.ok (by have := HWK.out; rw [HNN.out]; omega)).mono ?_
              rintro e w8 ⟨rfl, dk, kp⟩
              have T8 := Lib.hid (TT.out.same dk (Dk.restart_ok TT.out.td.ok keep) ⟨rfl, rfl⟩ kp)
              obtain ⟨wl, hwl⟩ : ∃ wl, d.restTo keep N = wl := ⟨_, rfl⟩
              have RN := Lib.hid (show (d.restart keep).now = wl from by rw [← hwl, ← HNN.out]; rfl)
              obtain ⟨d9, hd9⟩ : ∃ d9, d.restart keep = d9 := ⟨_, rfl⟩
              rw [hwl, hd9] at T8
              rw [hd9] at RN
              clear hwl hd9 dk kp TT HNN HWK
              go_wp2
              go_loopw [18, 133] (fun v _ wr => ∃ k : Nat, k ≤ 4 ∧ v = .int .i64 k ∧ TW w D V d9 wl S wr) (fun v _ _ => 4 - (intOf v).toNat)
              case atStart => exact ⟨0, by omega, rfl, T8.out⟩
              case round =>
                obtain ⟨k, hk, rfl, tw⟩ := hrel
                have TT := Lib.hid tw
                clear tw T8
                by_cases hlt : k < 4
                · have RS := Lib.hid (TT.out.td.live.read (n := 4) hlt)
                  have hkl : k < wl.length := by rw [TT.out.l4]; exact hlt
                  obtain ⟨Z, hZ⟩ : ∃ Z, wl[k] = Z := ⟨_, rfl⟩
                  have HZ := Lib.hid (show d9.now.getD k ⟨#[]⟩ = Z from by rw [RN.out, ← hZ]; simp [List.getD, hkl])
                  obtain ⟨v0, -⟩ := TT.out.cell (i := k) hkl
                  rw [hZ] at v0
                  go_wp2_with fail
                  refine (dread_any S _ D 4 d9 k TT.out.td.at' TT.out.td.ok).mono ?_
                  rintro e w6 ⟨rfl, rfl⟩
                  rw [RS.out.1, RS.out.2, HZ.out, errV_nil]
                  have hk4 : (k : Int) < 4 := by omega
                  have hk0 : (0 : Int) ≤ (k : Int) := by omega
                  clear hZ RS HZ
                  go_wp2
                  go_roundw
                  case rel => exact ⟨k + 1, by omega, by go_num, TT.out⟩
                  case measure => simp [intOf]; omega
                · go_wp2
                  go_ret
                  exact ⟨rfl, TT.out.td.below⟩
end Go.Proofs.Ytclhmpknkinjcaa
