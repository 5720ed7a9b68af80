/-
  DiskSays: the walk.
-/
import Derived.Test.YtclhmpknkinjcaaSpins
import Derived.Test.YtclhmpknkinjcaaRDiskN
import Derived.Test.YtclhmpknkinjcaaLightActs
import Derived.Test.YtclhmpknkinjcaaGp
import Derived.Test.YtclhmpknkinjcaaMerge
import Derived.Deep.CutBlock
import Derived.Deep.DeepCutAuto
import Derived.BigQuiet
namespace Go.Proofs.Ytclhmpknkinjcaa
open Go.RowKit Go.Sort

/-! ### plain -/
theorem Dk.write_wait {n : Nat} {d : Dk} (p : Int) (s : ByteArray) : (d.write n p s).wait.length ≤ d.wait.length + 1 := by
  unfold Dk.write
  split
  · omega
  · split
    · simp
    · rw [(Dk.step_lists d).2.2]; omega
theorem Dk.flush_wait (d : Dk) : d.flush.wait.length ≤ d.wait.length := by
  unfold Dk.flush
  split
  · simp
  · rw [(Dk.step_lists d).2.2]; omega
theorem Dk.flush_ok2 {n : Nat} {d : Dk} (h : d.ok n) : d.flush.ok n := by
  have k := Dk.step_ok h
  unfold Dk.flush
  split
  · exact ⟨k.n40, h.nl, k.nl, (fun _ hr => by cases hr), k.fu, k.fm⟩
  · exact k
theorem Dk.arm_ok {n : Nat} {d : Dk} (h : d.ok n) {p : Int} (hp : p ≤ 9223372036854775807) : Dk.ok n { d with fuse := max p (-1) } :=
  ⟨h.n40, h.kl, h.nl, h.wl, by show -1 ≤ max p (-1); omega, by show max p (-1) ≤ _; omega⟩

theorem dact_row : Try.prog.underlying 51 = some (.struct (Try.prog.fieldsOf 51)) ∧ (Try.prog.info? 51).map (·.size) = some 19 := by constructor <;> kernel_rfl
theorem dact_one (x : Ac) : x.cells.toArray.all (·.oneCell') = true := by
  apply all_oneCell_toArray
  intro v hv
  simp only [Ac.cells, List.mem_cons, List.mem_nil_iff, or_false] at hv
  rcases hv with rfl | rfl | rfl | rfl | rfl | rfl | rfl | rfl | rfl | rfl | rfl | rfl | rfl | rfl | rfl | rfl | rfl | rfl | rfl <;> rfl
def dactZ : Array Value := #[.string ⟨#[]⟩, .int .i64 0, .int .i64 0, .string ⟨#[]⟩, .int .u64 0, .int .i64 0, .slice none 0 0, .int .i64 0, .int .i64 0, .bool false, .int .i64 0, .int .i64 0, .int .i64 0, .int .i64 0, .int .i64 0, .int .i64 0, .bool false, .string ⟨#[]⟩, .string ⟨#[]⟩]
/-! ### two disks in memory -/
structure D2 (w : World) (D E n : Nat) (d e : Dk) (S R : Nat → Prop) (wx : World) : Prop where
  a : DkAt S wx 144 148 D n d
  b : DkAt R wx 95 150 E n e
  below : Below w.heap.size w wx
  ls : ∀ k, S k → w.heap.size ≤ k ∧ k < wx.heap.size
  lr : ∀ k, R k → w.heap.size ≤ k ∧ k < wx.heap.size
  ap : ∀ k, S k → ¬ R k
section
variable {w wx w' : World} {D E n : Nat} {d d' e e' : Dk} {S R : Nat → Prop}
theorem D2.over (f : D2 w D E n d e S R wx) (b : Below wx.heap.size wx w') : D2 w D E n d e S R w' :=
  ⟨f.a.below b, f.b.below b, f.below.trans (b.mono f.below.size), fun k hk => ⟨(f.ls k hk).1, Nat.lt_of_lt_of_le (f.ls k hk).2 b.size⟩, fun k hk => ⟨(f.lr k hk).1, Nat.lt_of_lt_of_le (f.lr k hk).2 b.size⟩, f.ap⟩
theorem D2.next1 (f : D2 w D E n d e S R wx) (h : DkAt (grow S wx w') w' 144 148 D n d') (k : Keeps S wx w') : D2 w D E n d' e (grow S wx w') R w' :=
  ⟨h, f.b.keeps k (fun b hb hs => f.ap b hs hb), f.below.trans (k.below f.below.size (fun b hb => (f.ls b hb).1)),
   fun b hb => by
    rcases hb with hb | hb
    · exact ⟨(f.ls b hb).1, Nat.lt_of_lt_of_le (f.ls b hb).2 k.size⟩
    · exact ⟨Nat.le_trans f.below.size hb.1, hb.2⟩,
   fun b hb => ⟨(f.lr b hb).1, Nat.lt_of_lt_of_le (f.lr b hb).2 k.size⟩,
   fun b hb hr => by
    rcases hb with hb | hb
    · exact f.ap b hb hr
    · have := (f.lr b hr).2; omega⟩
theorem D2.next2 (f : D2 w D E n d e S R wx) (h : DkAt (grow R wx w') w' 95 150 E n e') (k : Keeps R wx w') : D2 w D E n d e' S (grow R wx w') w' :=
  ⟨f.a.keeps k f.ap, h, f.below.trans (k.below f.below.size (fun b hb => (f.lr b hb).1)),
   fun b hb => ⟨(f.ls b hb).1, Nat.lt_of_lt_of_le (f.ls b hb).2 k.size⟩,
   fun b hb => by
    rcases hb with hb | hb
    · exact ⟨(f.lr b hb).1, Nat.lt_of_lt_of_le (f.lr b hb).2 k.size⟩
    · exact ⟨Nat.le_trans f.below.size hb.1, hb.2⟩,
   fun b hb hr => by
    rcases hr with hr | hr
    · exact f.ap b hb hr
    · have := (f.ls b hb).2; omega⟩
theorem DkAt.grows {T Tt : TypeId} (h : DkAt S w' T Tt D n d) : DkAt (grow S wx w') w' T Tt D n d := h.mono (fun _ hk => .inl hk)
end
/-- the two disks alike, an act in a block of its own -/
structure D3 (w : World) (D E V n : Nat) (x : Ac) (d e : Dk) (S R : Nat → Prop) (wx : World) : Prop where
  t : D2 w D E n d e S R wx
  hV : wx.heap[V]? = some (.cells x.cells.toArray 51 (0, 0))
  ns : ¬ S V
  nr : ¬ R V
section
variable {w wx w' : World} {D E V n : Nat} {x : Ac} {d d' e e' : Dk} {S R : Nat → Prop}
theorem D3.lt (f : D3 w D E V n x d e S R wx) : V < wx.heap.size := (Array.getElem?_eq_some_iff.1 f.hV).1
theorem D3.over (f : D3 w D E V n x d e S R wx) (b : Below wx.heap.size wx w') : D3 w D E V n x d e S R w' := ⟨f.t.over b, (b.block V f.lt).trans f.hV, f.ns, f.nr⟩
theorem D3.next1 (f : D3 w D E V n x d e S R wx) (h : DkAt (grow S wx w') w' 144 148 D n d') (k : Keeps S wx w') : D3 w D E V n x d' e (grow S wx w') R w' :=
  ⟨f.t.next1 h k, (k.block V f.ns f.lt).trans f.hV, fun hb => by rcases hb with hb | hb; exact f.ns hb; have := f.lt; omega, f.nr⟩
theorem D3.next2 (f : D3 w D E V n x d e S R wx) (h : DkAt (grow R wx w') w' 95 150 E n e') (k : Keeps R wx w') : D3 w D E V n x d e' S (grow R wx w') w' :=
  ⟨f.t.next2 h k, (k.block V f.nr f.lt).trans f.hV, f.ns, fun hb => by rcases hb with hb | hb; exact f.nr hb; have := f.lt; omega⟩
theorem D3.act (f : D3 w D E V n x d e S R wx) : wx.cell? ⟨V, 0, none⟩ = some (.string x.kind) ∧ wx.cell? ⟨V, 1, none⟩ = some (.int .i64 x.a) ∧ wx.cell? ⟨V, 3, none⟩ = some (.string x.s) ∧ wx.cell? ⟨V, 4, none⟩ = some (.int .u64 x.k) := by
  have := act_cells (o := 0) (range_of f.hV)
  simp only [Nat.zero_add] at this
  exact ⟨this.1.1, this.1.2.1, this.1.2.2.2.1, this.1.2.2.2.2⟩
end

theorem same_yes (f : Int) (w : World) (hf : 0 ≤ f) : Calls Try.prog 42 #[errV f, .int .i64 f] w fun e w' => e = .returned (.bool true) ∧ Below w.heap.size w w' :=
  (same_any f f w hf hf).mono fun _ _ ⟨h1, h2⟩ => ⟨h1.trans (by simp), h2⟩
theorem writeF_nn (n : Nat) (d : Dk) (p : Int) (s : ByteArray) : 0 ≤ d.writeF n p s := by unfold Dk.writeF; split; omega; split <;> omega
theorem readF_nn (n : Nat) (d : Dk) (p : Int) : 0 ≤ d.readF n p := by unfold Dk.readF; split; omega; split <;> omega

set_option maxRecDepth 100000 in
set_option maxHeartbeats 4000000 in
theorem disksays_walk (sectors : Int) (l : List Ac) (a : Option Addr) (cap : Nat) (w : World) (hl : l.length ≤ maxLen) (hr : ActsAt w a l) :
    Calls Try.prog 5 #[.int .i64 sectors, .slice a l.length cap] w fun e w' => e = .returned (.bool true) ∧ Below w.heap.size w w' := by
  have HR := Lib.hid hr
  clear hr
  go_enter Try.func5, Try.ntmps5
  go_wp2_with fail
  refine (spins_any _).mono ?_
  rintro e w1 ⟨rfl, b1⟩
  have B1 := Lib.hid b1
  clear b1
  go_wp2_with fail
  refine (lightacts_any l a cap 80 _ hl (HR.out.below B1.out)).mono ?_
  rintro e w2 ⟨L, rfl, hL, b2⟩
  have B2 := Lib.hid (B1.out.trans (b2.mono B1.out.size))
  have HL := Lib.hid hL
  clear b2 B1 hL
  cases L
  · go_wp2
    go_ret
    exact ⟨rfl, B2.out⟩
  have hl80 : l.length ≤ 80 := (HL.out rfl).1
  clear HL
  by_cases hn : sectors < 1 ∨ 40 < sectors
  · have NB := Lib.hid (fun w => dnew_bad sectors w hn)
    have RB := Lib.hid (fun w => rnew_bad sectors w hn)
    clear hn
    go_wp2_with fail
    refine (NB.out _).mono ?_
    rintro e w3 ⟨rfl, rfl⟩
    go_wp2_with fail
    refine (RB.out _).mono ?_
    rintro e w4 ⟨rfl, rfl⟩
    go_wp2_with fail
    refine (same_any 1 1 _ (by omega) (by omega)).mono ?_
    rintro e w5 ⟨rfl, b5⟩
    rw [decide_eq_true (show (1 : Int) = 1 from rfl)]
    have B5 := Lib.hid (B2.out.trans (b5.mono B2.out.size))
    clear b5 B2
    go_wp2
    go_ret
    exact ⟨rfl, B5.out⟩
  obtain ⟨n, rfl⟩ : ∃ n : Nat, sectors = n := ⟨sectors.toNat, by omega⟩
  have HN := Lib.hid (show 1 ≤ n ∧ n ≤ 40 by omega)
  clear hn
  go_wp2_with fail
  refine (dnew_any n _ HN.out).mono ?_
  rintro e w3 ⟨D, rfl, dk, b3⟩
  have A3 := Lib.hid dk
  have B3 := Lib.hid b3
  clear dk b3
  go_wp2_with fail
  refine (rnew_any n _ HN.out).mono ?_
  rintro e w4 ⟨E, rfl, dk, b4⟩
  have T4 := Lib.hid (show D2 w D E n (Dk.new n) (Dk.new n) (made w2 w3) (made w3 w4) w4 from
    ⟨A3.out.below b4, dk, (B2.out.trans (B3.out.mono B2.out.size)).trans (b4.mono (Nat.le_trans B2.out.size B3.out.size)), fun k hk => ⟨Nat.le_trans B2.out.size hk.1, Nat.lt_of_lt_of_le hk.2 b4.size⟩, fun k hk => ⟨Nat.le_trans (Nat.le_trans B2.out.size B3.out.size) hk.1, hk.2⟩, fun k h1 h2 => by have := h1.2; have := h2.1; omega⟩)
  clear dk b4 A3 B3 B2
  go_wp2_with fail
  refine (dsectors_any _ _ D n _ T4.out.a).mono ?_
  rintro e w5 ⟨rfl, rfl⟩
  go_wp2
  go_loopw [10, 62] (fun i _ wr => ∃ (k : Nat) (d : Dk) (S R : Nat → Prop), k ≤ l.length ∧ i = .int .i64 k ∧ d.wait.length ≤ k ∧ d.ok n ∧ D2 w D E n d d S R wr) (fun i _ _ => l.length - (intOf i).toNat)
  case atStart => exact ⟨0, _, _, _, by omega, rfl, Nat.le_refl _, Dk.new_ok HN.out.2, T4.out⟩
  case round =>
    obtain ⟨k, d, S, R, hk, rfl, hwk, dok, t2⟩ := hrel
    have TT := Lib.hid t2
    have HWK := Lib.hid hwk
    have OK := Lib.hid dok
    clear t2 hwk dok T4
    by_cases hlt : k < l.length
    · have AT := (HR.out.below TT.out.below) k hlt
      obtain ⟨X, hX⟩ : ∃ X, l[k] = X := ⟨_, rfl⟩
      rw [hX] at AT
      obtain ⟨ok, b, o, rfl, hbl, hrg⟩ := AT
      have XA := Lib.hid (show X.a ≤ 9223372036854775807 from ok.ai.2)
      have HRG := Lib.hid hrg
      have hki : (k : Int) < (l.length : Int) := by omega
      clear ok hX hrg
      go_upto_region 14 with (first | ((with_reducible refine ld_mid1 rfl 51 _ rfl ?_); refine ⟨b, o + k * 19, X.cells.toArray, _, rfl, HRG.out, dact_row.1, rfl, dact_row.2, ?_⟩) | ((with_reducible refine st_row1 rfl 51 _ _ rfl ?_); refine ⟨wr.heap.size, _, X.cells.toArray, _, rfl, rfl, heap_alloc_new wr _, dact_row.2, rfl, dact_one X, ?_⟩))
      obtain ⟨w4, hw4⟩ : ∃ w4, w4 = (wr.alloc (.cells dactZ 51)).setRow wr.heap.size X.cells.toArray := ⟨_, rfl⟩
      have hw4' := hw4
      unfold dactZ at hw4
      rw [← hw4]
      clear hw4
      have T4 := Lib.hid (show D3 w D E wr.heap.size n X d d S R w4 from ⟨hw4' ▸ TT.out.over (bel_row wr _ _ _), hw4' ▸ setRow_heap _ _ _ _ _ _ (heap_alloc_new wr _), fun h => by have := (TT.out.ls _ h).2; omega, fun h => by have := (TT.out.lr _ h).2; omega⟩)
      clear hw4'
      obtain ⟨V, hV⟩ : ∃ V, wr.heap.size = V := ⟨_, rfl⟩
      rw [hV] at T4
      rw [hV]
      clear hV TT HRG
      obtain ⟨v0, v1, v3, v4⟩ := T4.out.act
      go_upto_block 2 with fail
      go_cut [12] (fun v wx => v = .bool true ∧ ∃ (d' : Dk) (S' R' : Nat → Prop), d'.wait.length ≤ k + 1 ∧ d'.ok n ∧ D2 w D E n d' d' S' R' wx)
      case first =>
        obtain ⟨B1, hB1⟩ : ∃ B, (X.kind.toList == [119, 114, 105, 116, 101]) = B := ⟨_, rfl⟩
        cases B1
        · obtain ⟨B2, hB2⟩ : ∃ B, (X.kind.toList == [114, 101, 97, 100]) = B := ⟨_, rfl⟩
          cases B2
          · obtain ⟨B3, hB3⟩ : ∃ B, (X.kind.toList == [102, 108, 117, 115, 104]) = B := ⟨_, rfl⟩
            cases B3
            · obtain ⟨B4, hB4⟩ : ∃ B, (X.kind.toList == [97, 114, 109]) = B := ⟨_, rfl⟩
              cases B4
              · go_wp2_with fail
                refine (drestart_any S _ D n d X.k T4.out.t.a OK.out (by have := HWK.out; omega)).mono ?_
                rintro e w5 ⟨rfl, dk, kp⟩
                have T5 := Lib.hid (T4.out.next1 dk.grows kp)
                obtain ⟨u0, u1, u3, u4'⟩ := T5.out.act
                clear dk kp T4 v0 v1 v3 v4
                go_wp2_with fail
                refine (rrestart_any R _ E n d X.k T5.out.t.b OK.out HN.out.1 (by have := HWK.out; omega)).mono ?_
                rintro e w6 ⟨rfl, dk, kp⟩
                have T6 := Lib.hid (T5.out.next2 dk kp)
                clear dk kp T5 u0 u1 u3 u4'
                go_wp2
                go_meet
                exact ⟨rfl, d.restart X.k, _, _, (by show 0 ≤ k + 1; omega), Dk.restart_ok OK.out _, T6.out.t⟩
              · go_wp2_with fail
                refine (darm_any S _ D n d X.a T4.out.t.a).mono ?_
                rintro e w5 ⟨rfl, dk, kp⟩
                have T5 := Lib.hid (T4.out.next1 dk.grows kp)
                obtain ⟨u0, u1, u3, u4'⟩ := T5.out.act
                clear dk kp T4 v0 v1 v3 v4
                obtain ⟨K, N, ck, cn, wv, r, s1, s2, s3, s4⟩ := T5.out.t.b
                obtain ⟨⟨-, -, -, c3, -⟩, -, -, -, f3, -⟩ := r.cells
                have R6 := Lib.hid (T5.out.next2 (e' := { d with fuse := max X.a (-1) }) (w' := w5.setCell ⟨E, 3, none⟩ (.int .i64 (max X.a (-1)))) (DkAt.grows ⟨K, N, ck, cn, wv, r.setF (max X.a (-1)), s1, s2, s3, s4⟩) ((Keeps.refl R w5).setCell (p := ⟨E, 3, none⟩) s1 _))
                clear r s1 s2 s3 s4
                go_wp2
                go_meet
                exact ⟨rfl, { d with fuse := max X.a (-1) }, _, _, (by have := HWK.out; show d.wait.length ≤ k + 1; omega), Dk.arm_ok OK.out XA.out, R6.out.t⟩
            · obtain ⟨F, hF⟩ : ∃ F : Int, (if d.steps then (0 : Int) else 10) = F := ⟨_, rfl⟩
              have HF := Lib.hid (show 0 ≤ F from by rw [← hF]; split <;> omega)
              have FL := dflush_any S w4 D n d T4.out.t.a OK.out
              have FR := Lib.hid (fun w h => rflush_any R w E n d h OK.out HN.out.1)
              rw [hF] at FL FR
              have FL1 := Lib.hid FL
              clear hF FL
              go_wp2_with fail
              refine FL1.out.mono ?_
              rintro e w5 ⟨rfl, dk, kp⟩
              have T5 := Lib.hid (T4.out.next1 dk.grows kp)
              clear dk kp T4 v0 v1 v3 v4 FL1
              go_wp2_with fail
              refine (FR.out _ T5.out.t.b).mono ?_
              rintro e w6 ⟨rfl, dk, kp⟩
              have T6 := Lib.hid (T5.out.next2 dk kp)
              clear dk kp T5 FR
              go_wp2_with fail
              refine (same_yes F _ HF.out).mono ?_
              rintro e w7 ⟨rfl, b7⟩
              have T7 := Lib.hid (T6.out.over b7)
              clear b7 T6
              go_wp2
              go_meet
              exact ⟨rfl, d.flush, _, _, (by have := Dk.flush_wait d; have := HWK.out; omega), Dk.flush_ok2 OK.out, T7.out.t⟩
          · go_wp2_with fail
            refine (dread_any S _ D n d X.a T4.out.t.a OK.out).mono ?_
            rintro e w5 ⟨rfl, rfl⟩
            obtain ⟨RS, hRS⟩ : ∃ RS, d.readS n X.a = RS := ⟨_, rfl⟩
            obtain ⟨F, hF⟩ : ∃ F, d.readF n X.a = F := ⟨_, rfl⟩
            have RR := Lib.hid (show ∀ w, DkAt R w 95 150 E n d → Calls Try.prog 47 #[.pointer (some ⟨E, 0, none⟩), .int .i64 X.a] w fun e w' => e = .returned (.tuple #[.string RS, .int .i64 F]) ∧ w' = w from fun w h => by
              rw [← hRS, ← hF]; exact rread_any R w E n d X.a h OK.out)
            have HF := Lib.hid (show 0 ≤ F from hF ▸ readF_nn n d X.a)
            rw [hRS, hF]
            clear hRS hF
            go_wp2_with fail
            refine (RR.out _ T4.out.t.b).mono ?_
            rintro e w6 ⟨rfl, rfl⟩
            go_wp2_with fail
            refine (same_yes F _ HF.out).mono ?_
            rintro e w7 ⟨rfl, b7⟩
            have T7 := Lib.hid (T4.out.over b7)
            clear b7 T4 v0 v1 v3 v4
            go_wp2
            go_meet
            exact ⟨rfl, d, _, _, (by have := HWK.out; omega), OK.out, T7.out.t⟩
        · go_upto_region 19 with fail
          have WD := Lib.hid (T4.out.over ((Below.refl _ w4).drew))
          have CL := Lib.hid (show ∀ (w' : World) (d e : Dk) (S R : Nat → Prop), D3 w D E V n X d e S R w' → w'.cell? ⟨V, 1, none⟩ = some (.int .i64 X.a) ∧ w'.cell? ⟨V, 3, none⟩ = some (.string X.s) from fun w' d e S R f => ⟨f.act.2.1, f.act.2.2.1⟩)
          have HFN := Lib.hid (writeF_nn n d X.a X.s)
          have H1000 := Lib.hid (show d.wait.length ≤ 1000 from by have := HWK.out; omega)
          go_region_held3 (fun w' => w'.cell? ⟨V, 1, none⟩ = some (.int .i64 X.a) ∧ w'.cell? ⟨V, 3, none⟩ = some (.string X.s))
            (first | exact CL.out _ _ _ _ _ T7.out | exact CL.out _ _ _ _ _ T6.out | exact CL.out _ _ _ _ _ T5.out | exact CL.out _ _ _ _ _ WD.out)
            (first
              | ((with_reducible refine (dwrite_any S _ D n d X.a X.s WD.out.t.a OK.out H1000.out).mono ?_); rintro e w5 ⟨rfl, dk, kp⟩; have T5 := Lib.hid (WD.out.next1 dk kp); clear dk kp)
              | ((with_reducible refine (rwrite_any R _ E n d X.a X.s T5.out.t.b OK.out H1000.out).mono ?_); rintro e w6 ⟨rfl, dk, kp⟩; have T6 := Lib.hid (T5.out.next2 dk kp); clear dk kp)
              | ((with_reducible refine (same_yes (d.writeF n X.a X.s) _ HFN.out).mono ?_); rintro e w7 ⟨rfl, b7⟩; have T7 := Lib.hid (T6.out.over b7); clear b7))
          clear v0 v1 v3 v4
          go_wp2
          go_meet
          exact ⟨rfl, d.write n X.a X.s, _, _, (by have := Dk.write_wait (n := n) (d := d) X.a X.s; have := HWK.out; omega), Dk.write_ok OK.out _ _, T7.out.t⟩
      case rest =>
        obtain ⟨rfl, d', S', R', hw', ok', t2⟩ := hcut
        obtain ⟨w8, rfl⟩ : ∃ w8 : World, w8 = wc := ⟨_, rfl⟩
        have T8 := Lib.hid t2
        have OK8 := Lib.hid ok'
        have HW8 := Lib.hid hw'
        obtain ⟨K, N, ck, cn, wv, r, -⟩ := t2.b
        obtain ⟨⟨-, -, -, -, c4⟩, -⟩ := r.cells
        have hE : E < w8.heap.size := r.lt
        have hq := bregrown (Below.refl w8.heap.size w8)
        have DQ := Lib.hid (fun dd os => T8.out.a.below (below_regrown w8 dd os))
        clear r t2 ok' hw' T4 v0 v1 v3 v4
        obtain ⟨DN, hDN⟩ : ∃ DN, d'.down = DN := ⟨_, rfl⟩
        rw [hDN] at c4
        have HDN := Lib.hid hDN
        clear hDN
        go_upto_region 29 with fail
        go_cut [150] (fun v wx => v = .bool false ∧ Below w8.heap.size w8 wx)
        case first =>
          refine wp_region_quiet_below (by kernel_rfl) (by kernel_rfl) ?_
          repeat (go_big_quiet_step (exact Calls.regrown_of ((ddown_any S' _ D n d' (DQ.out _ _)).mono (fun _ _ h => ⟨h.1.trans (by rw [HDN.out]), h.2 ▸ Below.refl _ _⟩))))
          refine wpQuiet_nil ?_
          rintro w' ⟨⟨dq, osq⟩, rfl⟩
          go_wp2_with fail
          go_meet
          exact ⟨by simp, below_regrown _ dq osq⟩
        case rest =>
          obtain ⟨rfl, b9⟩ := hcut
          have T9 := Lib.hid (T8.out.over b9)
          clear b9 T8 hq DQ c4 hE
          go_wp2
          go_roundw
          case rel => exact ⟨k + 1, d', S', R', by omega, by go_num, HW8.out, OK8.out, T9.out⟩
          case measure => simp [intOf]; omega
    · obtain rfl : k = l.length := by omega
      clear hlt hk
      obtain ⟨wq, rfl⟩ : ∃ wq : World, wq = wr := ⟨_, rfl⟩
      have hn40 : n ≤ 40 := HN.out.2
      go_wp2
      go_loopw [17, 151] (fun v _ wr => ∃ i : Nat, i ≤ n + 2 ∧ v = .int .i64 ((i : Int) - 1) ∧ D2 w D E n d d S R wr) (fun v _ _ => ((n : Int) + 1 - intOf v).toNat)
      case atStart => exact ⟨0, by omega, rfl, TT.out⟩
      case round =>
        obtain ⟨i, hi, rfl, t2⟩ := hrel
        have T1 := Lib.hid t2
        clear t2 TT
        obtain ⟨p, hp⟩ : ∃ p : Int, (i : Int) - 1 = p := ⟨_, rfl⟩
        rw [hp]
        by_cases hlt : p ≤ (n : Int)
        · obtain ⟨RS, hRS⟩ : ∃ RS, d.readS n p = RS := ⟨_, rfl⟩
          obtain ⟨F, hF⟩ : ∃ F, d.readF n p = F := ⟨_, rfl⟩
          have R1 := Lib.hid (show ∀ w, DkAt S w 144 148 D n d → Calls Try.prog 46 #[.pointer (some ⟨D, 0, none⟩), .int .i64 p] w fun e w' => e = .returned (.tuple #[.string RS, errV F]) ∧ w' = w from fun w h => by
            rw [← hRS, ← hF]; exact dread_any S w D n d p h OK.out)
          have R2 := Lib.hid (show ∀ w, DkAt R w 95 150 E n d → Calls Try.prog 47 #[.pointer (some ⟨E, 0, none⟩), .int .i64 p] w fun e w' => e = .returned (.tuple #[.string RS, .int .i64 F]) ∧ w' = w from fun w h => by
            rw [← hRS, ← hF]; exact rread_any R w E n d p h OK.out)
          have HF := Lib.hid (show 0 ≤ F from hF ▸ readF_nn n d p)
          have HP := Lib.hid hp
          have qp : IntKind.i64.wrap (p + 1) = p + 1 := IntWalk.i64_in _ (by omega)
          clear hRS hF hp
          go_wp2_with fail
          refine (R1.out _ T1.out.a).mono ?_
          rintro e w6 ⟨rfl, rfl⟩
          go_wp2_with fail
          refine (R2.out _ T1.out.b).mono ?_
          rintro e w7 ⟨rfl, rfl⟩
          go_wp2_with fail
          refine (same_yes F _ HF.out).mono ?_
          rintro e w8 ⟨rfl, b8⟩
          have T8 := Lib.hid (T1.out.over b8)
          clear b8 T1 R1 R2
          go_wp2
          go_roundw
          case rel => exact ⟨i + 1, by have := HP.out; omega, by have := HP.out; congr 1; omega, T8.out⟩
          case measure => simp [intOf]; omega
        · go_wp2
          go_ret
          exact ⟨rfl, T1.out.below⟩
end Go.Proofs.Ytclhmpknkinjcaa
