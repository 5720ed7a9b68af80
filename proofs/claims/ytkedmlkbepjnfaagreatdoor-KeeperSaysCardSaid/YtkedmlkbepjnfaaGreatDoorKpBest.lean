/-
  Contract: keeper.Open, whatever lies at the two places.
-/
import Derived.Test.YtkedmlkbepjnfaaGreatDoorKpOpen
namespace Go.Proofs.YtkedmlkbepjnfaaGreatDoor
open Go.RowKit

/-- what a look finds -/
structure Seen where
  m : Int
  e : Int
  s : St
def nothing : Seen := ⟨0, 0, sNone⟩
def Seen.kp (x : Seen) (d : Dk) : Kp := ⟨d, x.m, x.e, x.s⟩
def best (f : Nat → Seen) : Nat → Seen
  | 0 => nothing
  | k + 1 => if (best f k).m < (f k).m then f k else best f k
def OpenPost (S : Nat → Prop) (D n : Nat) (d : Dk) (z : Seen) (w : World) (e : Ending) (w' : World) : Prop :=
  (z.m = 0 → e = .returned (.tuple #[.pointer none, errV 3]) ∧ Below w.heap.size w w') ∧
  (z.m ≠ 0 → ∃ K a cap, e = .returned (.tuple #[.pointer (some ⟨K, 0, none⟩), .nilIface]) ∧ KpR S w' K D n a cap (z.kp d) ∧ w.heap.size ≤ K ∧ Below w.heap.size w w' ∧ ∀ b o, a = some ⟨b, o, none⟩ → w.heap.size ≤ b)

theorem sevens_below {w wx : World} {K : Nat} (h : Below w.heap.size w wx) (hK : w.heap.size ≤ K) (v1 v2 v3 v4 v5 v6 v7 : Value) : Below w.heap.size w (sevens wx K v1 v2 v3 v4 v5 v6 v7) :=
  ((((((h.setCell (p := ⟨K, 1, none⟩) hK v1).setCell (p := ⟨K, 2, none⟩) hK v2).setCell (p := ⟨K, 3, none⟩) hK v3).setCell (p := ⟨K, 4, none⟩) hK v4).setCell (p := ⟨K, 5, none⟩) hK v5).setCell (p := ⟨K, 6, none⟩) hK v6).setCell (p := ⟨K, 7, none⟩) hK v7
theorem KpR.drew {S : Nat → Prop} {w : World} {K D n : Nat} {a : Option Addr} {cap : Nat} {k : Kp} (h : KpR S w K D n a cap k) : KpR S w.drew K D n a cap k :=
  ⟨h.blk, h.dk.keeps (R := fun _ => False) (Keeps.refl _ _).drew (fun _ _ h => h), h.nk, h.lt, ⟨h.str.len, h.str.rep⟩, h.ap⟩
theorem KpR.put {S : Nat → Prop} {wx : World} {K D n : Nat} {a a' : Option Addr} {cap cap' : Nat} {k : Kp} {x : Seen} (h : KpR S wx K D n a cap k) (hr : StR wx x.s a') (hx : ∀ b o, a' = some ⟨b, o, none⟩ → ¬ S b ∧ b ≠ K) :
    KpR S (sevens wx K (.int .i64 x.m) (.int .i64 x.e) (.int .i64 x.s.gen) (.slice a' x.s.regs.length cap') (.int .i64 x.s.typ) (.int .i64 x.s.holder) (.bool x.s.stays)) K D n a' cap' (x.kp k.d) := by
  obtain ⟨w', hw'⟩ : ∃ w', w' = sevens wx K (.int .i64 x.m) (.int .i64 x.e) (.int .i64 x.s.gen) (.slice a' x.s.regs.length cap') (.int .i64 x.s.typ) (.int .i64 x.s.holder) (.bool x.s.stays) := ⟨_, rfl⟩
  have kk : Keeps (· = K) wx w' := hw' ▸ sevens_keeps _ _ _ _ _ _ _ _ _
  have hb := hw' ▸ sevens_at h.blk (.int .i64 x.m) (.int .i64 x.e) (.int .i64 x.s.gen) (.slice a' x.s.regs.length cap') (.int .i64 x.s.typ) (.int .i64 x.s.holder) (.bool x.s.stays)
  rw [← hw']
  exact ⟨hb, h.dk.keeps kk (fun b e q => h.nk (q ▸ e)), h.nk, fun b e => Nat.lt_of_lt_of_le (h.lt b e) kk.size, hr.keeps kk (fun b o e _ => (hx b o e).2), fun b o e _ => hx b o e⟩
theorem best_num {f : Nat → Seen} (h : ∀ k, 0 ≤ (f k).m) : ∀ k, 0 ≤ (best f k).m
  | 0 => by show (0 : Int) ≤ 0; omega
  | k + 1 => by
    unfold best
    split
    · exact h k
    · exact best_num h k

set_option maxRecDepth 100000 in
set_option maxHeartbeats 8000000 in
theorem open_best (S : Nat → Prop) (w : World) (D n : Nat) (d : Dk) (f : Nat → Seen) (h : DkAt S w 65 78 D n d) (lt : ∀ b, S b → b < w.heap.size) (ok : d.ok n) (up : d.down = false) (sz : Sz d) (n6 : 6 ≤ n) (hf : ∀ k, k < 2 → Lk d k (f k).m (f k).e (f k).s) (t : Tabs w) :
    Calls Tryz.prog 9 #[.pointer (some ⟨D, 0, none⟩)] w fun e w' => OpenPost S D n d (best f 2) w e w' := by
  have HH := Lib.hid h
  have LT := Lib.hid lt
  have TT := Lib.hid t
  have UP := Lib.hid up
  have LOOK := Lib.hid (fun (w : World) (h : DkAt S w 65 78 D n d) (t : Tabs w) k (hk : k < 2) => look_any S w D n d k (f k).m (f k).e (f k).s h ok up sz (by omega) (hf k hk) t)
  have DOWN := Lib.hid (fun (w : World) (h : DkAt S w 65 78 D n d) => ddown_any S w D n d h)
  have SEC := Lib.hid (fun (w : World) (h : DkAt S w 65 78 D n d) => dsectors_any S w D n d h)
  have BN := Lib.hid (fun k (hk : k < 2) => (hf k hk).num)
  have n40 := ok.n40
  clear h lt t sz hf up ok
  obtain ⟨Z, hZ2⟩ : ∃ Z, best f 2 = Z := ⟨_, rfl⟩
  rw [hZ2]
  have HZ2 := Lib.hid hZ2
  clear hZ2
  go_enter Tryz.func9, Tryz.ntmps9
  go_wp2_with fail
  refine (DOWN.out _ HH.out).mono ?_
  rintro e w0 ⟨rfl, rfl⟩
  rw [UP.out]
  go_wp2_with fail
  refine (SEC.out _ HH.out).mono ?_
  rintro e w0 ⟨rfl, rfl⟩
  have hn6 : ¬ (n : Int) < 6 := by omega
  have hK : w0.heap.size ≤ w0.heap.size := Nat.le_refl _
  have K0 := Lib.hid (show KpR S (w0.alloc (.cells #[.pointer (some ⟨D, 0, none⟩), .int .i64 0, .int .i64 0, .int .i64 0, .slice none 0 0, .int .i64 0, .int .i64 0, .bool false] 68)) w0.heap.size D n none 0 (nothing.kp d) from
    ⟨heap_alloc_new w0 _, HH.out.below (bal w0 _), fun e => by have := LT.out _ e; omega, fun b e => by have := LT.out b e; simp; omega, ⟨by simp [Seen.kp, nothing, sNone], Pairs.nil _ _ _⟩, fun b o e => by cases e⟩)
  go_wp2
  go_loopw [5, 6, 7, 8, 9, 20] (fun _ _ _ _ _ i wr => ∃ k : Nat, k ≤ 2 ∧ i = .int .i64 k ∧ ∃ a cap, KpR S wr w0.heap.size D n a cap ((best f k).kp d) ∧ Below w0.heap.size w0 wr ∧ ∀ b o, a = some ⟨b, o, none⟩ → w0.heap.size ≤ b) (fun _ _ _ _ _ i _ => 2 - (RowKit.intOf i).toNat)
  case atStart => exact ⟨0, by omega, rfl, none, 0, K0.out, bal w0 _, fun b o e => by cases e⟩
  case round =>
    obtain ⟨k, hk, rfl, a, cap, kr, hb, ha⟩ := hrel
    have HA := Lib.hid ha
    have KR := Lib.hid kr
    have HB := Lib.hid hb
    have kb := kr.blk
    have hKlt := (Array.getElem?_eq_some_iff.1 kr.blk).1
    clear kr hb K0 ha
    by_cases hlt : k < 2
    · have hk2 : (k : Int) < 2 := by omega
      have LK := Lib.hid (LOOK.out wr KR.out.dk (TT.out.on HB.out) k hlt)
      obtain ⟨x, hx⟩ : ∃ x, f k = x := ⟨_, rfl⟩
      obtain ⟨z, hz⟩ : ∃ z, best f k = z := ⟨_, rfl⟩
      have HX := Lib.hid hx
      have HZ := Lib.hid hz
      rw [hx] at LK
      rw [hz] at KR kb
      have STEP := Lib.hid (show best f (k + 1) = if z.m < x.m then x else z from by rw [← hx, ← hz]; rfl)
      clear hx hz LOOK
      go_wp2_with fail
      refine LK.out.mono ?_
      rintro e w3 ⟨a', cap', rfl, hs, b3, fr⟩
      obtain ⟨w4, hw4⟩ : ∃ w4, w4 = w3.alloc (.cells #[.int .i64 x.s.gen, .slice a' x.s.regs.length cap', .int .i64 x.s.typ, .int .i64 x.s.holder, .bool x.s.stays] 37) := ⟨_, rfl⟩
      have B4 := Lib.hid (show Below wr.heap.size wr w4 from hw4 ▸ b3.trans ((bal w3 _).mono b3.size))
      have K4 := Lib.hid (KR.out.below B4.out)
      have S4 := Lib.hid (show StR w4 x.s a' from hw4 ▸ hs.below (bal w3 _))
      have FR := Lib.hid (show ∀ b o, a' = some ⟨b, o, none⟩ → ¬ S b ∧ b ≠ w0.heap.size from fun b o e => by
        have := fr b o e
        exact ⟨fun h => by have := LT.out b h; omega, by omega⟩)
      have FR0 := Lib.hid (show ∀ b o, a' = some ⟨b, o, none⟩ → w0.heap.size ≤ b from fun b o e => Nat.le_trans HB.out.size (fr b o e))
      have N4 := Lib.hid (show w4.heap[w3.heap.size]? = some (.cells #[.int .i64 x.s.gen, .slice a' x.s.regs.length cap', .int .i64 x.s.typ, .int .i64 x.s.holder, .bool x.s.stays] 37 (0, 0)) from hw4 ▸ heap_alloc_new w3 _)
      have HS3 := Lib.hid b3.size
      have kb3 := (KR.out.below b3).blk
      obtain ⟨y1, y2, y3, y4, y5, y6, y7⟩ : w3.cell? ⟨w0.heap.size, 1, none⟩ = some (.int .i64 z.m) ∧ w3.cell? ⟨w0.heap.size, 2, none⟩ = some (.int .i64 z.e) ∧ w3.cell? ⟨w0.heap.size, 3, none⟩ = some (.int .i64 z.s.gen) ∧ w3.cell? ⟨w0.heap.size, 4, none⟩ = some (.slice a z.s.regs.length cap) ∧ w3.cell? ⟨w0.heap.size, 5, none⟩ = some (.int .i64 z.s.typ) ∧ w3.cell? ⟨w0.heap.size, 6, none⟩ = some (.int .i64 z.s.holder) ∧ w3.cell? ⟨w0.heap.size, 7, none⟩ = some (.bool z.s.stays) := by simp [World.cell?, kb3, Seen.kp]
      have hK3 : w0.heap.size < w3.heap.size := (Array.getElem?_eq_some_iff.1 kb3).1
      clear kb3 kb hs b3 fr
      by_cases hgt : z.m < x.m
      · have ST := Lib.hid (show best f (k + 1) = x from STEP.out.trans (if_pos hgt))
        go_upto_region 13 with fail
        rw [← hw4]
        clear hw4 y1 y2 y3 y4 y5 y6 y7
        obtain ⟨⟨r0, r1, r2, r3, r4⟩, g0, g1, g2, g3, g4⟩ := cells5 N4.out
        have hKb := K4.out.blk
        obtain ⟨z1, z2, z3, z4, z5, z6, z7⟩ : w4.frozen? ⟨w0.heap.size, 1, none⟩ = false ∧ w4.frozen? ⟨w0.heap.size, 2, none⟩ = false ∧ w4.frozen? ⟨w0.heap.size, 3, none⟩ = false ∧ w4.frozen? ⟨w0.heap.size, 4, none⟩ = false ∧ w4.frozen? ⟨w0.heap.size, 5, none⟩ = false ∧ w4.frozen? ⟨w0.heap.size, 6, none⟩ = false ∧ w4.frozen? ⟨w0.heap.size, 7, none⟩ = false := by simp [World.frozen?, hKb]
        obtain ⟨y1, y2, y3, y4, y5, y6, y7⟩ : w4.cell? ⟨w0.heap.size, 1, none⟩ = some (.int .i64 z.m) ∧ w4.cell? ⟨w0.heap.size, 2, none⟩ = some (.int .i64 z.e) ∧ w4.cell? ⟨w0.heap.size, 3, none⟩ = some (.int .i64 z.s.gen) ∧ w4.cell? ⟨w0.heap.size, 4, none⟩ = some (.slice a z.s.regs.length cap) ∧ w4.cell? ⟨w0.heap.size, 5, none⟩ = some (.int .i64 z.s.typ) ∧ w4.cell? ⟨w0.heap.size, 6, none⟩ = some (.int .i64 z.s.holder) ∧ w4.cell? ⟨w0.heap.size, 7, none⟩ = some (.bool z.s.stays) := by simp [World.cell?, hKb, Seen.kp]
        clear hKb
        obtain ⟨B8, hB8⟩ : ∃ B, w3.heap.size = B := ⟨_, rfl⟩
        rw [hB8] at N4 r0 r1 r2 r3 r4 g0 g1 g2 g3 g4 hK3 ⊢
        clear hB8
        have hne : B8 ≠ w0.heap.size := by omega
        have KEEP := Lib.hid (show ∀ w', Keeps (· = w0.heap.size) w4 w' → Keeps (· = w0.heap.size) w4 w' ∧ w'.cell? ⟨B8, 0, none⟩ = some (.int .i64 x.s.gen) ∧ w'.cell? ⟨B8, 1, none⟩ = some (.slice a' x.s.regs.length cap') ∧ w'.cell? ⟨B8, 2, none⟩ = some (.int .i64 x.s.typ) ∧ w'.cell? ⟨B8, 3, none⟩ = some (.int .i64 x.s.holder) ∧ w'.cell? ⟨B8, 4, none⟩ = some (.bool x.s.stays) from fun w' kp => by
          have hlt : B8 < w4.heap.size := (Array.getElem?_eq_some_iff.1 N4.out).1
          have e := fun o => kp.cell (b := B8) (o := o) hne hlt
          exact ⟨kp, (e 0).trans r0, (e 1).trans r1, (e 2).trans r2, (e 3).trans r3, (e 4).trans r4⟩)
        go_region_held3 (fun w' => Keeps (· = w0.heap.size) w4 w' ∧ w'.cell? ⟨B8, 0, none⟩ = some (.int .i64 x.s.gen) ∧ w'.cell? ⟨B8, 1, none⟩ = some (.slice a' x.s.regs.length cap') ∧ w'.cell? ⟨B8, 2, none⟩ = some (.int .i64 x.s.typ) ∧ w'.cell? ⟨B8, 3, none⟩ = some (.int .i64 x.s.holder) ∧ w'.cell? ⟨B8, 4, none⟩ = some (.bool x.s.stays))
          (first | (refine KEEP.out _ ?_; first | (with_reducible exact (Keeps.refl _ _).drew) | (with_reducible exact (kset (Keeps.refl _ _) _ _).drew) | (with_reducible exact (kset (kset (Keeps.refl _ _) _ _) _ _).drew) | (with_reducible exact (kset (kset (kset (kset (kset (kset (kset (Keeps.refl _ _) _ _) _ _) _ _) _ _) _ _) _ _) _ _).drew)))
          (fail)
        go_wp2
        go_roundw
        case rel => exact ⟨k + 1, by omega, by go_num, a', cap', by rw [ST.out]; exact (K4.out.put S4.out FR.out).drew, (sevens_below (HB.out.trans (B4.out.mono HB.out.size)) (Nat.le_refl _) _ _ _ _ _ _ _).drew, FR0.out⟩
        case measure => simp [RowKit.intOf]; omega
      · have ST := Lib.hid (show best f (k + 1) = z from STEP.out.trans (if_neg hgt))
        go_wp2
        rw [← hw4]
        go_roundw
        case rel => exact ⟨k + 1, by omega, by go_num, a, cap, by rw [ST.out]; exact K4.out, HB.out.trans (B4.out.mono HB.out.size), HA.out⟩
        case measure => simp [RowKit.intOf]; omega
    · obtain rfl : k = 2 := by omega
      rw [HZ2.out] at KR kb
      have y1 : wr.cell? ⟨w0.heap.size, 1, none⟩ = some (.int .i64 Z.m) := by simp [World.cell?, kb, Seen.kp]
      clear kb
      by_cases h0 : Z.m = 0
      · rw [h0] at y1
        go_wp2
        exact bodyPost_ret (v := .tuple #[.pointer none, errV 3]) (by simp [results, Tryz.results9, go_sem, errV]) rfl ⟨fun _ => ⟨rfl, HB.out⟩, fun h => absurd h0 h⟩
      · have q0 : (Z.m == 0) = false := by simpa using h0
        go_wp2
        exact bodyPost_ret (v := .tuple #[.pointer (some ⟨w0.heap.size, 0, none⟩), .nilIface]) (by simp [results, Tryz.results9, go_sem]) rfl ⟨fun h => absurd h h0, fun _ => ⟨_, a, cap, rfl, KR.out, Nat.le_refl _, HB.out, HA.out⟩⟩
end Go.Proofs.YtkedmlkbepjnfaaGreatDoor
