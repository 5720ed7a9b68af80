/-
  Contracts: Open and Format of a disk that is new or too small; keepers; what the walk of KeeperSays keeps.
-/
import Derived.Test.YtkedmlkbepjnfaaGreatDoorKpKept
namespace Go.Proofs.YtkedmlkbepjnfaaGreatDoor
open Go.RowKit

theorem new_nothing {n : Nat} (n6 : 6 ≤ n) : ∀ k, k < 2 → Lk (Dk.new n) k nothing.m nothing.e nothing.s := fun k hk => .inr ⟨by
  show List.getD (List.replicate n (fullB ⟨#[]⟩)) (2 * k) ⟨#[]⟩ = full0
  simp [List.getD_eq_getElem?_getD, show 2 * k < n by omega, full0], rfl, rfl, rfl⟩
def NoKeeper (w : World) (e : Ending) (w' : World) : Prop := e = .returned (.tuple #[.pointer none, errV 3]) ∧ Below w.heap.size w w'
set_option maxRecDepth 100000 in
theorem open_few (S : Nat → Prop) (w : World) (D n : Nat) (d : Dk) (h : DkAt S w 65 78 D n d) (up : d.down = false) (n6 : n < 6) :
    Calls Tryz.prog 9 #[.pointer (some ⟨D, 0, none⟩)] w fun e w' => NoKeeper w e w' := by
  have HH := Lib.hid h
  have DOWN := Lib.hid (fun (w : World) (h : DkAt S w 65 78 D n d) => ddown_any S w D n d h)
  have SEC := Lib.hid (fun (w : World) (h : DkAt S w 65 78 D n d) => dsectors_any S w D n d h)
  have UP := Lib.hid up
  clear h up
  go_enter Tryz.func9, Tryz.ntmps9
  go_wp2_with fail
  refine (DOWN.out _ HH.out).mono ?_
  rintro e w0 ⟨rfl, rfl⟩
  rw [UP.out]
  go_wp2_with fail
  refine (SEC.out _ HH.out).mono ?_
  rintro e w0 ⟨rfl, rfl⟩
  have hn6 : (n : Int) < 6 := by omega
  go_wp2
  exact bodyPost_ret (v := .tuple #[.pointer none, errV 3]) (by simp [results, Tryz.results9, go_sem, errV]) rfl ⟨rfl, Below.refl _ _⟩
theorem open_new (S : Nat → Prop) (w : World) (D n : Nat) (h : DkAt S w 65 78 D n (Dk.new n)) (lt : ∀ b, S b → b < w.heap.size) (n40 : n ≤ 40) (t : Tabs w) :
    Calls Tryz.prog 9 #[.pointer (some ⟨D, 0, none⟩)] w fun e w' => NoKeeper w e w' := by
  by_cases n6 : n < 6
  · exact open_few S w D n (Dk.new n) h rfl n6
  · refine (open_best S w D n (Dk.new n) (fun _ => nothing) h lt (Dk.new_ok n40) rfl (Sz.new n) (by omega) (new_nothing (by omega)) t).mono ?_
    intro e w' hp
    exact hp.1 rfl
set_option maxRecDepth 100000 in
theorem format_few (S : Nat → Prop) (w : World) (D n : Nat) (d : Dk) (h : DkAt S w 65 78 D n d) (n6 : n < 6) :
    Calls Tryz.prog 10 #[.pointer (some ⟨D, 0, none⟩)] w fun e w' => e = .returned (errV 6) ∧ Below w.heap.size w w' := by
  have SEC := Lib.hid (dsectors_any S w D n d h)
  clear h
  go_enter Tryz.func10, Tryz.ntmps10
  go_wp2_with fail
  refine SEC.out.mono ?_
  rintro e w0 ⟨rfl, rfl⟩
  have hn6 : (n : Int) < 6 := by omega
  go_wp2
  go_ret
  exact ⟨rfl, Below.refl _ _⟩

def s3 : St := ⟨3, [], 0, 0, false⟩
theorem fault3 : stateFault s3 = 0 := by decide
set_option maxRecDepth 100000 in
set_option maxHeartbeats 4000000 in
theorem keepers_any (w : World) (t : Tabs w) : Calls Tryz.prog 5 #[] w fun e w' => e = .returned (.bool true) ∧ Below w.heap.size w w' := by
  have TT := Lib.hid t
  have KEPT := Lib.hid (kept_any w t)
  clear t
  go_enter Tryz.func5, Tryz.ntmps5
  go_wp2_with fail
  refine KEPT.out.mono ?_
  rintro e w1 ⟨D, K, d, rfl, ki, kg, lv⟩
  have KL := Lib.hid (keep_live kg lv (by show (1 : Int) < _; omega) (ep := 5) (s := s3) (by omega) fault3)
  have EPO := Lib.hid (epochI 10 w w1 _ D K ⟨d, 1, 1, sNone⟩ ki)
  have KE := Lib.hid (keepI 10 w w1 _ D K ⟨d, 1, 1, sNone⟩ none 0 5 s3 ki kg.kd.ok (by rw [show (⟨d, 1, 1, sNone⟩ : Kp).d.wait = [] from kg.kd.wait]; simp) (by omega) (by show (0 : Int) ≤ 1; omega) (by show (1 : Int) < _; omega) (str_nil _ 3) TT.out)
  clear ki kg lv KEPT
  go_wp2_with fail
  refine EPO.out.mono ?_
  rintro e w1 ⟨rfl, rfl⟩
  go_wp2_with fail
  refine KE.out.mono ?_
  rintro e w5 ⟨rfl, ki, -⟩
  obtain ⟨k5, hk5⟩ : ∃ k5, (Kp.keep 10 ⟨d, 1, 1, sNone⟩ 5 s3).1 = k5 := ⟨_, rfl⟩
  rw [KL.out.1, errV_nil]
  rw [hk5] at ki KL
  have K5 := Lib.hid ki
  have G5 := Lib.hid (show KD 10 k5.d k5.num 5 s3 ∧ Sz k5.d from by
    obtain ⟨-, h2, h3, h4, h5, -⟩ := KL.out
    have := h2.kd
    rw [h4, h5] at this
    exact ⟨this, h2.sz⟩)
  have OPEN := Lib.hid (openI 10 w w5 _ D K k5 k5.num 5 s3 K5.out G5.out.1 G5.out.2 TT.out)
  clear ki hk5 KL KE EPO
  go_wp2_with fail
  refine OPEN.out.mono ?_
  rintro e w6 ⟨M2, rfl, ki, -⟩
  have K6 := Lib.hid ki
  have ST := Lib.hid (stateI 10 w w6 _ D M2 ⟨k5.d, k5.num, 5, s3⟩ ki (by show (0 : Nat) ≤ 1000; omega))
  clear ki OPEN K5
  go_wp2_with fail
  refine ST.out.mono ?_
  rintro e w7 ⟨a7, c7, rfl, -, b7⟩
  have K7 := Lib.hid ((K6.out.over b7).over (bal w7 (.cells #[.int .i64 3, .slice a7 0 c7, .int .i64 0, .int .i64 0, .bool false] 37)))
  clear b7 ST K6
  have EPO := Lib.hid (epochI 10 w _ _ D M2 ⟨k5.d, k5.num, 5, s3⟩ K7.out)
  go_wp2_with fail
  refine EPO.out.mono ?_
  rintro e w8 ⟨rfl, rfl⟩
  go_wp2
  go_ret
  exact ⟨rfl, K7.out.below⟩

def keepF (ep : Int) (s : St) : Int := if ep < 1 ∨ 1000000 < ep then 1 else stateFault s
theorem keep_f {n : Nat} {k : Kp} (h : KG n k) (hl : Live k.d) (hn : k.num < 1000000000000000) (ep : Int) (s : St) :
    (k.keep n ep s).2 = keepF ep s ∧ (keepF ep s = 0 → KG n (k.keep n ep s).1 ∧ Live (k.keep n ep s).1.d ∧ (k.keep n ep s).1.num = k.num + 1 ∧ (k.keep n ep s).1.ep = ep ∧ (k.keep n ep s).1.s = s) ∧ (keepF ep s ≠ 0 → (k.keep n ep s).1 = k) := by
  unfold keepF
  by_cases h1 : ep < 1 ∨ 1000000 < ep
  · rw [if_pos h1]
    have e : k.keep n ep s = (k, 1) := by unfold Kp.keep; rw [if_pos h1]
    rw [e]
    exact ⟨rfl, fun h => absurd h (by decide), fun _ => rfl⟩
  · rw [if_neg h1]
    by_cases h2 : stateFault s = 0
    · have L := keep_live h hl hn (ep := ep) (s := s) (by omega) h2
      rw [h2]
      exact ⟨L.1, fun _ => ⟨L.2.1, L.2.2.2.2.2, L.2.2.1, L.2.2.2.1, L.2.2.2.2.1⟩, fun h => absurd rfl h⟩
    · have e : k.keep n ep s = (k, stateFault s) := by unfold Kp.keep; rw [if_neg h1, if_pos h2]
      rw [e]
      exact ⟨rfl, fun h => absurd h h2, fun _ => rfl⟩
structure KS (n : Nat) (W : World) (A D K : Nat) (k : Kp) (s : St) (x : Option Addr) (y : Nat) (wx : World) : Prop where
  ki : KI n W (fun b => b = A) D K k wx
  ba : wx.heap[A]? = some (.cells (boxC s x y) 37 (0, 0))
  ra : StR W s x
  la : W.heap.size ≤ A
section
variable {n : Nat} {W wx w' : World} {A D K : Nat} {k : Kp} {s : St} {x : Option Addr} {y : Nat}
theorem KS.below (h : KS n W A D K k s x y wx) : Below W.heap.size W wx := h.ki.below
theorem KS.cells (h : KS n W A D K k s x y wx) : (wx.cell? ⟨A, 0, none⟩ = some (.int .i64 s.gen) ∧ wx.cell? ⟨A, 1, none⟩ = some (.slice x s.regs.length y) ∧ wx.cell? ⟨A, 2, none⟩ = some (.int .i64 s.typ) ∧ wx.cell? ⟨A, 3, none⟩ = some (.int .i64 s.holder) ∧ wx.cell? ⟨A, 4, none⟩ = some (.bool s.stays)) ∧
    (wx.frozen? ⟨A, 0, none⟩ = false ∧ wx.frozen? ⟨A, 1, none⟩ = false ∧ wx.frozen? ⟨A, 2, none⟩ = false ∧ wx.frozen? ⟨A, 3, none⟩ = false ∧ wx.frozen? ⟨A, 4, none⟩ = false) := cells5 h.ba
theorem KS.over (h : KS n W A D K k s x y wx) (b : Below wx.heap.size wx w') : KS n W A D K k s x y w' :=
  ⟨h.ki.over b, (b.block A (h.ki.lt A rfl)).trans h.ba, h.ra, h.la⟩
theorem KS.next {K' : Nat} {k' : Kp} (h : KS n W A D K k s x y wx) (ki : KI n W (fun b => b = A) D K' k' w') (sm : Same (fun b => b = A) wx w') : KS n W A D K' k' s x y w' :=
  ⟨ki, (sm A rfl).trans h.ba, h.ra, h.la⟩
theorem KS.set (h : KS n W A D K k s x y wx) {s3 : St} {x3 : Option Addr} (y3 : Nat) (hr : StR W s3 x3) : KS n W A D K k s3 x3 y3 (fiveS wx A s3 x3 y3) :=
  ⟨h.ki.set (five_keeps (X := fun b => b = A) (T := A) wx rfl _ _ _ _ _) (fun b e => by have := h.la; omega), five_at h.ba _ _ _ _ _, hr, h.la⟩
end
end Go.Proofs.YtkedmlkbepjnfaaGreatDoor
