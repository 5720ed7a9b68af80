/-
  Contracts: Keep, State, Epoch of a keeper.
-/
import Derived.Test.YtkedmlkbepjnfaaGreatDoorKpLay
import Derived.Test.YtkedmlkbepjnfaaGreatDoorApp
import Derived.Test.YtkedmlkbepjnfaaGreatDoorRpParse
import Derived.Lib.AppendZeros
namespace Go.Proofs.YtkedmlkbepjnfaaGreatDoor
open Go.RowKit

theorem KpR.below {S : Nat → Prop} {w w' : World} {K D n : Nat} {a : Option Addr} {cap : Nat} {k : Kp} (h : KpR S w K D n a cap k) (b : Below w.heap.size w w') : KpR S w' K D n a cap k :=
  ⟨(b.block K (Array.getElem?_eq_some_iff.1 h.blk).1).trans h.blk, h.dk.below b, h.nk, fun q e => Nat.lt_of_lt_of_le (h.lt q e) b.size, h.str.below b, h.ap⟩
theorem kp_under {A0 A1 : Option Addr → Prop} {S : Nat → Prop} {w w1 w' : World} {K D n : Nat} {r : Kp × Int} {e : Ending} (b : Below w.heap.size w w1) (h : KpPost A0 S w1 K D n r e w') (hA : ∀ q, A0 q → A1 q) : KpPost A1 S w K D n r e w' := by
  obtain ⟨he, S', a, cap, hk, hs, kk, ha⟩ := h
  refine ⟨he, S', a, cap, hk, fun q e => ?_, (Keeps.of_below b).trans kk, hA _ ha⟩
  rcases hs q e with e | e
  · exact .inl e
  · exact .inr ⟨Nat.le_trans b.size e.1, e.2⟩
theorem kp_same {S : Nat → Prop} {w w' : World} {K D n : Nat} {a : Option Addr} {cap : Nat} {k : Kp} (h : KpR S w K D n a cap k) (b : Below w.heap.size w w') (f : Int) : KpPost (fun q => (q = a ∧ k.s = k.s) ∨ ∀ b o, q = some ⟨b, o, none⟩ → w.heap.size ≤ b) S w K D n (k, f) (.returned (errV f)) w' :=
  ⟨rfl, S, a, cap, h.below b, fun _ e => .inl e, Keeps.of_below b, .inl ⟨rfl, rfl⟩⟩

set_option maxRecDepth 100000 in
set_option maxHeartbeats 4000000 in
theorem keep_any (S : Nat → Prop) (w : World) (K D n : Nat) (a a' : Option Addr) (cap cap' : Nat) (k : Kp) (ep : Int) (s : St) (h : KpR S w K D n a cap k) (ok : k.d.ok n) (hwl : k.d.wait.length ≤ 900) (n6 : 6 ≤ n)
    (h0 : 0 ≤ k.num) (h1 : k.num < 1000000000000000) (hr : StR w s a') (t : Tabs w) :
    Calls Tryz.prog 12 #[.pointer (some ⟨K, 0, none⟩), .int .i64 ep, stV s a' cap'] w fun e w' => KpPost (fun q => (q = a ∧ (k.keep n ep s).1.s = k.s) ∨ ∀ b o, q = some ⟨b, o, none⟩ → w.heap.size ≤ b) S w K D n (k.keep n ep s) e w' := by
  have HH := Lib.hid h
  have HR := Lib.hid hr
  have TT := Lib.hid t
  clear h hr t
  have KE := Lib.hid (show k.keep n ep s = if ep < 1 ∨ 1000000 < ep then (k, 1) else if stateFault s ≠ 0 then (k, stateFault s) else k.lay n ep s from rfl)
  by_cases e1 : ep < 1 ∨ 1000000 < ep
  · have KX := Lib.hid (KE.out.trans (if_pos e1))
    rcases e1 with e1 | e1
    · go_enter Tryz.func12, Tryz.ntmps12
      go_wp2
      go_ret
      rw [KX.out]
      exact kp_same HH.out (bal w _) 1
    · have e2 : ¬ ep < 1 := by omega
      go_enter Tryz.func12, Tryz.ntmps12
      go_wp2
      go_ret
      rw [KX.out]
      exact kp_same HH.out (bal w _) 1
  have KE2 := Lib.hid (KE.out.trans (if_neg e1))
  have e2 : ¬ ep < 1 := by omega
  have e3 : ¬ 1000000 < ep := by omega
  have EP := Lib.hid (show 1 ≤ ep ∧ ep ≤ 1000000 from by omega)
  clear e1 KE
  go_enter Tryz.func12, Tryz.ntmps12
  go_wp2_with fail
  refine (check_any s a' cap' _ (HR.out.below (bal w _))).mono ?_
  rintro e w1 ⟨rfl, b1⟩
  have W1 := Lib.hid ((bal w _).trans (b1.mono (by simp)))
  have H1 := Lib.hid ((b1.block w.heap.size (by simp)).trans (heap_alloc_new w _))
  clear b1
  by_cases hf : stateFault s = 0
  · have KX := Lib.hid (KE2.out.trans (if_neg (fun h => h hf)))
    rw [hf, errV_nil]
    have HG := Lib.hid ((good_iff _).1 hf)
    clear hf
    obtain ⟨v, w2, hrun, hown, b2⟩ := append_pairs s.regs a' cap' 35 w1 (by have := HG.out.regs_len; omega) ((HR.out.below W1.out).rep)
    obtain ⟨a2, cap2, rfl, hpa, -⟩ := OwnP.shape hown
    have hblt : w.heap.size < w1.heap.size := (Array.getElem?_eq_some_iff.1 H1.out).1
    have LO := Lib.hid (show ∀ q o, a2 = some ⟨q, o, none⟩ → w1.heap.size ≤ q from fun q o e => OwnP.blk hown q (by rw [e]; rfl))
    have W2 := Lib.hid (W1.out.trans (b2.mono W1.out.size))
    have H2 := Lib.hid ((b2.block w.heap.size hblt).trans H1.out)
    have S2 := Lib.hid (show StR w2 s a2 from ⟨by have := HG.out.regs_len; unfold maxLen; omega, hpa⟩)
    have W3 := Lib.hid (W2.out.setCell (p := ⟨w.heap.size, 1, none⟩) (Nat.le_refl _) (.slice a2 s.regs.length cap2))
    have S3 := Lib.hid (S2.out.keeps (kset (Keeps.refl (· = w.heap.size) w2) 1 (.slice a2 s.regs.length cap2)) (fun b o e _ => by have := LO.out b o e; omega))
    have KR3 := Lib.hid (HH.out.below W3.out)
    have HX3 := Lib.hid (show ∀ b o, a2 = some ⟨b, o, none⟩ → s.regs ≠ [] → ¬ S b ∧ b ≠ K from fun b o e _ => by
      have := LO.out b o e
      have hK := (Array.getElem?_eq_some_iff.1 HH.out.blk).1
      exact ⟨fun h => by have := HH.out.lt b h; omega, by omega⟩)
    have LAY := Lib.hid (lay_any S _ K D n a a2 cap cap2 k ep s KR3.out ok hwl n6 h0 ⟨by omega, by omega, EP.out.1, EP.out.2, HG.out⟩ S3.out HX3.out (TT.out.on W3.out))
    have hc := H1.out
    obtain ⟨⟨c0, c1, c2, c3, c4⟩, f0, f1, f2, f3, f4⟩ := cells5 H1.out
    obtain ⟨⟨d0, d1, d2, d3, d4⟩, g0, g1, g2, g3, g4⟩ := cells5 H2.out
    clear hc hpa hown b2
    go_wp2_with (first | (at_builtin; refine Lib.wpList_append_run _ rfl _ _ 35 35 rfl _ _ rfl rfl _ _ hrun ?_) | ((with_reducible refine LAY.out.mono ?_); rintro e w4 ⟨rfl, h4⟩))
    go_ret
    rw [KX.out]
    exact kp_under W3.out ⟨rfl, h4⟩ (fun q e => by
      rcases e with e | e
      · exact .inl e
      · exact .inr (fun b o h => by have := LO.out b o (e ▸ h); have := W1.out.size; omega))
  · have KX := Lib.hid (KE2.out.trans (if_pos hf))
    rw [errV_some hf]
    have HF := Lib.hid (errV_some hf)
    obtain ⟨f, hff⟩ : ∃ f, f = stateFault s := ⟨_, rfl⟩
    rw [← hff] at KX HF ⊢
    clear hf hff
    go_wp2
    go_ret
    rw [KX.out, ← HF.out]
    exact kp_same HH.out W1.out f

theorem kepoch_any (S : Nat → Prop) (w : World) (K D n : Nat) (a : Option Addr) (cap : Nat) (k : Kp) (h : KpR S w K D n a cap k) :
    Calls Tryz.prog 15 #[.pointer (some ⟨K, 0, none⟩)] w fun e w' => e = .returned (.int .i64 k.ep) ∧ w' = w := by
  have hb := h.blk
  have c2 : w.cell? ⟨K, 2, none⟩ = some (.int .i64 k.ep) := by simp [World.cell?, hb]
  clear hb h
  go_enter Tryz.func15, Tryz.ntmps15
  go_wp2
  go_ret
  exact ⟨rfl, rfl⟩

theorem results_r1 {P : Program} {fn : Func} {p : Tmp} {ty : TypeId} (h : fn.results = #[.cell p ty]) (tmps : Array Value) (w : World) (g : Nat) (t : TypeId) (cs : Array Value) (d : TypeDesc)
    (hp : tmps.getD p undef = .pointer (some ⟨g, 0, none⟩)) (hg : w.heap[g]? = some (.cells cs t (0, 0)))
    (hu : P.underlying ty = some d) (hd : (match d with | .struct _ | .array _ _ => true | _ => false) = true) (hi : (P.info? ty).map (·.size) = some cs.size) :
    (results fn tmps).run P w = .ok (.agg cs) w := by
  have hp' : tmps[p]?.getD undef = .pointer (some ⟨g, 0, none⟩) := by simpa using hp
  simp [results, h, hp', asAddr, run_loadVar_row w g t ty cs (0, 0) d hg hu hd hi]

set_option maxRecDepth 100000 in
set_option maxHeartbeats 4000000 in
theorem kstate_any (S : Nat → Prop) (w : World) (K D n : Nat) (a : Option Addr) (cap : Nat) (k : Kp) (h : KpR S w K D n a cap k) (hl : k.s.regs.length ≤ 1000) :
    Calls Tryz.prog 14 #[.pointer (some ⟨K, 0, none⟩)] w fun e w' => ∃ a2 cap2, e = .returned (stV k.s a2 cap2) ∧ StR w' k.s a2 ∧ Below w.heap.size w w' ∧ ∀ b o, a2 = some ⟨b, o, none⟩ → w.heap.size ≤ b := by
  have HH := Lib.hid h
  have hb := h.blk
  have hK := (Array.getElem?_eq_some_iff.1 h.blk).1
  clear h
  obtain ⟨y3, y4, y5, y6, y7⟩ : w.cell? ⟨K, 3, none⟩ = some (.int .i64 k.s.gen) ∧ w.cell? ⟨K, 4, none⟩ = some (.slice a k.s.regs.length cap) ∧ w.cell? ⟨K, 5, none⟩ = some (.int .i64 k.s.typ) ∧ w.cell? ⟨K, 6, none⟩ = some (.int .i64 k.s.holder) ∧ w.cell? ⟨K, 7, none⟩ = some (.bool k.s.stays) := by simp [World.cell?, hb]
  clear hb
  go_enter Tryz.func14, Tryz.ntmps14
  go_upto_region 2 with fail
  obtain ⟨w1, hw1⟩ : ∃ w1, (w.alloc (.cells #[.int .i64 0, .slice none 0 0, .int .i64 0, .int .i64 0, .bool false] 37)).alloc (.cells #[.int .i64 k.s.gen, .slice a k.s.regs.length cap, .int .i64 k.s.typ, .int .i64 k.s.holder, .bool k.s.stays] 37) = w1 := ⟨_, rfl⟩
  rw [hw1]
  have B1 := Lib.hid (show Below w.heap.size w w1 from hw1 ▸ (bal w _).trans ((bal _ _).mono (by simp)))
  have hz1 : w1.heap.size = w.heap.size + 2 := by rw [← hw1]; simp
  have R1 := Lib.hid (show w1.heap[w.heap.size]? = some (.cells #[.int .i64 0, .slice none 0 0, .int .i64 0, .int .i64 0, .bool false] 37 (0, 0)) from hw1 ▸ heap_alloc2_old w _ _)
  have N1 := Lib.hid (show w1.heap[w.heap.size + 1]? = some (.cells #[.int .i64 k.s.gen, .slice a k.s.regs.length cap, .int .i64 k.s.typ, .int .i64 k.s.holder, .bool k.s.stays] 37 (0, 0)) from hw1 ▸ heap_alloc2_new w _ _)
  clear hw1
  obtain ⟨v, w2, hrun, hown, b2⟩ := append_pairs k.s.regs a cap 35 w1 hl ((HH.out.str.below B1.out).rep)
  obtain ⟨a2, cap2, rfl, hpa, -⟩ := OwnP.shape hown
  have LO := Lib.hid (show ∀ q o, a2 = some ⟨q, o, none⟩ → w1.heap.size ≤ q from fun q o e => OwnP.blk hown q (by rw [e]; rfl))
  have B2 := Lib.hid (B1.out.trans (b2.mono B1.out.size))
  have R2 := Lib.hid ((b2.block w.heap.size (by omega)).trans R1.out)
  have N2 := Lib.hid ((b2.block (w.heap.size + 1) (by omega)).trans N1.out)
  have S2 := Lib.hid (show StR w2 k.s a2 from ⟨by unfold maxLen; omega, hpa⟩)
  obtain ⟨⟨c0, c1, c2, c3, c4⟩, f0, f1, f2, f3, f4⟩ := cells5 N1.out
  obtain ⟨⟨d0, d1, d2, d3, d4⟩, g0, g1, g2, g3, g4⟩ := cells5 N2.out
  obtain ⟨⟨r0, r1, r2, r3, r4⟩, t0, t1, t2, t3, t4⟩ := cells5 R2.out
  clear y3 y4 y5 y6 y7 hpa hown b2
  go_wp2_with (at_builtin; refine Lib.wpList_append_run _ rfl _ _ 35 35 rfl _ _ rfl rfl _ _ hrun ?_)
  have N3 := one_setCell (o := 1) N2.out (.slice a2 k.s.regs.length cap2)
  have R3 := (Below.heap_setCell w2 ⟨w.heap.size + 1, 1, none⟩ (.slice a2 k.s.regs.length cap2) w.heap.size (by show w.heap.size ≠ w.heap.size + 1; omega)).trans R2.out
  refine bodyPost_ret (v := stV k.s a2 cap2) (results_r1 Tryz.results14 _ _ w.heap.size 37 #[.int .i64 k.s.gen, .slice a2 k.s.regs.length cap2, .int .i64 k.s.typ, .int .i64 k.s.holder, .bool k.s.stays] _ rfl (five_at R3 _ _ _ _ _) state_row.1 rfl state_row.2) rfl ?_
  exact ⟨a2, cap2, rfl, (S2.out.keeps (kset (Keeps.refl (· = w.heap.size + 1) w2) 1 (.slice a2 k.s.regs.length cap2)) (fun b o e _ => by have := LO.out b o e; omega)).five (fun b o e => by have := LO.out b o e; omega) _ _ _ _ _,
    five_below (B2.out.setCell (p := ⟨w.heap.size + 1, 1, none⟩) (by show w.heap.size ≤ w.heap.size + 1; omega) _) (Nat.le_refl _) _ _ _ _ _, fun b o e => by have := LO.out b o e; omega⟩
end Go.Proofs.YtkedmlkbepjnfaaGreatDoor
