/-
  TopReport: the walk.
-/
import Derived.Test.YtkedmlkbepjnfaaDoorRpParse
import Derived.Test.YtkedmlkbepjnfaaDoorSameState
import Derived.Test.YtkedmlkbepjnfaaDoorRefL
namespace Go.Proofs.YtkedmlkbepjnfaaDoor
open Go.RowKit

theorem itoa_0 : Lib.itoa 0 = [48] := by
  unfold Lib.itoa
  rw [if_neg (by omega), Lib.decDigits]
  rfl
def sZero : ByteArray := ⟨#[48, 32, 48, 32, 48, 32, 103, 111, 101, 115]⟩
theorem zero_text : bsB (stText ⟨0, [], 0, 0, false⟩) = sZero := by
  unfold stText stWords
  rw [itoa_0]
  rfl
theorem st_heap {w w1 : World} {v0 v1 v2 v3 v4 : Value} {T : TypeId} {n : Nat} (h : Below n (w.alloc (.cells #[v0, v1, v2, v3, v4] T)) w1) (hn : w.heap.size < n) : w1.heap[w.heap.size]? = some (.cells #[v0, v1, v2, v3, v4] T (0, 0)) :=
  (h.block _ hn).trans (heap_alloc_new w _)

set_option maxRecDepth 100000 in
set_option maxHeartbeats 4000000 in
theorem topreport_walk (s : St) (a : Option Addr) (cap : Nat) (w : World) (hr : StR w s a) (tt : Tabs w) :
    Calls Tryd.prog 4 #[stV s a cap] w fun e w' => e = .returned (.bool true) ∧ Below w.heap.size w w' := by
  have HR := Lib.hid hr
  have TT := Lib.hid tt
  clear hr tt
  go_enter Tryd.func4, Tryd.ntmps4
  go_wp2_with fail
  have ZF : Fits ⟨0, [], 0, 0, false⟩ := ⟨by simp, by simp, by simp, fun r h => by simp at h⟩
  refine (text_any ⟨0, [], 0, 0, false⟩ none 0 _ (TT.out.on (bal w _)) ⟨by simp, Pairs.nil _ _ _⟩ ZF (by simp)).mono ?_
  rintro e w1 ⟨rfl, b1⟩
  have W1 := Lib.hid ((bal w _).trans (b1.mono (by simp)))
  have H1 := Lib.hid (st_heap b1 (by simp))
  rw [zero_text]
  unfold sZero
  clear b1 ZF
  obtain ⟨e0, e1, e2, e3, e4⟩ := (box5' H1.out).1
  go_wp2_with fail
  refine (light_any s a cap _).mono ?_
  rintro e w2 ⟨rfl, b2⟩
  have W2 := Lib.hid (W1.out.trans (b2.mono W1.out.size))
  have H2 := Lib.hid ((b2.block _ (Array.getElem?_eq_some_iff.1 H1.out).1).trans H1.out)
  clear b2 e0 e1 e2 e3 e4
  obtain ⟨e0, e1, e2, e3, e4⟩ := (box5' H2.out).1
  by_cases h6 : s.regs.length ≤ 6
  · have d6 : decide (s.regs.length ≤ 6) = true := decide_eq_true h6
    rw [d6]
    clear d6 h6
    go_wp2_with fail
    refine (check_any s a cap _ (HR.out.below W2.out)).mono ?_
    rintro e w3 ⟨rfl, b3⟩
    have W3 := Lib.hid (W2.out.trans (b3.mono W2.out.size))
    have H3 := Lib.hid ((b3.block _ (Array.getElem?_eq_some_iff.1 H2.out).1).trans H2.out)
    clear b3 e0 e1 e2 e3 e4
    obtain ⟨e0, e1, e2, e3, e4⟩ := (box5' H3.out).1
    by_cases hf : stateFault s = 0
    · rw [hf, errV_nil]
      have HG := Lib.hid ((good_iff _).1 hf)
      clear hf
      go_wp2_with fail
      refine (text_any s a cap _ (TT.out.on W3.out) (HR.out.below W3.out) HG.out.fits (by have := HG.out.regs_len; omega)).mono ?_
      rintro e w4 ⟨rfl, b4⟩
      have W4 := Lib.hid (W3.out.trans (b4.mono W3.out.size))
      have H4 := Lib.hid ((b4.block _ (Array.getElem?_eq_some_iff.1 H3.out).1).trans H3.out)
      clear b4 e0 e1 e2 e3 e4
      go_wp2_with fail
      refine (parse_any (bsB (stText s)) _ (TT.out.on W4.out) (by rw [bsB_size]; have := HG.out.text_len; omega)).mono ?_
      rintro e w5 ⟨h5, b5⟩
      rcases h5 with ⟨s', a', cap', hg, ht, rfl, hr5⟩ | ⟨h5, -⟩
      · obtain rfl : s' = s := stText_inj hg HG.out (bsB_inj ht)
        have W5 := Lib.hid (W4.out.trans (b5.mono W4.out.size))
        have H5 := Lib.hid ((b5.block _ (Array.getElem?_eq_some_iff.1 H4.out).1).trans H4.out)
        have R5 := Lib.hid hr5
        clear b5 ht hg hr5
        have HS : w.heap.size < w5.heap.size := (Array.getElem?_eq_some_iff.1 H5.out).1
        go_upto_region 6 with fail
        obtain ⟨w6, hw6⟩ : ∃ w6, w5.alloc (.cells #[.int .i64 s'.gen, .slice a' s'.regs.length cap', .int .i64 s'.typ, .int .i64 s'.holder, .bool s'.stays] 33) = w6 := ⟨_, rfl⟩
        rw [hw6]
        have B6 := Lib.hid (show Below w5.heap.size w5 w6 from hw6 ▸ bal w5 _)
        have N6 := Lib.hid (show w6.heap[w5.heap.size]? = some (.cells #[.int .i64 s'.gen, .slice a' s'.regs.length cap', .int .i64 s'.typ, .int .i64 s'.holder, .bool s'.stays] 33 (0, 0)) from hw6 ▸ heap_alloc_new w5 _)
        have H6 := Lib.hid ((B6.out.block _ HS).trans H5.out)
        clear hw6 HS
        obtain ⟨e0, e1, e2, e3, e4⟩ := (box5' H6.out).1
        obtain ⟨n0, n1, n2, n3, n4⟩ := (box5' N6.out).1
        have W6 := Lib.hid (W5.out.trans (B6.out.mono W5.out.size))
        go_wp2_with fail
        refine (samestate_true s' a' a cap' cap _ (R5.out.below B6.out) (HR.out.below W6.out)).mono ?_
        rintro e w7 ⟨rfl, b7⟩
        have W7 := Lib.hid (W6.out.trans (b7.mono W6.out.size))
        have H7 := Lib.hid ((b7.block _ (Array.getElem?_eq_some_iff.1 H6.out).1).trans H6.out)
        clear b7 e0 e1 e2 e3 e4 n0 n1 n2 n3 n4
        obtain ⟨e0, e1, e2, e3, e4⟩ := (box5' H7.out).1
        go_wp2_with fail
        refine (text_any s' a cap _ (TT.out.on W7.out) (HR.out.below W7.out) HG.out.fits (by have := HG.out.regs_len; omega)).mono ?_
        rintro e w8 ⟨rfl, b8⟩
        have W8 := Lib.hid (W7.out.trans (b8.mono W7.out.size))
        obtain ⟨T, hT⟩ : ∃ T, T = bsB (stText s') := ⟨_, rfl⟩
        have hsz : (T.size : Int) ≤ 60 := by rw [hT, bsB_size]; have := HG.out.text_len; omega
        rw [← hT]
        clear hT b8
        go_wp2
        go_ret
        exact ⟨rfl, W8.out⟩
      · exact absurd rfl (h5 s HG.out)
    · rw [errV_some hf]
      obtain ⟨sf, hsf⟩ : ∃ sf, sf = stateFault s := ⟨_, rfl⟩
      rw [← hsf]
      clear hf hsf
      go_wp2
      go_ret
      exact ⟨rfl, W3.out⟩
  · have d6 : decide (s.regs.length ≤ 6) = false := decide_eq_false h6
    rw [d6]
    clear d6 h6
    go_wp2
    go_ret
    exact ⟨rfl, W2.out⟩
end Go.Proofs.YtkedmlkbepjnfaaDoor
