/-
  Contract: the closed fact 'reports'.
-/
import Derived.Test.YtamjmejkffhmeaaGreatDoorRpParse
import Derived.Test.YtamjmejkffhmeaaGreatDoorSameErr
import Derived.Deep.DeepCutAuto
namespace Go.Proofs.YtamjmejkffhmeaaGreatDoor
open Go.RowKit Go.Lib

def sSt : St := ⟨3, [(2, 7)], 1, 2, true⟩
theorem sSt_good : Good sSt := (good_iff _).1 (by decide)
theorem sSt_text : bsB (stText sSt) = ⟨#[51, 32, 49, 32, 50, 32, 115, 116, 97, 121, 115, 32, 50, 58, 55]⟩ := by
  have d : ∀ k : Nat, k < 10 → itoa (k : Int) = [UInt8.ofNat (48 + k)] := fun k h => by
    unfold itoa
    rw [if_neg (by omega), show ((k : Int)).toNat = k from rfl, decDigits, dif_pos h]
  unfold stText stWords sSt
  simp only [List.map_cons, List.map_nil, regW]
  rw [show (3 : Int) = ((3 : Nat) : Int) from rfl, show (1 : Int) = ((1 : Nat) : Int) from rfl, show (2 : Int) = ((2 : Nat) : Int) from rfl, show (7 : Int) = ((7 : Nat) : Int) from rfl, d 3 (by decide), d 1 (by decide), d 2 (by decide), d 7 (by decide)]
  rfl

theorem same_one (f : Int) (w : World) (hf : 0 ≤ f) :
    Calls Tryz.prog 8 #[errV f, .int .i64 f] w fun e w' => e = .returned (.bool true) ∧ Below w.heap.size w w' :=
  (same_any f f w hf hf).mono fun e w' ⟨h1, h2⟩ => ⟨by rw [h1]; simp, h2⟩

set_option maxRecDepth 100000 in
set_option maxHeartbeats 4000000 in
theorem reports_any (w : World) (tt : Tabs w) :
    Calls Tryz.prog 4 #[] w fun e w' => e = .returned (.bool true) ∧ Below w.heap.size w w' := by
  have TT := Lib.hid tt
  have PC := Lib.hid (fun w (t : Tabs w) => parse_any (bsB (stText sSt)) w t (by rw [bsB_size]; have := sSt_good.text_len; omega))
  rw [sSt_text] at PC
  clear tt
  go_enter Tryz.func4, Tryz.ntmps4
  go_wp2_with fail
  refine (PC.out _ TT.out).mono ?_
  rintro e w1 ⟨h1, b1⟩
  rcases h1 with ⟨s', a', cap', hg, ht, rfl, hr1, -⟩ | ⟨h1, -⟩
  · obtain rfl : s' = sSt := stText_inj hg sSt_good (bsB_inj (by rw [ht, sSt_text]))
    have W1 := Lib.hid b1
    have R1 := Lib.hid hr1
    clear b1 hr1 ht hg
    have TX := Lib.hid (fun w (t : Tabs w) (r : StR w sSt a') => text_any sSt a' cap' w t r sSt_good.fits (by decide))
    rw [sSt_text] at TX
    have t1 : (sSt.gen == (3 : Int)) = true := rfl
    have t2 : (sSt.holder == (2 : Int)) = true := rfl
    have S0 := Lib.hid (fun w => same_one 0 w (by omega))
    rw [errV_nil] at S0
    go_wp2_with fail
    refine (S0.out _).mono ?_
    rintro e w2 ⟨rfl, b2⟩
    have V2 := Lib.hid ((b2.block w1.heap.size (by simp)).trans (heap_alloc_new w1 _))
    have B2 := Lib.hid ((bal w1 _).trans (b2.mono (by simp)))
    have W2 := Lib.hid (W1.out.trans (B2.out.mono W1.out.size))
    clear b2
    obtain ⟨⟨e0, e1, e2, e3, e4⟩, f0, f1, f2, f3, f4⟩ := cells5 V2.out
    go_wp2_with fail
    refine (TX.out _ (TT.out.on W2.out) (R1.out.below B2.out)).mono ?_
    rintro e w3 ⟨rfl, b3⟩
    have W3 := Lib.hid (W2.out.trans (b3.mono W2.out.size))
    clear b3 e0 e1 e2 e3 e4 f0 f1 f2 f3 f4
    go_wp2
    go_ret
    exact ⟨rfl, W3.out⟩
  · exact absurd sSt_text (h1 sSt sSt_good)
end Go.Proofs.YtamjmejkffhmeaaGreatDoor
