/-
  Contract: keeper.text.
-/
import Derived.Test.YtkedmlkbepjnfaaGreatDoorRpText
import Derived.Test.YtkedmlkbepjnfaaGreatDoorKpPlain
namespace Go.Proofs.YtkedmlkbepjnfaaGreatDoor
open Go.RowKit

theorem kText_B (n e : Int) (s : St) : bsB (kText n e s) = (⟨#[107, 32]⟩ : ByteArray) ++ bsB (Lib.itoa n) ++ ⟨#[32]⟩ ++ bsB (Lib.itoa e) ++ ⟨#[32]⟩ ++ bsB (Lib.itoa (stText s).length) ++ ⟨#[32]⟩ ++ bsB (stText s) := by
  rw [show (⟨#[107, 32]⟩ : ByteArray) = bsB [107, 32] from rfl, show (⟨#[32]⟩ : ByteArray) = bsB [32] from rfl]
  simp only [bsB_append]
  simp [kText]

set_option maxRecDepth 100000 in
theorem ktext_any (n e : Int) (s : St) (a : Option Addr) (cap : Nat) (w : World) (t : Tabs w) (hr : StR w s a) (hk : KNum n e s) :
    Calls Tryz.prog 44 #[.int .i64 n, .int .i64 e, stV s a cap] w fun e' w' => e' = .returned (.string (bsB (kText n e s))) ∧ Below w.heap.size w w' := by
  have HK := Lib.hid hk
  have TT := Lib.hid t
  have HR := Lib.hid hr
  clear hk t hr
  have l1 := itoa_len_any n (by have := HK.out.n0; omega) (by have := HK.out.n1; omega)
  have l2 := itoa_len_any e (by have := HK.out.e0; omega) (by have := HK.out.e1; omega)
  have l3 := HK.out.g.text_len
  have l4 := itoa_len_any ((stText s).length : Int) (by omega) (by omega)
  obtain ⟨A, hA⟩ : ∃ A, A = bsB (Lib.itoa n) := ⟨_, rfl⟩
  obtain ⟨B, hB⟩ : ∃ B, B = bsB (Lib.itoa e) := ⟨_, rfl⟩
  obtain ⟨C, hC⟩ : ∃ C, C = bsB (Lib.itoa ((stText s).length : Int)) := ⟨_, rfl⟩
  obtain ⟨D, hD⟩ : ∃ D, D = bsB (stText s) := ⟨_, rfl⟩
  have sA : A.size ≤ 20 := by rw [hA, bsB_size]; exact l1
  have sB : B.size ≤ 20 := by rw [hB, bsB_size]; exact l2
  have sC : C.size ≤ 20 := by rw [hC, bsB_size]; exact l4
  have sD : D.size ≤ 48 := by rw [hD, bsB_size]; exact l3
  have HA := Lib.hid hA
  have HB := Lib.hid hB
  have HC := Lib.hid hC
  have HD := Lib.hid hD
  have HL := Lib.hid (show (D.size : Int) = ((stText s).length : Int) from by rw [hD, bsB_size])
  have z1 : (⟨#[32]⟩ : ByteArray).size = 1 := rfl
  have z2 : (⟨#[107, 32]⟩ : ByteArray).size = 2 := rfl
  have a1 := fun w => run_string_add_sum (P := Tryz.prog) w (⟨#[107, 32]⟩ : ByteArray) A (by simp only [z2]; omega)
  have a2 := fun w => run_string_add_sum (P := Tryz.prog) w ((⟨#[107, 32]⟩ : ByteArray) ++ A) ⟨#[32]⟩ (by simp only [ByteArray.size_append, z1, z2]; omega)
  have a3 := fun w => run_string_add_sum (P := Tryz.prog) w ((⟨#[107, 32]⟩ : ByteArray) ++ A ++ ⟨#[32]⟩) B (by simp only [ByteArray.size_append, z1, z2]; omega)
  have a4 := fun w => run_string_add_sum (P := Tryz.prog) w ((⟨#[107, 32]⟩ : ByteArray) ++ A ++ ⟨#[32]⟩ ++ B) ⟨#[32]⟩ (by simp only [ByteArray.size_append, z1, z2]; omega)
  have a5 := fun w => run_string_add_sum (P := Tryz.prog) w ((⟨#[107, 32]⟩ : ByteArray) ++ A ++ ⟨#[32]⟩ ++ B ++ ⟨#[32]⟩) C (by simp only [ByteArray.size_append, z1, z2]; omega)
  have a6 := fun w => run_string_add_sum (P := Tryz.prog) w ((⟨#[107, 32]⟩ : ByteArray) ++ A ++ ⟨#[32]⟩ ++ B ++ ⟨#[32]⟩ ++ C) ⟨#[32]⟩ (by simp only [ByteArray.size_append, z1, z2]; omega)
  have a7 := fun w => run_string_add_sum (P := Tryz.prog) w ((⟨#[107, 32]⟩ : ByteArray) ++ A ++ ⟨#[32]⟩ ++ B ++ ⟨#[32]⟩ ++ C ++ ⟨#[32]⟩) D (by simp only [ByteArray.size_append, z1, z2]; omega)
  clear z1 z2 l1 l2 l3 l4 hA hB hC hD sA sB sC
  go_enter Tryz.func44, Tryz.ntmps44
  go_wp2_with fail
  refine (text_any s a cap _ (TT.out.on (bal w _)) (HR.out.below (bal w _)) HK.out.g.fits (by have := HK.out.g.regs_len; omega)).mono ?_
  rintro e1 w1 ⟨rfl, b1⟩
  have W1 := Lib.hid ((bal w _).trans (b1.mono (by simp)))
  rw [← HD.out]
  clear b1
  go_wp2_with fail
  refine (itoa_any n _ (TT.out.on W1.out) (by have := HK.out.n0; omega) (by have := HK.out.n1; omega)).mono ?_
  rintro e1 w2 ⟨rfl, b2⟩
  have W2 := Lib.hid (W1.out.trans (b2.mono W1.out.size))
  rw [← HA.out]
  clear b2
  go_wp2_with fail
  refine (itoa_any e _ (TT.out.on W2.out) (by have := HK.out.e0; omega) (by have := HK.out.e1; omega)).mono ?_
  rintro e1 w3 ⟨rfl, b3⟩
  have W3 := Lib.hid (W2.out.trans (b3.mono W2.out.size))
  rw [← HB.out]
  clear b3
  go_wp2_with fail
  refine (itoa_any (D.size : Int) _ (TT.out.on W3.out) (by omega) (by omega)).mono ?_
  rintro e1 w4 ⟨rfl, b4⟩
  have W4 := Lib.hid (W3.out.trans (b4.mono W3.out.size))
  rw [HL.out, ← HC.out]
  clear b4
  go_wp2
  go_ret
  exact ⟨by rw [kText_B, ← HA.out, ← HB.out, ← HC.out, ← HD.out]; rfl, W4.out⟩
end Go.Proofs.YtkedmlkbepjnfaaGreatDoor
