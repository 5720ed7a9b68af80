/-
  Contract: the document's CommandFault, as far as order needs it.
-/
import Derived.Test.YtclhmpknkinjcaaRLess
import Derived.Test.YtclhmpknkinjcaaOrdKit
import Derived.Deep.CutBlock
import Derived.Deep.DeepCutAuto
namespace Go.Proofs.Ytclhmpknkinjcaa
open Go.RowKit Go.Sort

def SmPost (w : World) (e : Ending) (w' : World) : Prop := (∃ b, e = .returned (.bool b)) ∧ w' = w
set_option maxHeartbeats 1000000 in
theorem small_some (s : ByteArray) (w : World) (hs : s.size ≤ 9223372036854775807) :
    Calls Try.prog 86 #[.string s] w (SmPost w) := by
  go_enter Try.func86, Try.ntmps86
  go_wp2
  go_loop [3] (fun i => ∃ k : Nat, k ≤ s.size ∧ i = .int .i64 k) (fun i => s.size - (intOf i).toNat)
  case atStart => exact ⟨0, by omega, rfl⟩
  case round =>
    obtain ⟨k, hk, rfl⟩ := hrel
    by_cases hlt : k < s.size
    · by_cases b1 : (s[k].toNat : Int) < 97
      · go_wp2
        go_ret
        exact ⟨⟨_, rfl⟩, rfl⟩
      by_cases b2 : 122 < (s[k].toNat : Int)
      · go_wp2
        go_ret
        exact ⟨⟨_, rfl⟩, rfl⟩
      · go_wp2
        go_round
        case rel => exact ⟨k + 1, by omega, by go_num⟩
        case measure => simp [intOf]; omega
    · go_wp2
      go_ret
      exact ⟨⟨_, rfl⟩, rfl⟩

def RcPost (c : Cmd) (w : World) (e : Ending) (w' : World) : Prop := ∃ f : Int, e = .returned (.int .i64 f) ∧ 0 ≤ f ∧ (f = 0 → CmdOk c) ∧ Below w.heap.size w w'
theorem RcPost.bad {c : Cmd} {w w' : World} {e : Ending} (f : Int) (he : e = .returned (.int .i64 f)) (hf : 0 < f) (hb : Below w.heap.size w w') : RcPost c w e w' := ⟨f, he, by omega, fun h => by omega, hb⟩

set_option maxRecDepth 100000 in
set_option maxHeartbeats 40000000 in
theorem rcmd_any (c : Cmd) (w : World) (hs : c.data.size ≤ 1000 ∧ c.want.size ≤ 1000) :
    Calls Try.prog 58 #[cmdV c] w (RcPost c w) := by
  obtain ⟨op, who, key, new, typ, at_, stays, data, want⟩ := c
  dsimp only at hs
  by_cases h1 : op < 1
  · go_enter Try.func58, Try.ntmps58
    go_wp2
    go_ret
    exact RcPost.bad 2 rfl (by omega) (bal w _)
  by_cases h9 : 9 < op
  · go_enter Try.func58, Try.ntmps58
    go_wp2
    go_ret
    exact RcPost.bad 2 rfl (by omega) (bal w _)
  by_cases w1 : who < 1
  · go_enter Try.func58, Try.ntmps58
    go_wp2
    go_ret
    exact RcPost.bad 1 rfl (by omega) (bal w _)
  by_cases w4 : 4 < who
  · go_enter Try.func58, Try.ntmps58
    go_wp2
    go_ret
    exact RcPost.bad 1 rfl (by omega) (bal w _)
  obtain ⟨K, hK⟩ : ∃ K, decide (op ≤ 6) = K := ⟨_, rfl⟩
  obtain ⟨N, hN⟩ : ∃ N, decide (op = 1 ∨ op = 2 ∨ op = 6) = N := ⟨_, rfl⟩
  obtain ⟨A, hA⟩ : ∃ A, decide (7 ≤ op) = A := ⟨_, rfl⟩
  obtain ⟨D, hD⟩ : ∃ D, decide (op = 3 ∨ op = 4 ∨ op = 6) = D := ⟨_, rfl⟩
  have HD := Lib.hid hD
  have HO := Lib.hid (show 1 ≤ op ∧ op ≤ 9 by omega)
  have HW := Lib.hid (show 1 ≤ who ∧ who ≤ 4 by omega)
  go_enter Try.func58, Try.ntmps58
  go_upto_region 6 with fail
  obtain ⟨wb, hwb⟩ : ∃ wb, wb = w.alloc (.cells #[.int .i64 op, .int .i64 who, .int .i64 key, .int .i64 new, .int .i64 typ, .int .i64 at_, .bool stays, .string data, .string want] 49) := ⟨_, rfl⟩
  go_cut [4] (fun n wx => n = .bool N ∧ wx = wb)
  case first => as_aux_lemma =>
    subst hwb
    clear hK
    rcases (by omega : op = 1 ∨ op = 2 ∨ op = 3 ∨ op = 4 ∨ op = 5 ∨ op = 6 ∨ op = 7 ∨ op = 8 ∨ op = 9) with rfl | rfl | rfl | rfl | rfl | rfl | rfl | rfl | rfl
    all_goals
      simp at hN
      subst hN
      go_wp2
      go_meet
      exact ⟨rfl, rfl⟩
  case rest =>
  obtain ⟨rfl, e0⟩ := hcut
  obtain rfl := e0.trans hwb
  clear e0 hwb wb
  go_upto_region 8 with fail
  obtain ⟨wb, hwb⟩ : ∃ wb, wb = w.alloc (.cells #[.int .i64 op, .int .i64 who, .int .i64 key, .int .i64 new, .int .i64 typ, .int .i64 at_, .bool stays, .string data, .string want] 49) := ⟨_, rfl⟩
  go_cut [6] (fun n wx => n = .bool D ∧ wx = wb)
  case first => as_aux_lemma =>
    subst hwb
    clear hK hN hA
    rcases (by omega : op = 1 ∨ op = 2 ∨ op = 3 ∨ op = 4 ∨ op = 5 ∨ op = 6 ∨ op = 7 ∨ op = 8 ∨ op = 9) with rfl | rfl | rfl | rfl | rfl | rfl | rfl | rfl | rfl
    all_goals
      simp at hD
      subst hD
      go_wp2
      go_meet
      exact ⟨rfl, rfl⟩
  case rest =>
  obtain ⟨rfl, e0⟩ := hcut
  obtain rfl := e0.trans hwb
  clear e0 hwb wb hK hN hA hD h1 h9 w1 w4
  obtain ⟨P, hP⟩ : ∃ Q, (!K && (key != 0)) = Q := ⟨_, rfl⟩
  go_upto_region 9 with fail
  obtain ⟨wb, hwb⟩ : ∃ wb, wb = w.alloc (.cells #[.int .i64 op, .int .i64 who, .int .i64 key, .int .i64 new, .int .i64 typ, .int .i64 at_, .bool stays, .string data, .string want] 49) := ⟨_, rfl⟩
  go_cut [64] (fun v wx => v = .bool P ∧ wx = wb)
  case first => as_aux_lemma =>
    subst hwb
    cases K
    · have e1 : (key != 0) = P := by simpa using hP
      go_wp2
      go_meet
      exact ⟨rfl, rfl⟩
    · obtain rfl : false = P := by simpa using hP
      go_wp2
      go_meet
      exact ⟨rfl, rfl⟩
  case rest =>
  obtain ⟨rfl, e0⟩ := hcut
  obtain rfl := e0.trans hwb
  clear e0 hwb wb hP
  cases P
  rotate_left 1
  · as_aux_lemma =>
      go_wp2
      go_ret
      exact RcPost.bad 2 rfl (by omega) (bal w _)
  by_cases P1 : key < 0
  · as_aux_lemma =>
      go_wp2
      go_ret
      exact RcPost.bad 1 rfl (by omega) (bal w _)
  by_cases P2 : 999 < key
  · as_aux_lemma =>
      go_wp2
      go_ret
      exact RcPost.bad 1 rfl (by omega) (bal w _)
  have HK := Lib.hid (show 0 ≤ key ∧ key ≤ 999 by omega)
  obtain ⟨R, hR⟩ : ∃ Q, (!N && (new != 0)) = Q := ⟨_, rfl⟩
  go_upto_region 13 with fail
  obtain ⟨wb, hwb⟩ : ∃ wb, wb = w.alloc (.cells #[.int .i64 op, .int .i64 who, .int .i64 key, .int .i64 new, .int .i64 typ, .int .i64 at_, .bool stays, .string data, .string want] 49) := ⟨_, rfl⟩
  go_cut [79] (fun v wx => v = .bool R ∧ wx = wb)
  case first => as_aux_lemma =>
    subst hwb
    cases N
    · have e1 : (new != 0) = R := by simpa using hR
      go_wp2
      go_meet
      exact ⟨rfl, rfl⟩
    · obtain rfl : false = R := by simpa using hR
      go_wp2
      go_meet
      exact ⟨rfl, rfl⟩
  case rest =>
  obtain ⟨rfl, e0⟩ := hcut
  obtain rfl := e0.trans hwb
  clear e0 hwb wb hR
  cases R
  rotate_left 1
  · as_aux_lemma =>
      go_wp2
      go_ret
      exact RcPost.bad 2 rfl (by omega) (bal w _)
  by_cases R1 : new < 0
  · as_aux_lemma =>
      go_wp2
      go_ret
      exact RcPost.bad 1 rfl (by omega) (bal w _)
  by_cases R2 : 999 < new
  · as_aux_lemma =>
      go_wp2
      go_ret
      exact RcPost.bad 1 rfl (by omega) (bal w _)
  have HN := Lib.hid (show 0 ≤ new ∧ new ≤ 999 by omega)
  obtain ⟨S, hS⟩ : ∃ Q, (!A && (at_ != 0)) = Q := ⟨_, rfl⟩
  go_upto_region 17 with fail
  obtain ⟨wb, hwb⟩ : ∃ wb, wb = w.alloc (.cells #[.int .i64 op, .int .i64 who, .int .i64 key, .int .i64 new, .int .i64 typ, .int .i64 at_, .bool stays, .string data, .string want] 49) := ⟨_, rfl⟩
  go_cut [94] (fun v wx => v = .bool S ∧ wx = wb)
  case first => as_aux_lemma =>
    subst hwb
    cases A
    · have e1 : (at_ != 0) = S := by simpa using hS
      go_wp2
      go_meet
      exact ⟨rfl, rfl⟩
    · obtain rfl : false = S := by simpa using hS
      go_wp2
      go_meet
      exact ⟨rfl, rfl⟩
  case rest =>
  obtain ⟨rfl, e0⟩ := hcut
  obtain rfl := e0.trans hwb
  clear e0 hwb wb hS
  cases S
  rotate_left 1
  · as_aux_lemma =>
      go_wp2
      go_ret
      exact RcPost.bad 2 rfl (by omega) (bal w _)
  by_cases S1 : at_ < 0
  · as_aux_lemma =>
      go_wp2
      go_ret
      exact RcPost.bad 1 rfl (by omega) (bal w _)
  by_cases S2 : 7 < at_
  · as_aux_lemma =>
      go_wp2
      go_ret
      exact RcPost.bad 1 rfl (by omega) (bal w _)
  clear P1 P2 R1 R2
  obtain ⟨M, hM⟩ : ∃ M, typeMay typ = M := ⟨_, rfl⟩
  have TM := Lib.hid (fun w => typemay_any typ w)
  rw [hM] at TM
  have HM := Lib.hid hM
  clear hM
  go_wp2_with fail
  refine (TM.out _).mono ?_
  rintro e w5 ⟨rfl, rfl⟩
  clear S1 S2
  go_upto_region 22 with fail
  obtain ⟨wb, hwb⟩ : ∃ wb, wb = w.alloc (.cells #[.int .i64 op, .int .i64 who, .int .i64 key, .int .i64 new, .int .i64 typ, .int .i64 at_, .bool stays, .string data, .string want] 49) := ⟨_, rfl⟩
  go_cut [148] (fun v wx => (∃ P, v = .bool P ∧ (D = true → M = false → P = true)) ∧ wx = wb)
  case first => as_aux_lemma =>
    subst hwb
    obtain ⟨T0, hT0⟩ : ∃ B, (typ != 0) = B := ⟨_, rfl⟩
    obtain ⟨D0, hD0⟩ : ∃ B, (data.toList != []) = B := ⟨_, rfl⟩
    obtain ⟨W0, hW0⟩ : ∃ B, (want.toList != []) = B := ⟨_, rfl⟩
    have hD1 : (!data.toList.isEmpty) = D0 := by rw [← hD0]; cases data.toList <;> rfl
    have hW1 : (!want.toList.isEmpty) = W0 := by rw [← hW0]; cases want.toList <;> rfl
    obtain ⟨G2, hG2⟩ : ∃ B, decide (2 < op) = B := ⟨_, rfl⟩
    obtain ⟨L8, hL8⟩ : ∃ B, decide (op < 8) = B := ⟨_, rfl⟩
    obtain ⟨L9, hL9⟩ : ∃ B, decide (op < 9) = B := ⟨_, rfl⟩
    cases D
    · cases T0
      · cases G2
        · skip
          obtain rfl : true = L8 := by rw [← hL8]; exact (decide_eq_true (by have := HO.out; have := HD.out; simp at hG2 this; omega)).symm
          cases D0
          · skip
            obtain rfl : true = L9 := by rw [← hL9]; exact (decide_eq_true (by have := HO.out; simp at hG2 hL8; have := HD.out; simp at this; omega)).symm
            cases W0
            · skip
              as_aux_lemma =>
                go_wp2
                go_meet
                exact ⟨⟨_, rfl, fun h1 h2 => by first | rfl | (exact absurd h1 (by decide)) | (exact absurd h2 (by decide))⟩, rfl⟩
            · skip
              as_aux_lemma =>
                go_wp2
                go_meet
                exact ⟨⟨_, rfl, fun h1 h2 => by first | rfl | (exact absurd h1 (by decide)) | (exact absurd h2 (by decide))⟩, rfl⟩
          · skip
            as_aux_lemma =>
              go_wp2
              go_meet
              exact ⟨⟨_, rfl, fun h1 h2 => by first | rfl | (exact absurd h1 (by decide)) | (exact absurd h2 (by decide))⟩, rfl⟩
        · cases stays
          · skip
            cases L8
            · skip
              cases L9
              · skip
                as_aux_lemma =>
                  go_wp2
                  go_meet
                  exact ⟨⟨_, rfl, fun h1 h2 => by first | rfl | (exact absurd h1 (by decide)) | (exact absurd h2 (by decide))⟩, rfl⟩
              · skip
                cases W0
                · skip
                  as_aux_lemma =>
                    go_wp2
                    go_meet
                    exact ⟨⟨_, rfl, fun h1 h2 => by first | rfl | (exact absurd h1 (by decide)) | (exact absurd h2 (by decide))⟩, rfl⟩
                · skip
                  as_aux_lemma =>
                    go_wp2
                    go_meet
                    exact ⟨⟨_, rfl, fun h1 h2 => by first | rfl | (exact absurd h1 (by decide)) | (exact absurd h2 (by decide))⟩, rfl⟩
            · skip
              cases D0
              · skip
                obtain rfl : true = L9 := by rw [← hL9]; exact (decide_eq_true (by have := HO.out; simp at hG2 hL8; have := HD.out; simp at this; omega)).symm
                cases W0
                · skip
                  as_aux_lemma =>
                    go_wp2
                    go_meet
                    exact ⟨⟨_, rfl, fun h1 h2 => by first | rfl | (exact absurd h1 (by decide)) | (exact absurd h2 (by decide))⟩, rfl⟩
                · skip
                  as_aux_lemma =>
                    go_wp2
                    go_meet
                    exact ⟨⟨_, rfl, fun h1 h2 => by first | rfl | (exact absurd h1 (by decide)) | (exact absurd h2 (by decide))⟩, rfl⟩
              · skip
                as_aux_lemma =>
                  go_wp2
                  go_meet
                  exact ⟨⟨_, rfl, fun h1 h2 => by first | rfl | (exact absurd h1 (by decide)) | (exact absurd h2 (by decide))⟩, rfl⟩
          · skip
            as_aux_lemma =>
              go_wp2
              go_meet
              exact ⟨⟨_, rfl, fun h1 h2 => by first | rfl | (exact absurd h1 (by decide)) | (exact absurd h2 (by decide))⟩, rfl⟩
      · skip
        as_aux_lemma =>
          go_wp2
          go_meet
          exact ⟨⟨_, rfl, fun h1 h2 => by first | rfl | (exact absurd h1 (by decide)) | (exact absurd h2 (by decide))⟩, rfl⟩
    · cases M
      · skip
        as_aux_lemma =>
          go_wp2
          go_meet
          exact ⟨⟨_, rfl, fun h1 h2 => by first | rfl | (exact absurd h1 (by decide)) | (exact absurd h2 (by decide))⟩, rfl⟩
      · skip
        obtain rfl : true = G2 := by rw [← hG2]; exact (decide_eq_true (by have := HD.out; simp at this; omega)).symm
        cases stays
        · skip
          obtain rfl : true = L8 := by rw [← hL8]; exact (decide_eq_true (by have := HO.out; have := HD.out; simp at hG2 this; omega)).symm
          cases D0
          · skip
            obtain rfl : true = L9 := by rw [← hL9]; exact (decide_eq_true (by have := HO.out; simp at hG2 hL8; have := HD.out; simp at this; omega)).symm
            cases W0
            · skip
              as_aux_lemma =>
                go_wp2
                go_meet
                exact ⟨⟨_, rfl, fun h1 h2 => by first | rfl | (exact absurd h1 (by decide)) | (exact absurd h2 (by decide))⟩, rfl⟩
            · skip
              as_aux_lemma =>
                go_wp2
                go_meet
                exact ⟨⟨_, rfl, fun h1 h2 => by first | rfl | (exact absurd h1 (by decide)) | (exact absurd h2 (by decide))⟩, rfl⟩
          · skip
            as_aux_lemma =>
              go_wp2
              go_meet
              exact ⟨⟨_, rfl, fun h1 h2 => by first | rfl | (exact absurd h1 (by decide)) | (exact absurd h2 (by decide))⟩, rfl⟩
        · skip
          as_aux_lemma =>
            go_wp2
            go_meet
            exact ⟨⟨_, rfl, fun h1 h2 => by first | rfl | (exact absurd h1 (by decide)) | (exact absurd h2 (by decide))⟩, rfl⟩
  case rest =>
  obtain ⟨⟨P, rfl, hP⟩, e0⟩ := hcut
  obtain rfl := e0.trans hwb
  have HP := Lib.hid hP
  clear e0 hwb wb hP
  cases P
  rotate_left 1
  · as_aux_lemma =>
      go_wp2
      go_ret
      exact RcPost.bad 2 rfl (by omega) (bal w _)
  have OK := Lib.hid (show CmdOk ⟨op, who, key, new, typ, at_, stays, data, want⟩ from ⟨HO.out, HW.out, HK.out, HN.out, fun ho => by
    have hD : D = true := by rw [← HD.out]; exact decide_eq_true ho
    rw [HM.out]
    cases M
    · exact absurd (HP.out hD rfl) (by decide)
    · rfl⟩)
  by_cases l1 : 8 < data.size
  · have l2 : (8 : Int) < (data.size : Int) := by omega
    go_wp2
    go_ret
    exact RcPost.bad 1 rfl (by omega) (bal w _)
  by_cases l3 : 8 < want.size
  · have l2 : (8 : Int) < (want.size : Int) := by omega
    go_wp2
    go_ret
    exact RcPost.bad 1 rfl (by omega) (bal w _)
  go_wp2_with fail
  refine (small_some data _ (by omega)).mono ?_
  rintro e w6 ⟨⟨b1, rfl⟩, rfl⟩
  go_wp2_with fail
  refine (small_some want _ (by omega)).mono ?_
  rintro e w7 ⟨⟨b2, rfl⟩, rfl⟩
  cases b1
  · go_wp2
    go_ret
    exact RcPost.bad 2 rfl (by omega) (bal w _)
  cases b2
  · go_wp2
    go_ret
    exact RcPost.bad 2 rfl (by omega) (bal w _)
  · go_wp2
    go_ret
    exact ⟨0, rfl, by omega, fun _ => OK.out, bal w _⟩
end Go.Proofs.Ytclhmpknkinjcaa
