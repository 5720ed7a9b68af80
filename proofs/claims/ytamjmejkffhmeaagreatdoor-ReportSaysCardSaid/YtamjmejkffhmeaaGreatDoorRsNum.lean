/-
  Contracts: the document's natural and staysWord.
-/
import Derived.Test.YtamjmejkffhmeaaGreatDoorRsPlain
import Derived.Test.YtamjmejkffhmeaaGreatDoorRep
import Derived.Test.YtamjmejkffhmeaaGreatDoorWordsL
namespace Go.Proofs.YtamjmejkffhmeaaGreatDoor
open Go.RowKit

theorem natGo_step {s : ByteArray} {k : Nat} (h : k < s.size) (n : Int) : natGo n (s.data.toList.drop k) = if s[k].toNat < 48 ∨ 57 < s[k].toNat then -1 else natGo (10 * n + ((s[k].toNat : Int) - 48)) (s.data.toList.drop (k + 1)) := by
  have h1 : k < s.data.toList.length := by simpa using h
  rw [List.drop_eq_getElem_cons h1]
  have e : s.data.toList[k] = s[k] := rfl
  rw [e]
  rfl
theorem natGo_end {s : ByteArray} {k : Nat} (h : s.size ≤ k) (n : Int) : natGo n (s.data.toList.drop k) = n := by
  rw [List.drop_eq_nil_of_le (by simpa using h)]
  rfl
theorem getD_byte {s : ByteArray} (h : 0 < s.size) : s.data.toList.getD 0 0 = s[0] := by
  have h1 : 0 < s.data.toList.length := by simpa using h
  rw [List.getD_eq_getElem?_getD, List.getElem?_eq_getElem h1]
  rfl
theorem byte_is {b c : UInt8} : b = c ↔ b.toNat = c.toNat := UInt8.toNat_inj.symm

set_option maxHeartbeats 4000000 in
theorem natural_any (s : ByteArray) (most : Int) (w : World) :
    Calls Tryz.prog 21 #[.string s, .int .i64 most] w fun e w' => e = .returned (.int .i64 (natP s.data.toList most)) ∧ w' = w := by
  have hl : s.data.toList.length = s.size := by simp
  by_cases h1 : s.size < 1
  · have HP := Lib.hid (show natP s.data.toList most = -1 from by unfold natP; rw [if_pos (.inl (by omega))])
    clear hl
    go_enter Tryz.func21, Tryz.ntmps21
    go_wp2
    go_ret
    exact ⟨ret_int HP.out.symm, rfl⟩
  by_cases h2 : 10 < s.size
  · have HP := Lib.hid (show natP s.data.toList most = -1 from by unfold natP; rw [if_pos (.inr (.inl (by omega)))])
    clear hl
    go_enter Tryz.func21, Tryz.ntmps21
    go_wp2
    go_ret
    exact ⟨ret_int HP.out.symm, rfl⟩
  have h0 : 0 < s.size := by omega
  have hg := getD_byte h0
  by_cases h3 : s[0].toNat = 48 ∧ 1 < s.size
  · have HP := Lib.hid (show natP s.data.toList most = -1 from by unfold natP; rw [if_pos (.inr (.inr ⟨by rw [hg, byte_is]; exact h3.1, by omega⟩))])
    have q : ((s[0].toNat : Int) == 48) = true := by rw [h3.1]; rfl
    have q2 : 1 < s.size := h3.2
    clear hl hg h3
    go_enter Tryz.func21, Tryz.ntmps21
    go_wp2
    go_ret
    exact ⟨ret_int HP.out.symm, rfl⟩
  have HP := Lib.hid (show natP s.data.toList most = if most < natGo 0 s.data.toList then -1 else natGo 0 s.data.toList from by
    unfold natP
    rw [if_neg]
    rintro (h | h | ⟨h, hb⟩)
    · omega
    · omega
    · rw [hg, byte_is] at h; exact h3 ⟨h, by omega⟩)
  have q : ((s[0].toNat : Int) == 48) = false ∨ (((s[0].toNat : Int) == 48) = true ∧ ¬ 1 < s.size) := by
    by_cases h : s[0].toNat = 48
    · exact .inr ⟨by rw [h]; rfl, fun hb => h3 ⟨h, hb⟩⟩
    · exact .inl (by simp; omega)
  clear hl hg h3
  rcases q with q | ⟨q, q2⟩
  all_goals
    go_enter Tryz.func21, Tryz.ntmps21
    go_wp2
    go_loop [5, 6] (fun nv i => ∃ k n : Nat, k ≤ s.size ∧ i = .int .i64 k ∧ nv = .int .i64 n ∧ n < 10 ^ k ∧ natGo 0 s.data.toList = natGo n (s.data.toList.drop k)) (fun nv i => s.size - (intOf i).toNat)
    case atStart => exact ⟨0, 0, by omega, rfl, rfl, by simp, by simp⟩
    case round =>
      obtain ⟨k, n, hk, rfl, rfl, hn, hg⟩ := hrel
      have hnb : n < 10000000000 := Nat.lt_of_lt_of_le hn (Nat.pow_le_pow_right (by omega) (show k ≤ 10 by omega))
      have HN := Lib.hid hn
      have HG := Lib.hid hg
      clear hn hg
      by_cases hlt : k < s.size
      · by_cases b1 : s[k].toNat < 48
        · have HF := Lib.hid (show natP s.data.toList most = -1 from by
            rw [HP.out, show natGo 0 s.data.toList = -1 by rw [HG.out, natGo_step hlt, if_pos (.inl b1)]]
            split <;> rfl)
          have c1 : ((s[k].toNat : Int) < 48) := by omega
          clear b1
          go_wp2
          go_ret
          exact ⟨ret_int HF.out.symm, rfl⟩
        · have c1 : ¬ ((s[k].toNat : Int) < 48) := by omega
          by_cases b2 : 57 < s[k].toNat
          · have HF := Lib.hid (show natP s.data.toList most = -1 from by
              rw [HP.out, show natGo 0 s.data.toList = -1 by rw [HG.out, natGo_step hlt, if_pos (.inr b2)]]
              split <;> rfl)
            have c2 : 57 < (s[k].toNat : Int) := by omega
            clear b1 b2
            go_wp2
            go_ret
            exact ⟨ret_int HF.out.symm, rfl⟩
          · have c2 : ¬ 57 < (s[k].toNat : Int) := by omega
            have HX := Lib.hid (show natGo 0 s.data.toList = natGo ((10 * n + (s[k].toNat - 48) : Nat) : Int) (s.data.toList.drop (k + 1)) from by
              rw [HG.out, natGo_step hlt, if_neg (by omega)]
              congr 1; omega)
            have HY := Lib.hid (show 10 * n + (s[k].toNat - 48) < 10 ^ (k + 1) from by have := HN.out; rw [Nat.pow_succ]; omega)
            have HD : (10 * (n : Int) + ((s[k].toNat : Int) - 48)) = ((10 * n + (s[k].toNat - 48) : Nat) : Int) := by omega
            have HDH := Lib.hid HD
            have b3 : s[k].toNat ≤ 57 := by omega
            clear b1 b2 HD
            go_wp2
            go_round
            case rel => exact ⟨k + 1, 10 * n + (s[k].toNat - 48), by omega, by go_num, by first | (rw [← HDH.out]; done) | (rw [← HDH.out]; go_num), HY.out, HX.out⟩
            case measure => simp [intOf]; omega
      · have HE := Lib.hid (show natGo 0 s.data.toList = n from by rw [HG.out, natGo_end (by omega)])
        by_cases hm : most < n
        · have HF := Lib.hid (show natP s.data.toList most = -1 from by rw [HP.out, HE.out, if_pos hm])
          go_wp2
          go_ret
          exact ⟨ret_int HF.out.symm, rfl⟩
        · have HF := Lib.hid (show natP s.data.toList most = n from by rw [HP.out, HE.out, if_neg hm])
          go_wp2
          go_ret
          exact ⟨ret_int HF.out.symm, rfl⟩

theorem staysword_any (b : Bool) (w : World) :
    Calls Tryz.prog 27 #[.bool b] w fun e w' => e = .returned (.string (bsB (stayW b))) ∧ w' = w := by
  cases b
  all_goals
    go_enter Tryz.func27, Tryz.ntmps27
    go_wp2
    go_ret
    exact ⟨rfl, rfl⟩
end Go.Proofs.YtamjmejkffhmeaaGreatDoor
