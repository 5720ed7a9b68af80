/-
  Contract: the document's Decimal, at any number that is no less than nought.
-/
import Derived.Test.YtamjmejkffhmeaaGreatDoorRsNum
import Derived.Deep.RegionHeld3
import Derived.Deep.DeepCutAuto
namespace Go.Proofs.YtamjmejkffhmeaaGreatDoor
open Go.RowKit Go.Lib

def digB (d : Nat) : ByteArray := bsB [UInt8.ofNat (48 + d)]
theorem conv_one {w : World} {b : Nat} {d : Nat} (h : w.cell? ⟨b, 0, none⟩ = some (.int .u8 (48 + (d : Int)))) :
    (convert 65 9 (.slice (some ⟨b, 0, none⟩) 1 1)).run Tryz.prog w = .ok (.string (digB d)) w := by
  have := run_convert_bytes_arg (P := Tryz.prog) w 65 5 Tryz.underlying65 Tryz.underlying5 b 0 1 1 [48 + (d : Int)] rfl (fun i hi => by
    have : i = 0 := by simpa using hi
    subst this
    simpa using h) 9 Tryz.underlying9
  rw [this]
  rfl
theorem conv_new (w : World) (T : TypeId) (d : Nat) : (convert 65 9 (.slice (some ⟨w.heap.size, 0, none⟩) 1 1)).run Tryz.prog (w.alloc (.cells #[.int .u8 (48 + (d : Int))] T)) = .ok (.string (digB d)) (w.alloc (.cells #[.int .u8 (48 + (d : Int))] T)) :=
  conv_one (by simp)
theorem conv_drew (w : World) (T : TypeId) (d : Nat) : (convert 65 9 (.slice (some ⟨w.heap.size, 0, none⟩) 1 1)).run Tryz.prog (w.alloc (.cells #[.int .u8 (48 + (d : Int))] T)).drew = .ok (.string (digB d)) (w.alloc (.cells #[.int .u8 (48 + (d : Int))] T)).drew :=
  conv_one (by simp)
theorem conv_behind {w w' : World} {T : TypeId} {d : Nat} (h : Below (w.alloc (.cells #[.int .u8 (48 + (d : Int))] T)).heap.size (w.alloc (.cells #[.int .u8 (48 + (d : Int))] T)) w') :
    (convert 65 9 (.slice (some ⟨w.heap.size, 0, none⟩) 1 1)).run Tryz.prog w' = .ok (.string (digB d)) w' :=
  conv_one ((h.cell (p := ⟨w.heap.size, 0, none⟩) (by simp)).trans (by simp))
theorem conv_behind2 {w w' : World} {T : TypeId} {d : Nat} (h : Below (w.alloc (.cells #[.int .u8 (48 + (d : Int))] T)).drew.heap.size (w.alloc (.cells #[.int .u8 (48 + (d : Int))] T)).drew w') :
    (convert 65 9 (.slice (some ⟨w.heap.size, 0, none⟩) 1 1)).run Tryz.prog w' = .ok (.string (digB d)) w' :=
  conv_behind ((Below.refl _ _).drew.trans h)
theorem dec_keep {W w : World} (h : Below W.heap.size W w) (o : Obj) : Below W.heap.size W (w.alloc o) := h.alloc h.size o
theorem dec_keep2 {W w w' : World} (h2 : Below w.heap.size w w') (h : Below W.heap.size W w) : Below W.heap.size W w' := h.trans (h2.mono h.size)

set_option maxHeartbeats 4000000 in
set_option maxRecDepth 100000 in
theorem decimal_any (n : Nat) : ∀ (w : World), n ≤ 9223372036854775807 →
    Calls Tryz.prog 26 #[.int .i64 n] w fun e w' => e = .returned (.string (bsB (decDigits n))) ∧ Below w.heap.size w w' := by
  induction n using Nat.strongRecOn with
  | _ n ih =>
    intro w hn
    by_cases h : n < 10
    · have HD := Lib.hid (show bsB (decDigits n) = digB n from by rw [decDigits, dif_pos h]; rfl)
      have hcv := fun (w : World) T => conv_new w T n
      clear ih
      go_enter Tryz.func26, Tryz.ntmps26
      go_wp2
      go_ret
      exact ⟨by rw [HD.out]; rfl, bal w _⟩
    · obtain ⟨m, hm⟩ : ∃ m, n / 10 = m := ⟨_, rfl⟩
      obtain ⟨d, hd⟩ : ∃ d, n % 10 = d := ⟨_, rfl⟩
      have HD := Lib.hid (show bsB (decDigits n) = bsB (decDigits m) ++ digB d from by rw [decDigits, dif_neg h, hm, hd, digB, bsB_append])
      have IH := Lib.hid (fun w => ih m (by omega) w (by omega))
      have hcv := fun (w : World) T => conv_new w T d
      have hcv2 := fun (w : World) T => conv_drew w T d
      have q1 : Int.tdiv (n : Int) 10 = (m : Int) := by rw [Int.tdiv_eq_ediv_of_nonneg (by omega)]; omega
      have q2 : Int.tmod (n : Int) 10 = (d : Int) := by rw [Int.tmod_eq_emod_of_nonneg (by omega)]; omega
      have d0 : d < 10 := by omega
      have m0 : m ≤ 922337203685477580 := by omega
      have q3 : IntKind.i64.wrap (m : Int) = m := IntWalk.i64_in _ (by omega)
      have q4 : IntKind.i64.wrap (d : Int) = d := IntWalk.i64_in _ (by omega)
      have q5 : IntKind.i64.wrap (48 + (d : Int)) = 48 + d := IntWalk.i64_in _ (by omega)
      have q6 : IntKind.u8.wrap (48 + (d : Int)) = 48 + d := IntWalk.u8_in _ (by omega)
      have hadd := fun w => run_string_add_sum (P := Tryz.prog) w (bsB (decDigits m)) (digB d) (by
        have := itoa_len_any (m : Int) (by omega) (by omega)
        unfold itoa at this
        rw [if_neg (by omega)] at this
        rw [bsB_size, digB, bsB_size]
        simp at this ⊢
        omega)
      clear hm hd
      clear ih
      go_enter Tryz.func26, Tryz.ntmps26
      go_wp2
      refine wp_region_held_drew (S := fun w' => Below w.heap.size w w') (by kernel_rfl) (Below.refl _ _).drew (fun hHeld => ?_)
      refine wpAnyH_take (i := 0) (oi := _) (v := .int .i64 n) rfl (by kernel_rfl) (by kernel_rfl) (by kernel_rfl) (fun _ _ _ h => h) (Or.inl ⟨by rfl, fun w' hSw => by go_simp⟩) hHeld ?_
      simp only [Act.put, List.getElem_toArray, List.getElem_cons_zero, List.setIfInBounds_toArray, List.set_cons_zero, List.set_cons_succ]
      refine wpAnyH_take (i := 1) (oi := _) (v := .int .i64 m) rfl (by kernel_rfl) (by kernel_rfl) (by kernel_rfl) (fun _ _ _ h => h) (Or.inl ⟨by rfl, fun w' hSw => by go_simp⟩) hHeld ?_
      simp only [Act.put, List.getElem_toArray, List.getElem_cons_zero, List.getElem_cons_succ, List.setIfInBounds_toArray, List.set_cons_zero, List.set_cons_succ]
      refine wpAnyH_take (i := 3) (oi := _) (v := .int .i64 n) rfl (by kernel_rfl) (by kernel_rfl) (by kernel_rfl) (fun _ _ _ h => h) (Or.inl ⟨by rfl, fun w' hSw => by go_simp⟩) hHeld ?_
      simp only [Act.put, List.getElem_toArray, List.getElem_cons_zero, List.getElem_cons_succ, List.setIfInBounds_toArray, List.set_cons_zero, List.set_cons_succ]
      refine wpAnyH_take (i := 4) (oi := _) (v := .int .i64 d) rfl (by kernel_rfl) (by kernel_rfl) (by kernel_rfl) (fun _ _ _ h => h) (Or.inl ⟨by rfl, fun w' hSw => by go_simp⟩) hHeld ?_
      simp only [Act.put, List.getElem_toArray, List.getElem_cons_zero, List.getElem_cons_succ, List.setIfInBounds_toArray, List.set_cons_zero, List.set_cons_succ]
      refine wpAnyH_take (i := 5) (oi := _) (v := .int .i64 (48 + (d : Int))) rfl (by kernel_rfl) (by kernel_rfl) (by kernel_rfl) (fun _ _ _ h => h) (Or.inl ⟨by rfl, fun w' hSw => by go_simp⟩) hHeld ?_
      simp only [Act.put, List.getElem_toArray, List.getElem_cons_zero, List.getElem_cons_succ, List.setIfInBounds_toArray, List.set_cons_zero, List.set_cons_succ]
      refine wpAnyH_take (i := 6) (oi := _) (v := .int .u8 (48 + (d : Int))) rfl (by kernel_rfl) (by kernel_rfl) (by kernel_rfl) (fun _ _ _ h => h) (Or.inl ⟨by rfl, fun w' hSw => by go_simp⟩) hHeld ?_
      simp only [Act.put, List.getElem_toArray, List.getElem_cons_zero, List.getElem_cons_succ, List.setIfInBounds_toArray, List.set_cons_zero, List.set_cons_succ]
      obtain ⟨wd, hwd⟩ : ∃ wd, wd = w.drew := ⟨_, rfl⟩
      rw [← hwd] at hHeld ⊢
      clear hwd
      refine wpAnyH_ready (rs := [2, 7]) (by kernel_rfl) (by simp) ?_
      refine AllReadyH.cons (o := _) rfl (fun K hK => ?_) (AllReadyH.cons (o := _) rfl (fun K hK => ?_) AllReadyH.nil)
      · go_simp
        refine (IH.out _).mono ?_
        rintro e w3 ⟨rfl, b3⟩
        refine hK.out _ _ (dec_keep2 b3 hHeld) (fun h3 => ?_)
        clear hK K
        refine wpAnyH_ready (rs := [7]) (by kernel_rfl) (by simp) ?_
        refine AllReadyH.cons (o := _) rfl (fun K hK => ?_) AllReadyH.nil
        go_simp
        refine hK.out _ _ (dec_keep h3 _) (fun h4 => ?_)
        clear hK K
        refine wpAnyH_ready (rs := [8]) (by kernel_rfl) (by simp) ?_
        refine AllReadyH.cons (o := _) rfl (fun K hK => ?_) AllReadyH.nil
        go_simp
        refine hK.out _ _ h4 (fun h5 => ?_)
        clear hK K
        refine wpAnyH_ready (rs := [9]) (by kernel_rfl) (by simp) ?_
        refine AllReadyH.cons (o := _) rfl (fun K hK => ?_) AllReadyH.nil
        go_simp
        refine hK.out _ _ h4 (fun h6 => ?_)
        clear hK K
        refine wpAnyH_ready (rs := [10]) (by kernel_rfl) (by simp) ?_
        refine AllReadyH.cons (o := _) rfl (fun K hK => ?_) AllReadyH.nil
        go_simp
        refine hK.out _ _ h4 (fun h7 => ?_)
        clear hK K
        refine wpAnyH_done (by kernel_rfl) ?_ _
        go_wp2
        go_ret
        exact ⟨by rw [HD.out]; rfl, h4⟩
      · go_simp
        refine hK.out _ _ (dec_keep hHeld _) (fun h3 => ?_)
        clear hK K
        refine wpAnyH_ready (rs := [2, 8]) (by kernel_rfl) (by simp) ?_
        refine AllReadyH.cons (o := _) rfl (fun K hK => ?_) (AllReadyH.cons (o := _) rfl (fun K hK => ?_) AllReadyH.nil)
        · go_simp
          refine (IH.out _).mono ?_
          rintro e w3 ⟨rfl, b3⟩
          have h4 := dec_keep2 b3 h3
          have hcw := conv_behind b3
          refine hK.out _ _ h4 (fun h5 => ?_)
          clear hK K b3
          refine wpAnyH_ready (rs := [8]) (by kernel_rfl) (by simp) ?_
          refine AllReadyH.cons (o := _) rfl (fun K hK => ?_) AllReadyH.nil
          go_simp
          refine hK.out _ _ h4 (fun h6 => ?_)
          clear hK K
          refine wpAnyH_ready (rs := [9]) (by kernel_rfl) (by simp) ?_
          refine AllReadyH.cons (o := _) rfl (fun K hK => ?_) AllReadyH.nil
          go_simp
          refine hK.out _ _ h4 (fun h7 => ?_)
          clear hK K
          refine wpAnyH_ready (rs := [10]) (by kernel_rfl) (by simp) ?_
          refine AllReadyH.cons (o := _) rfl (fun K hK => ?_) AllReadyH.nil
          go_simp
          refine hK.out _ _ h4 (fun h8 => ?_)
          clear hK K
          refine wpAnyH_done (by kernel_rfl) ?_ _
          go_wp2
          go_ret
          exact ⟨by rw [HD.out]; rfl, h4⟩
        · go_simp
          refine hK.out _ _ h3 (fun h5 => ?_)
          clear hK K
          refine wpAnyH_ready (rs := [2]) (by kernel_rfl) (by simp) ?_
          refine AllReadyH.cons (o := _) rfl (fun K hK => ?_) AllReadyH.nil
          go_simp
          refine (IH.out _).mono ?_
          rintro e w3 ⟨rfl, b3⟩
          have h4 := dec_keep2 b3 h3
          refine hK.out _ _ h4 (fun h6 => ?_)
          clear hK K b3
          refine wpAnyH_ready (rs := [9]) (by kernel_rfl) (by simp) ?_
          refine AllReadyH.cons (o := _) rfl (fun K hK => ?_) AllReadyH.nil
          go_simp
          refine hK.out _ _ h4 (fun h7 => ?_)
          clear hK K
          refine wpAnyH_ready (rs := [10]) (by kernel_rfl) (by simp) ?_
          refine AllReadyH.cons (o := _) rfl (fun K hK => ?_) AllReadyH.nil
          go_simp
          refine hK.out _ _ h4 (fun h8 => ?_)
          clear hK K
          refine wpAnyH_done (by kernel_rfl) ?_ _
          go_wp2
          go_ret
          exact ⟨by rw [HD.out]; rfl, h4⟩
end Go.Proofs.YtamjmejkffhmeaaGreatDoor
