/-
  Contracts of disk.full and of the document's noughts.
-/
import Derived.Test.YtkedmlkbepjnfaaGreatDoorDisk
namespace Go.Proofs.YtkedmlkbepjnfaaGreatDoor
open Go.RowKit

theorem Tryz.infoU8 : (Tryz.prog.info? 5).map (fun i => (i.zero, i.size, i.bytes)) = some (some (.int .u8 0), 1, 1) := by kernel_rfl

theorem zerosB_size (n : Nat) : (zerosB n).size = n := by unfold zerosB; rw [strOfNums_size]; simp
theorem own_zeros {w : World} {B b n : Nat} (h : w.ownsRow B 5 1 (.slice (some ⟨b, 0, none⟩) n n) n (madeCells #[.int .u8 0] n).toList) :
    ∀ i, i < n → w.cell? ⟨b, 0 + i, none⟩ = some (.int .u8 ((List.replicate n 0).getD i 0)) := by
  intro i hi
  rcases h.2 with ⟨e, -⟩ | ⟨g, cap, cur, e, -, hg, -, -, -, ht⟩
  · cases e
  · obtain ⟨rfl, rfl⟩ : b = g ∧ n = cap := by simpa using e
    have h1 : (cur.toList.take (n * 1))[i]? = ((madeCells #[.int .u8 0] n).toList)[i]? := by rw [ht]
    rw [List.getElem?_take_of_lt (by omega)] at h1
    have h2 : ((madeCells #[.int .u8 0] n).toList)[i]? = some (.int .u8 0) := by
      simp [madeCells, hi, Nat.mod_one]
    rw [h2] at h1
    have h3 : (List.replicate n (0 : Int)).getD i 0 = 0 := by simp [List.getD, hi]
    rw [h3]
    simp only [World.cell?, hg, Nat.zero_add]
    simpa using h1
theorem conv_zeros {w : World} {B b n : Nat} (h : w.ownsRow B 5 1 (.slice (some ⟨b, 0, none⟩) n n) n (madeCells #[.int .u8 0] n).toList) :
    (convert 82 9 (.slice (some ⟨b, 0, none⟩) n n)).run Tryz.prog w = .ok (.string (zerosB n)) w :=
  run_convert_bytes_arg w 82 5 Tryz.underlying82 Tryz.underlying5 b 0 n n (List.replicate n 0) (by simp) (own_zeros h) 9 Tryz.underlying9

theorem full_any (s : ByteArray) (w : World) (hs : s.size ≤ 64) :
    Calls Tryz.prog 24 #[.string s] w fun e w' => e = .returned (.string (fullB s)) ∧ Below w.heap.size w w' := by
  obtain ⟨i0, hi, hz0, hz1, hz2⟩ := info_parts Tryz.infoU8
  obtain ⟨n, hn⟩ : ∃ n, 64 - s.size = n := ⟨_, rfl⟩
  have q : IntKind.i64.wrap (64 - (s.size : Int)) = (n : Int) := by rw [IntWalk.i64_in _ (by omega)]; omega
  have HN := Lib.hid (show n ≤ 64 by omega)
  rw [show fullB s = s ++ zerosB n from by rw [← hn]; rfl]
  have hadd := fun w => run_string_add_sum (P := Tryz.prog) w s (zerosB n) (by rw [zerosB_size]; omega)
  clear hs hn
  go_enter Tryz.func24, Tryz.ntmps24
  go_wp2_with (refine wpList_make_full _ rfl _ _ 82 rfl w.heap.size 5 i0 (.int .u8 0) 1 Tryz.underlying82 hi hz0 hz1 .i64 .i64 n n n rfl rfl rfl rfl ?b2 ?b3 (Nat.le_refl _) ?_)
  case b2 => have := HN.out; rw [hz2]; omega
  case b3 => have := HN.out; unfold maxLen; omega
  intro w1 hown hg
  have hcv := conv_zeros hown
  have B1 := Lib.hid (show Below w.heap.size w w1 from (Below.refl _ _).grown hg (by simp) (fun k hk => by simp at hk))
  clear hown hg
  go_wp2
  go_ret
  exact ⟨rfl, B1.out⟩
end Go.Proofs.YtkedmlkbepjnfaaGreatDoor
