/-
  Contract: disk.New.
-/
import Derived.Test.YtkedmlkbepjnfaaGreatDoorDiskT
namespace Go.Proofs.YtkedmlkbepjnfaaGreatDoor
open Go.RowKit

theorem and_small : ∀ n : Fin 41, bits BinOp.and IntKind.u64 (n.val : Int) 4294967295 = (n.val : Int) := by decide +kernel
theorem wrap_small : ∀ n : Fin 41, IntKind.u64.wrap (n.val : Int) = (n.val : Int) := by decide +kernel

set_option maxRecDepth 100000 in
theorem mul64_one (n : Nat) (w : World) (hn : n ≤ 40) :
    Calls Tryz.prog 47 #[.int .u64 1, .int .u64 n] w fun e w' => e = .returned (.tuple #[.int .u64 0, .int .u64 n]) ∧ w' = w := by
  have q1 : bits BinOp.and IntKind.u64 1 4294967295 = 1 := and_small 1
  have q2 : bits BinOp.and IntKind.u64 (n : Int) 4294967295 = (n : Int) := and_small ⟨n, by omega⟩
  have q3 : (n : Int) / 4294967296 = 0 := by omega
  have q4 : IntKind.u64.wrap (n : Int) = (n : Int) := wrap_small ⟨n, by omega⟩
  have q5 : IntKind.u64.wrap 0 = 0 := wrap_small 0
  have q6 : bits BinOp.and IntKind.u64 0 4294967295 = 0 := and_small 0
  go_enter Tryz.func47, Tryz.ntmps47
  go_wp2
  exact bodyPost_ret (v := .tuple #[.int .u64 0, .int .u64 n]) (by simp [results, Tryz.results47, go_sem, *]) rfl ⟨rfl, rfl⟩
set_option maxRecDepth 100000 in
theorem mul_one (n : Nat) (w : World) (hn : n ≤ 40) :
    Calls Tryz.prog 37 #[.int .u64 1, .int .u64 n] w fun e w' => e = .returned (.tuple #[.int .u64 0, .int .u64 n]) ∧ w' = w := by
  have M := Lib.hid (fun w => mul64_one n w hn)
  clear hn
  go_enter Tryz.func37, Tryz.ntmps37
  go_wp2_with fail
  refine (M.out _).mono ?_
  rintro e w1 ⟨rfl, rfl⟩
  go_wp2
  exact bodyPost_ret (v := .tuple #[.int .u64 0, .int .u64 n]) (by simp [results, Tryz.results37, go_sem, *]) rfl ⟨rfl, rfl⟩

theorem infoStr : (Tryz.prog.info? 9).map (fun i => (i.zero, i.size, i.bytes)) = some (some (.string ⟨#[]⟩), 1, 16) := by kernel_rfl
theorem made_row {w : World} {B b n : Nat} {l : List Value} (h : w.ownsRow B 9 1 (.slice (some ⟨b, 0, none⟩) n n) n l) : ∃ cur, w.heap[b]? = some (.cells cur 9 (0, 0)) ∧ cur.size = n := by
  rcases h.2 with ⟨e, -⟩ | ⟨g, cap, cur, e, -, hg, -, -, hs, -⟩
  · cases e
  · obtain ⟨rfl, rfl⟩ : b = g ∧ n = cap := by simpa using e
    exact ⟨cur, hg, by rw [hs]; omega⟩
theorem step_copy_run2 {P : Program} {ops : Array Oper} {o : Oper} {a : Act} {w : World} {K : Act → World → Prop} {Q : Exit → Act → World → Prop} {E : Prop} (hgd : o.guard = none) (d s : Operand) (t t' : TypeId)
    (ho : o.op = .call { callee := .builtin .copy, args := #[d, s], argTypes := #[t, t'] }) (v u : Value) (hd : a.eval d = v) (hs : a.eval s = u) {v' : Value} {w' : World}
    (hr : (Builtin.copy_ #[t, t'] o.type #[v, u]).run P w = .ok v' w') (h : K (a.put o.dst v') w') : if Region.wanted o (yielded ops a.tmps) = true then Oper.wp P o a w K Q else E := by
  have hw : Region.wanted o (yielded ops a.tmps) = true := by simp [Region.wanted, hgd]
  rw [if_pos hw]
  exact Lib.wp_copy_run w d s t t' ho v u hd hs hr h
/-- the first k of n are s -/
def RepS (w : World) (g n k : Nat) (s : ByteArray) : Prop :=
  ∃ cur : Array Value, w.heap[g]? = some (.cells cur 9 (0, 0)) ∧ cur.size = n ∧ cur.toList.take k = List.replicate k (.string s)
theorem RepS.row {w : World} {g n : Nat} {s : ByteArray} (h : RepS w g n n s) : RowS w g (List.replicate n s) := by
  obtain ⟨cur, h1, h2, h3⟩ := h
  exact ⟨cur, h1, by simp [h2], by rw [List.length_replicate, h3]; simp [strs]⟩

set_option maxRecDepth 100000 in
set_option maxHeartbeats 1000000 in
theorem repeat_any (n : Nat) (s : ByteArray) (b : Nat) (w : World) (hn : 1 ≤ n ∧ n ≤ 40) (hb : w.heap[b]? = some (.cells #[.string s] 9 (0, 0))) :
    Calls Tryz.prog 23 #[.slice (some ⟨b, 0, none⟩) 1 1, .int .i64 n] w fun e w' => ∃ g, e = .returned (.slice (some ⟨g, 0, none⟩) n n) ∧ RowS w' g (List.replicate n s) ∧ w.heap.size ≤ g ∧ Below w.heap.size w w' := by
  have M := Lib.hid (fun w => mul_one n w hn.2)
  have q4 : IntKind.u64.wrap (n : Int) = (n : Int) := wrap_small ⟨n, by omega⟩
  go_enter Tryz.func23, Tryz.ntmps23
  go_wp2_with fail
  refine (M.out _).mono ?_
  rintro e w1 ⟨rfl, rfl⟩
  obtain ⟨i0, hi, hz0, hz1, hz2⟩ := info_parts infoStr
  have HB := Lib.hid hb
  have HN := Lib.hid hn
  clear M
  go_wp2_with (refine wpList_make_full _ rfl _ _ 59 rfl w1.heap.size 9 i0 (.string ⟨#[]⟩) 1 Tryz.underlying59 hi hz0 hz1 .i64 .i64 n n n rfl rfl rfl rfl ?b2 ?b3 (Nat.le_refl _) ?_)
  case b2 => have := HN.out; rw [hz2]; omega
  case b3 => have := HN.out; unfold maxLen; omega
  intro w2 hown hg
  obtain ⟨G, hG⟩ : ∃ G, w1.heap.size = G := ⟨_, rfl⟩
  have B2 := Lib.hid (show Below w1.heap.size w1 w2 from (Below.refl _ _).grown hg (by simp) (fun k hk => by simp at hk))
  obtain ⟨cur, hc, hcs⟩ := made_row hown
  have hlt : b < w1.heap.size := (Array.getElem?_eq_some_iff.1 HB.out).1
  have hb2 := (B2.out.block b hlt).trans HB.out
  obtain ⟨C0, hC0⟩ : ∃ C0 : Array Value, C0 = (cur.toList.take 0 ++ [Value.string s] ++ cur.toList.drop (0 + 1)).toArray := ⟨_, rfl⟩
  have hr : (Builtin.copy_ #[59, 59] 3 #[.slice (some ⟨w1.heap.size, 0, none⟩) n n, .slice (some ⟨b, 0, none⟩) 1 1]).run Tryz.prog w2 = .ok (goInt 1) (w2.setRow w1.heap.size C0) := by
    rw [hC0]
    have hn1 := HN.out.1
    exact run_copy_row (P := Tryz.prog) w2 59 59 3 9 w1.heap.size 0 n n ⟨b, 0, none⟩ 1 1 cur 9 [.string s] Tryz.underlying59 (by kernel_rfl) hc (by show 1 = Nat.min 1 n; exact (Nat.min_eq_left hn1).symm) (World.news_of_block hb2) (by rw [hcs]; simp; omega) (strs_one [s])
  have RP := Lib.hid (show RepS (w2.setRow w1.heap.size C0) w1.heap.size n 1 s from ⟨C0, setRow_heap _ _ _ _ _ _ hc, by rw [hC0]; have := HN.out.1; simp; omega, by rw [hC0]; simp⟩)
  have KK := Lib.hid (show Below w1.heap.size w1 (w2.setRow w1.heap.size C0) from B2.out.trans ((keeps_row (Keeps.refl (· = w1.heap.size) w2) rfl C0).below B2.out.size (fun m hm => by omega)))
  clear hown hg hc hcs hC0 hb2 hlt B2 hG
  go_wp2_with (at_builtin; refine Lib.wpList_copy_run _ rfl _ _ 59 59 rfl _ _ rfl rfl hr ?_)
  clear hr
  obtain ⟨w3, hw3⟩ : ∃ w3, w3 = w2.setRow w1.heap.size C0 := ⟨_, rfl⟩
  rw [← hw3] at RP KK ⊢
  clear hw3
  go_loopw [8, 37] (fun m _ wr => ∃ k : Nat, 1 ≤ k ∧ k ≤ n ∧ m = .int .i64 k ∧ RepS wr w1.heap.size n k s ∧ Below w1.heap.size w1 wr) (fun m _ _ => n - (intOf m).toNat)
  case atStart => exact ⟨1, by omega, HN.out.1, rfl, RP.out, KK.out⟩
  case round =>
    obtain ⟨k, hk1, hk, rfl, rp, kb⟩ := hrel
    have RR := Lib.hid rp
    have KB := Lib.hid kb
    clear rp kb RP KK
    by_cases hlt : k < n
    · go_upto_region 9 with fail
      have hki : (k : Int) ≤ (n : Int) := by omega
      have hk0 : (0 : Int) ≤ (k : Int) := by omega
      obtain ⟨m, hm, hmk⟩ : ∃ m, m = Nat.min k (n - k) ∧ m ≤ k ∧ m ≤ n - k ∧ 1 ≤ m := ⟨_, rfl, Nat.min_le_left _ _, Nat.min_le_right _ _, Nat.le_min.2 ⟨hk1, by omega⟩⟩
      obtain ⟨cur, hc, hcs, ht⟩ := RR.out
      obtain ⟨C1, hC1⟩ : ∃ C1 : Array Value, C1 = (cur.toList.take k ++ List.replicate m (Value.string s) ++ cur.toList.drop (k + m)).toArray := ⟨_, rfl⟩
      have hsrc : ∀ j v, (List.replicate m (Value.string s))[j]? = some v → wr.drew.cell? ((⟨w1.heap.size, 0, none⟩ : Addr).add j) = some v := by
        intro j v hj
        rw [add_zero_at]
        have hjm : j < m := by
          have := (List.getElem?_eq_some_iff.1 hj).1
          simpa using this
        have h2 : (cur.toList.take k)[j]? = (List.replicate k (Value.string s))[j]? := by rw [ht]
        rw [List.getElem?_take_of_lt (by omega)] at h2
        show wr.cell? _ = _
        simp only [World.cell?, hc]
        rw [show (List.replicate k (Value.string s))[j]? = some (Value.string s) from by rw [List.getElem?_replicate, if_pos (by omega)]] at h2
        rw [show (List.replicate m (Value.string s))[j]? = some (Value.string s) from by simp [hjm]] at hj
        rw [← hj]
        simpa using h2
      have hr := run_copy_row (P := Tryz.prog) wr.drew 59 59 3 9 w1.heap.size k (n - k) (n - k) ⟨w1.heap.size, 0, none⟩ k n cur 9 (List.replicate m (.string s)) Tryz.underlying59 (by kernel_rfl) hc (by rw [List.length_replicate]; exact hm) hsrc (by rw [List.length_replicate, hcs]; omega) (fun u hu => by rw [List.eq_of_mem_replicate hu]; rfl)
      rw [List.length_replicate, ← hC1] at hr
      have R2 := Lib.hid (show RepS (wr.drew.setRow w1.heap.size C1) w1.heap.size n (k + m) s from ⟨C1, setRow_heap _ _ _ _ _ _ hc, by rw [hC1]; simp [hcs]; omega, by
        rw [hC1, ht]
        rw [List.take_append_of_le_length (by simp), List.take_of_length_le (by simp), List.replicate_append_replicate]⟩)
      have K2 := Lib.hid (show Below w1.heap.size w1 (wr.drew.setRow w1.heap.size C1) from KB.out.trans ((keeps_row ((Keeps.refl (· = w1.heap.size) wr).drew) rfl C1).below KB.out.size (fun m hm => by omega)))
      have q7 : IntKind.i64.wrap ((k : Int) + (m : Int)) = (k : Int) + (m : Int) := IntWalk.i64_in _ (by have := HN.out; omega)
      clear hC1 hsrc hc hcs ht RR KB hm
      have hnk : ¬ n = k := by omega
      go_region_law (first | (refine step_copy_run2 (by rfl) _ _ 59 59 (by rfl) (.slice (some ⟨w1.heap.size, k, none⟩) (n - k) (n - k)) (.slice (some ⟨w1.heap.size, 0, none⟩) k n) (by simp [Act.eval, Act.put]) (by simp [Act.eval, Act.put]) hr ?_; simp only [Act.put, List.getElem_toArray, List.getElem_cons_zero, List.getElem_cons_succ, List.setIfInBounds_toArray, List.set_cons_zero, List.set_cons_succ]))
      all_goals
        simp only [Act.put, List.getElem_toArray, List.getElem_cons_zero, List.getElem_cons_succ, List.setIfInBounds_toArray, List.set_cons_zero, List.set_cons_succ]
        go_wp2
        go_roundw
        case rel => exact ⟨k + m, by omega, by omega, by go_num, R2.out, K2.out⟩
        case measure => simp [intOf]; omega
    · obtain rfl : k = n := by omega
      go_wp2
      go_ret
      exact ⟨_, rfl, RR.out.row, Nat.le_refl _, KB.out⟩

theorem own_rowS {w : World} {B n : Nat} {v : Value} {l : List ByteArray} (h : w.ownsRow B 9 1 v n (strs l)) (hn : 1 ≤ n) :
    ∃ g c, v = .slice (some ⟨g, 0, none⟩) n c ∧ B ≤ g ∧ n ≤ c ∧ RowS w g l := by
  have hl : l.length = n := by have := h.1; rw [strs_len] at this; omega
  rcases h.2 with ⟨-, h0⟩ | ⟨g, cap, cur, rfl, hB, hg, hc, -, hs, ht⟩
  · omega
  · refine ⟨g, cap, rfl, hB, hc, cur, hg, by omega, ?_⟩
    rw [hl, ← ht]; simp

theorem clone_str (l : List ByteArray) (n g cap : Nat) (w : World) (hl : l.length = n) (hn : 1 ≤ n ∧ n ≤ 40) (hr : RowS w g l) :
    Calls Tryz.prog 25 #[.slice (some ⟨g, 0, none⟩) n cap] w fun e w' => ∃ g' c', e = .returned (.slice (some ⟨g', 0, none⟩) n c') ∧ RowS w' g' l ∧ n ≤ c' ∧ w.heap.size ≤ g' ∧ Below w.heap.size w w' := by
  have hq := fun w => Lib.run_eql_slice_nil (P := Tryz.prog) w 59 9 (some ⟨g, 0, none⟩) n cap 0 0 Tryz.underlying59
  obtain ⟨i0, hi, hz0, hz1, hz2⟩ := info_parts infoStr
  have hnews : ∀ j u, (strs l)[j]? = some u → (w.alloc (.cells #[] 9)).cell? ((⟨g, 0, none⟩ : Addr).add j) = some u := (hr.move ((bal w _).block g hr.lt)).src
  have hown : (w.alloc (.cells #[] 9)).ownsRow w.heap.size 9 1 (.slice (some ⟨w.heap.size, 0, none⟩) 0 0) 0 [] :=
    ⟨rfl, .inr ⟨w.heap.size, 0, #[], rfl, Nat.le_refl _, heap_alloc_new _ _, Nat.le_refl _, by simp [maxLen], rfl, rfl⟩⟩
  have HL := Lib.hid hl
  have HN := Lib.hid hn
  clear hl hn hr
  go_enter Tryz.func25, Tryz.ntmps25
  go_wp2_with (at_builtin; refine wpList_append_own _ rfl _ _ 59 rfl w.heap.size 9 i0 (.string ⟨#[]⟩) 1 16 Tryz.underlying59 hi hz0 hz1 hz2 rfl (by decide) _ _ _ rfl hown ⟨g, 0, none⟩ n cap (strs l) rfl (by rw [strs_len, HL.out]; omega) hnews (strs_one l) ?c3 ?c4 ?c5 ?_)
  case c3 => have := HN.out; unfold maxLen; omega
  case c4 => have := HN.out; omega
  case c5 => simp
  intro v' w1 hown1 hg1 _
  obtain ⟨g', c', rfl, hB, hc, hr⟩ := own_rowS hown1 HN.out.1
  have B1 := Lib.hid (show Below w.heap.size w w1 from (bal w _).grown hg1 (by simp) (fun k hk => by simp [Value.ownBlock] at hk; omega))
  have HB := Lib.hid hB
  have HC := Lib.hid hc
  have HR := Lib.hid hr
  clear hown1 hg1 hB hc hr hnews hown
  go_wp2
  go_ret
  exact ⟨g', c', rfl, HR.out, HC.out, HB.out, B1.out⟩

def Dk.new (n : Nat) : Dk := ⟨List.replicate n (fullB ⟨#[]⟩), List.replicate n (fullB ⟨#[]⟩), [], -1, false⟩
theorem Dk.new_ok {n : Nat} (h : n ≤ 40) : (Dk.new n).ok n := ⟨h, by simp [Dk.new], by simp [Dk.new], (fun _ hr => by cases hr), (show (-1 : Int) ≤ -1 by omega), (show (-1 : Int) ≤ 9223372036854775807 by omega)⟩
/-- the blocks that were made -/
def made (w w' : World) : Nat → Prop := fun k => w.heap.size ≤ k ∧ k < w'.heap.size

set_option maxRecDepth 100000 in
set_option maxHeartbeats 1000000 in
theorem dnew_any (n : Nat) (w : World) (hn : 1 ≤ n ∧ n ≤ 40) :
    Calls Tryz.prog 7 #[.int .i64 n] w fun e w' => ∃ D, e = .returned (.tuple #[.pointer (some ⟨D, 0, none⟩), .nilIface]) ∧ DkAt (made w w') w' 65 78 D n (Dk.new n) ∧ Below w.heap.size w w' := by
  have FULL := Lib.hid (fun w => full_any ⟨#[]⟩ w (by decide))
  have HN := Lib.hid hn
  have q1 : decide ((n : Int) < 1) = false := by rw [decide_eq_false_iff_not]; omega
  have q2 : decide ((40 : Int) < (n : Int)) = false := by rw [decide_eq_false_iff_not]; omega
  clear hn
  go_enter Tryz.func7, Tryz.ntmps7
  go_wp2_with fail
  refine (FULL.out _).mono ?_
  rintro e w1 ⟨rfl, b1⟩
  obtain ⟨F, hF⟩ : ∃ F, fullB ⟨#[]⟩ = F := ⟨_, rfl⟩
  rw [hF]
  have HF := Lib.hid hF
  have B1 := Lib.hid b1
  clear b1 hF FULL
  go_wp2_with fail
  have b2 := bal w1 (.cells #[.string F] 9)
  refine (repeat_any n F w1.heap.size _ HN.out (heap_alloc_new w1 _)).mono ?_
  rintro e w3 ⟨K, rfl, hr, hK, b3⟩
  have B3 := Lib.hid ((B1.out.trans (b2.mono B1.out.size)).trans (b3.mono (Nat.le_trans B1.out.size b2.size)))
  have HK := Lib.hid (show w.heap.size ≤ K from Nat.le_trans (Nat.le_trans B1.out.size b2.size) hK)
  have HR := Lib.hid hr
  clear b2 b3 B1 hr hK
  go_wp2_with fail
  refine (clone_str (List.replicate n F) n K n _ (by simp) HN.out HR.out).mono ?_
  rintro e w4 ⟨N, cn, rfl, hrn, hcn, hN, b4⟩
  have B4 := Lib.hid (B3.out.trans (b4.mono B3.out.size))
  have HR4 := Lib.hid (HR.out.move (b4.block K HR.out.lt))
  have HKN := Lib.hid (show K ≠ N from by have := HR.out.lt; omega)
  have HN4 := Lib.hid (show w.heap.size ≤ N from Nat.le_trans B3.out.size hN)
  have HRN := Lib.hid hrn
  have HCN := Lib.hid hcn
  clear hrn hcn hN b4 B3 HR
  have FIN := Lib.hid (show DkAt (made w (w4.alloc (.cells #[.slice (some ⟨K, 0, none⟩) n n, .slice (some ⟨N, 0, none⟩) n cn, .slice none 0 0, .int .i64 (-1), .bool false] 65))) (w4.alloc (.cells #[.slice (some ⟨K, 0, none⟩) n n, .slice (some ⟨N, 0, none⟩) n cn, .slice none 0 0, .int .i64 (-1), .bool false] 65)) 65 78 w4.heap.size n (Dk.new n) from by
    have hkl := HR4.out.lt
    have hnl := HRN.out.lt
    have h0 := B4.out.size
    have b5 := bal w4 (.cells #[.slice (some ⟨K, 0, none⟩) n n, .slice (some ⟨N, 0, none⟩) n cn, .slice none 0 0, .int .i64 (-1), .bool false] 65)
    refine ⟨K, N, n, cn, .slice none 0 0, ⟨heap_alloc_new _ _, ?_, ?_, World.ownsRow_nil _ _ _ _, by omega, by omega, HKN.out, (fun e => by cases e), (fun e => by cases e), (fun e => by cases e), Nat.le_refl _, HCN.out⟩, ⟨h0, by simp⟩, ⟨HK.out, by simp; omega⟩, ⟨HN4.out, by simp; omega⟩, (fun b hb => by cases hb)⟩
    · unfold Dk.new; rw [HF.out]; exact HR4.out.move (b5.block K hkl)
    · unfold Dk.new; rw [HF.out]; exact HRN.out.move (b5.block N hnl))
  have B5 := Lib.hid (B4.out.trans ((bal w4 (.cells #[.slice (some ⟨K, 0, none⟩) n n, .slice (some ⟨N, 0, none⟩) n cn, .slice none 0 0, .int .i64 (-1), .bool false] 65)).mono B4.out.size))
  go_wp2
  exact bodyPost_ret (v := .tuple #[.pointer (some ⟨w4.heap.size, 0, none⟩), .nilIface]) (by simp [results, Tryz.results7, go_sem]) rfl ⟨_, rfl, FIN.out, B5.out⟩

set_option maxRecDepth 100000 in
theorem dnew_bad (n : Int) (w : World) (hn : n < 1 ∨ 40 < n) :
    Calls Tryz.prog 7 #[.int .i64 n] w fun e w' => e = .returned (.tuple #[.pointer none, errV 1]) ∧ w' = w := by
  by_cases h1 : n < 1
  · clear hn
    go_enter Tryz.func7, Tryz.ntmps7
    go_wp2
    exact bodyPost_ret (v := .tuple #[.pointer none, .iface 58 (.int .i64 1)]) (by simp [results, Tryz.results7, go_sem]) rfl ⟨rfl, rfl⟩
  · have h2 : 40 < n := by omega
    clear hn
    go_enter Tryz.func7, Tryz.ntmps7
    go_wp2
    exact bodyPost_ret (v := .tuple #[.pointer none, .iface 58 (.int .i64 1)]) (by simp [results, Tryz.results7, go_sem]) rfl ⟨rfl, rfl⟩
end Go.Proofs.YtkedmlkbepjnfaaGreatDoor
