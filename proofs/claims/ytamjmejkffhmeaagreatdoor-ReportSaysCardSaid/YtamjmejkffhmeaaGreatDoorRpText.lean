/-
  Contract: report.Text.
-/
import Derived.Test.YtamjmejkffhmeaaGreatDoorRpNum
import Derived.Test.YtamjmejkffhmeaaGreatDoorMapReg
import Derived.Deep.DeepCutAuto
import Derived.Deep.CutBlock
import Derived.Deep.RegionHeld3
import Derived.Deep.AppendLies
namespace Go.Proofs.YtamjmejkffhmeaaGreatDoor
open Go.RowKit Go.Lib Go.Sort

theorem st_box {w W' : World} {s : St} {a : Option Addr} {cap n : Nat} (h : Below n (w.alloc (.cells #[.int .i64 s.gen, .slice a s.regs.length cap, .int .i64 s.typ, .int .i64 s.holder, .bool s.stays] 24)) W') (hn : w.heap.size < n) :
    W'.cell? ⟨w.heap.size, 0, none⟩ = some (.int .i64 s.gen) ∧ W'.cell? ⟨w.heap.size, 1, none⟩ = some (.slice a s.regs.length cap) ∧ W'.cell? ⟨w.heap.size, 2, none⟩ = some (.int .i64 s.typ) ∧ W'.cell? ⟨w.heap.size, 3, none⟩ = some (.int .i64 s.holder) ∧ W'.cell? ⟨w.heap.size, 4, none⟩ = some (.bool s.stays) :=
  (box5 h hn (heap_alloc_new w _)).1

def sGoes : ByteArray := ⟨#[103, 111, 101, 115]⟩
def sStays : ByteArray := ⟨#[115, 116, 97, 121, 115]⟩
theorem stayW_B (b : Bool) : bsB (stayW b) = if b then sStays else sGoes := by cases b <;> rfl


theorem infoStrT : (Tryz.prog.info? 9).map (fun i => (i.zero, i.size, i.bytes)) = some (some (.string ⟨#[]⟩), 1, 16) := by kernel_rfl
theorem regW_B (x : Int × Int) : bsB (regW x) = bsB (itoa x.1) ++ ⟨#[58]⟩ ++ bsB (itoa x.2) := by
  rw [show (⟨#[58]⟩ : ByteArray) = bsB [58] from rfl, bsB_append, bsB_append]
  simp [regW]
theorem words_len' (s : St) : (stWords s).length = 4 + s.regs.length := by simp [stWords]; omega
theorem words_next (s : St) (k : Nat) (h : k < s.regs.length) : (stWords s).take (4 + k + 1) = (stWords s).take (4 + k) ++ [regW s.regs[k]] := by
  rw [List.take_succ_eq_append_getElem (by rw [words_len']; omega)]
  congr 1
  simp [stWords, Nat.add_comm 4 k]
theorem words_short {s : St} (hf : Fits s) : ∀ x ∈ stWords s, x.length ≤ 41 := by
  intro x hx
  unfold stWords at hx
  simp only [List.mem_cons, List.mem_map] at hx
  rcases hx with rfl | rfl | rfl | rfl | ⟨r, hr, rfl⟩
  · have := itoa_len_any s.gen hf.gen.1 hf.gen.2; omega
  · have := itoa_len_any s.typ hf.typ.1 hf.typ.2; omega
  · have := itoa_len_any s.holder hf.holder.1 hf.holder.2; omega
  · cases s.stays <;> decide
  · have h := hf.regs r hr
    have := itoa_len_any r.1 h.1.1 h.1.2
    have := itoa_len_any r.2 h.2.1 h.2.2
    unfold regW
    simp only [List.length_append, List.length_cons]
    omega
theorem ownRow_cap {w : World} {B : Nat} {e : TypeId} {s g n c : Nat} {xs : List Value} (h : w.ownsRow B e s (.slice (some ⟨g, 0, none⟩) n c) n xs) : n ≤ c := by
  rcases h.2 with ⟨h1, _⟩ | ⟨g', c', cur, h1, _, _, h2, _⟩
  · cases h1
  · injection h1 with _ _ h3; omega
/-- the frame in the first line's region: what was reckoned so far -/
abbrev textFr (s : St) (a : Option Addr) (cap n : Nat) (x10 x14 x18 x19 x20 x23 : Value) : Act := ⟨#[stV s a cap, .pointer (some ⟨n, 0, none⟩), .string ⟨#[]⟩, .func (.func 24) #[] #[], undef, undef, undef, .func (.func 24) #[] #[], .pointer (some ⟨n, 0, none⟩), .int .i64 s.gen, x10, .func (.func 24) #[] #[], .pointer (some ⟨n, 2, none⟩), .int .i64 s.typ, x14, .func (.func 24) #[] #[], .pointer (some ⟨n, 3, none⟩), .int .i64 s.holder, x18, x19, x20, .pointer (some ⟨n, 4, none⟩), .bool s.stays, x23, undef, undef, undef, undef, undef, undef, undef, undef, undef, undef, undef, undef, undef, undef, undef, undef, undef, undef, undef, undef, undef, undef, undef, undef], []⟩
def at1 (k i : Nat) (v : Value) : Value := bif Nat.ble k i then v else undef
def mapV : Option Nat → Value
  | none => undef
  | some b => .map (some b)
def textG (s : St) (a : Option Addr) (cap n : Nat) (i : Nat) (blk : Option Nat) (x20 x23 : Value) : Act :=
  textFr s a cap n (at1 1 i (.string (bsB (itoa s.gen)))) (at1 2 i (.string (bsB (itoa s.typ)))) (at1 3 i (.string (bsB (itoa s.holder)))) (mapV blk) x20 x23
def textF (s : St) (a : Option Addr) (cap n : Nat) (i : Nat) (blk : Option Nat) : Act := textG s a cap n i blk undef undef
def textL (i j : Nat) : Array Bool := #[true, true, true, Nat.ble 1 i, true, true, true, Nat.ble 2 i, true, true, true, Nat.ble 3 i, Nat.ble 1 j, j == 2 || j == 4, j == 3 || j == 4, false, true, true, false, false, false]
def textM (i : Nat) : Array Bool := #[true, true, true, Nat.ble 1 i, true, true, true, Nat.ble 2 i, true, true, true, Nat.ble 3 i, true, true, true, true, true, true, true, false, false]
theorem textM_call : ∀ i, i < 3 → (textM i).setIfInBounds (3 + 4 * i) true = textM (i + 1) := by
  have : ∀ i : Fin 3, (textM i.val).setIfInBounds (3 + 4 * i.val) true = textM (i.val + 1) := by decide
  exact fun i hi => this ⟨i, hi⟩
theorem textL_fin : ∀ i, i ≤ 3 → ((textL i 4).setIfInBounds 15 true).setIfInBounds 18 true = textM i := by
  have : ∀ i : Fin 4, ((textL i.val 4).setIfInBounds 15 true).setIfInBounds 18 true = textM i.val := by decide
  exact fun i hi => this ⟨i, by omega⟩
theorem bool_key : Tryz.prog.underlying 56 = some (.map 4 9) ∧ Tryz.prog.underlying 4 = some .bool := by constructor <;> kernel_rfl
theorem look_stay (es : Array MapEntry) (h : es = #[⟨.bool false, .string sGoes, 0⟩, ⟨.bool true, .string sStays, 1⟩] ∨ es = #[⟨.bool true, .string sStays, 0⟩, ⟨.bool false, .string sGoes, 1⟩]) (b : Bool) :
    ∃ j, Instr.findNow .bool (.bool b) es.toList 0 = some (some (j, .string (bsB (stayW b)))) := by
  rcases h with rfl | rfl <;> cases b
  · exact ⟨0, rfl⟩
  · exact ⟨1, rfl⟩
  · exact ⟨1, rfl⟩
  · exact ⟨0, rfl⟩
theorem fit_key {es : Array MapEntry} {b c : Bool} {v : Value} (hbc : c ≠ b) (h : es = #[] ∨ es = #[⟨.bool b, v, 0⟩]) : (∀ x ∈ es.toList, MapKept.IsKey .bool x.key) ∧ ∀ x ∈ es.toList, x.key ≠ .bool c := by
  rcases h with rfl | rfl
  · exact ⟨fun x hx => by simp at hx, fun x hx => by simp at hx⟩
  · refine ⟨fun x hx => ?_, fun x hx => ?_⟩
    · simp at hx; subst hx; simp [MapKept.IsKey]
    · simp at hx; subst hx; intro e; injection e with e; exact hbc e.symm
def textC (i : Nat) : Nat := 3 + 4 * i
theorem textL_call : ∀ i j, i < 3 → j < 4 → (textL i j).setIfInBounds (textC i) true = textL (i + 1) j := by
  have : ∀ i : Fin 3, ∀ j : Fin 4, (textL i.val j.val).setIfInBounds (textC i.val) true = textL (i.val + 1) j.val := by decide
  exact fun i j hi hj => this ⟨i, hi⟩ ⟨j, hj⟩
theorem textL_map : ∀ i, i ≤ 3 → (textL i 0).setIfInBounds 12 true = textL i 1 ∧ (textL i 1).setIfInBounds 13 true = textL i 2 ∧ (textL i 1).setIfInBounds 14 true = textL i 3 ∧ (textL i 2).setIfInBounds 14 true = textL i 4 ∧ (textL i 3).setIfInBounds 13 true = textL i 4 := by
  have : ∀ i : Fin 4, (textL i.val 0).setIfInBounds 12 true = textL i.val 1 ∧ (textL i.val 1).setIfInBounds 13 true = textL i.val 2 ∧ (textL i.val 1).setIfInBounds 14 true = textL i.val 3 ∧ (textL i.val 2).setIfInBounds 14 true = textL i.val 4 ∧ (textL i.val 3).setIfInBounds 13 true = textL i.val 4 := by decide
  exact fun i hi => this ⟨i, by omega⟩

set_option maxRecDepth 100000 in
set_option maxHeartbeats 4000000 in
theorem text_any (s : St) (a : Option Addr) (cap : Nat) (w : World) (t : Tabs w) (hr : StR w s a) (hf : Fits s) (hl : s.regs.length ≤ 40) :
    Calls Tryz.prog 11 #[stV s a cap] w fun e w' => e = .returned (.string (bsB (stText s))) ∧ Below w.heap.size w w' := by
  have HR := Lib.hid hr
  have HF := Lib.hid hf
  have TT := Lib.hid t
  clear hr hf t
  go_enter Tryz.func11, Tryz.ntmps11
  go_upto_region 2 with fail
  obtain ⟨w1, hw1⟩ : ∃ w1, w1 = w.alloc (.cells #[.int .i64 s.gen, .slice a s.regs.length cap, .int .i64 s.typ, .int .i64 s.holder, .bool s.stays] 24) := ⟨_, rfl⟩
  have B1 := Lib.hid (show Below w.heap.size w w1 from hw1 ▸ bal w _)
  have L1 := Lib.hid (show w1.heap.size = w.heap.size + 1 from by rw [hw1]; simp)
  obtain ⟨S, hS⟩ : ∃ S : World → Prop, S = fun w' => Below (w.heap.size + 1) w1 w' := ⟨_, rfl⟩
  have SC := Lib.hid (show ∀ w', S w' → w'.cell? ⟨w.heap.size, 0, none⟩ = some (.int .i64 s.gen) ∧ w'.cell? ⟨w.heap.size, 1, none⟩ = some (.slice a s.regs.length cap) ∧ w'.cell? ⟨w.heap.size, 2, none⟩ = some (.int .i64 s.typ) ∧ w'.cell? ⟨w.heap.size, 3, none⟩ = some (.int .i64 s.holder) ∧ w'.cell? ⟨w.heap.size, 4, none⟩ = some (.bool s.stays) from fun w' h => by
    rw [hS] at h
    exact st_box (hw1 ▸ h) (Nat.lt_succ_self _))
  rw [← hw1]
  clear hw1
  refine wp_region_held_drew (S := S) (by kernel_rfl) (by rw [hS]; exact (Below.refl _ _).drew) (fun hHeld => ?_)
  refine wpAnyH_take (i := 0) (oi := _) (v := .func (.func 24) #[] #[]) rfl (by kernel_rfl) (by kernel_rfl) (by kernel_rfl) (fun _ _ _ h => h) (Or.inl ⟨by rfl, fun w' hSw => by go_simp⟩) hHeld ?_
  simp only [Act.put, List.getElem_toArray, List.getElem_cons_zero, List.setIfInBounds_toArray, List.set_cons_zero, List.set_cons_succ]
  refine wpAnyH_take (i := 1) (oi := _) (v := .pointer (some ⟨w.heap.size, 0, none⟩)) rfl (by kernel_rfl) (by kernel_rfl) (by kernel_rfl) (fun _ _ _ h => h) (Or.inl ⟨by rfl, fun w' hSw => by go_simp⟩) hHeld ?_
  simp only [Act.put, List.getElem_toArray, List.getElem_cons_zero, List.getElem_cons_succ, List.setIfInBounds_toArray, List.set_cons_zero, List.set_cons_succ]
  refine wpAnyH_take (i := 2) (oi := _) (v := .int .i64 s.gen) rfl (by kernel_rfl) (by kernel_rfl) (by kernel_rfl) (fun _ _ _ h => h) (Or.inl ⟨by rfl, fun w' hSw => by have hc := (SC.out w' hSw).1; go_simp⟩) hHeld ?_
  simp only [Act.put, List.getElem_toArray, List.getElem_cons_zero, List.getElem_cons_succ, List.setIfInBounds_toArray, List.set_cons_zero, List.set_cons_succ]
  refine wpAnyH_take (i := 4) (oi := _) (v := .func (.func 24) #[] #[]) rfl (by kernel_rfl) (by kernel_rfl) (by kernel_rfl) (fun _ _ _ h => h) (Or.inl ⟨by rfl, fun w' hSw => by go_simp⟩) hHeld ?_
  simp only [Act.put, List.getElem_toArray, List.getElem_cons_zero, List.getElem_cons_succ, List.setIfInBounds_toArray, List.set_cons_zero, List.set_cons_succ]
  refine wpAnyH_take (i := 5) (oi := _) (v := .pointer (some ⟨w.heap.size, 2, none⟩)) rfl (by kernel_rfl) (by kernel_rfl) (by kernel_rfl) (fun _ _ _ h => h) (Or.inl ⟨by rfl, fun w' hSw => by go_simp⟩) hHeld ?_
  simp only [Act.put, List.getElem_toArray, List.getElem_cons_zero, List.getElem_cons_succ, List.setIfInBounds_toArray, List.set_cons_zero, List.set_cons_succ]
  refine wpAnyH_take (i := 6) (oi := _) (v := .int .i64 s.typ) rfl (by kernel_rfl) (by kernel_rfl) (by kernel_rfl) (fun _ _ _ h => h) (Or.inl ⟨by rfl, fun w' hSw => by have hc := (SC.out w' hSw).2.2.1; go_simp⟩) hHeld ?_
  simp only [Act.put, List.getElem_toArray, List.getElem_cons_zero, List.getElem_cons_succ, List.setIfInBounds_toArray, List.set_cons_zero, List.set_cons_succ]
  refine wpAnyH_take (i := 8) (oi := _) (v := .func (.func 24) #[] #[]) rfl (by kernel_rfl) (by kernel_rfl) (by kernel_rfl) (fun _ _ _ h => h) (Or.inl ⟨by rfl, fun w' hSw => by go_simp⟩) hHeld ?_
  simp only [Act.put, List.getElem_toArray, List.getElem_cons_zero, List.getElem_cons_succ, List.setIfInBounds_toArray, List.set_cons_zero, List.set_cons_succ]
  refine wpAnyH_take (i := 9) (oi := _) (v := .pointer (some ⟨w.heap.size, 3, none⟩)) rfl (by kernel_rfl) (by kernel_rfl) (by kernel_rfl) (fun _ _ _ h => h) (Or.inl ⟨by rfl, fun w' hSw => by go_simp⟩) hHeld ?_
  simp only [Act.put, List.getElem_toArray, List.getElem_cons_zero, List.getElem_cons_succ, List.setIfInBounds_toArray, List.set_cons_zero, List.set_cons_succ]
  refine wpAnyH_take (i := 10) (oi := _) (v := .int .i64 s.holder) rfl (by kernel_rfl) (by kernel_rfl) (by kernel_rfl) (fun _ _ _ h => h) (Or.inl ⟨by rfl, fun w' hSw => by have hc := (SC.out w' hSw).2.2.2.1; go_simp⟩) hHeld ?_
  simp only [Act.put, List.getElem_toArray, List.getElem_cons_zero, List.getElem_cons_succ, List.setIfInBounds_toArray, List.set_cons_zero, List.set_cons_succ]
  refine wpAnyH_take (i := 16) (oi := _) (v := .pointer (some ⟨w.heap.size, 4, none⟩)) rfl (by kernel_rfl) (by kernel_rfl) (by kernel_rfl) (fun _ _ _ h => h) (Or.inl ⟨by rfl, fun w' hSw => by go_simp⟩) hHeld ?_
  simp only [Act.put, List.getElem_toArray, List.getElem_cons_zero, List.getElem_cons_succ, List.setIfInBounds_toArray, List.set_cons_zero, List.set_cons_succ]
  refine wpAnyH_take (i := 17) (oi := _) (v := .bool s.stays) rfl (by kernel_rfl) (by kernel_rfl) (by kernel_rfl) (fun _ _ _ h => h) (Or.inl ⟨by rfl, fun w' hSw => by have hc := (SC.out w' hSw).2.2.2.2; go_simp⟩) hHeld ?_
  simp only [Act.put, List.getElem_toArray, List.getElem_cons_zero, List.getElem_cons_succ, List.setIfInBounds_toArray, List.set_cons_zero, List.set_cons_succ]
  refine grid (S := S) (w.heap.size + 1) textC 12 13 14 (textF s a cap w.heap.size) textL (.bool false) (.string sGoes) (.bool true) (.string sStays) textL_call (fun i hi => (textL_map i hi).1) (fun i hi => (textL_map i hi).2.1) (fun i hi => (textL_map i hi).2.2.1) (fun i hi => (textL_map i hi).2.2.2.1) (fun i hi => (textL_map i hi).2.2.2.2) (by kernel_rfl) ?hcall ?hmake ?ha ?hb ?hSm ?hSs ?hSB 4 ?hfin w1.drew hHeld
  case hSm => intro w' h; rw [hS] at h ⊢; exact h.alloc (by have := h.size; have := L1.out; omega) _
  case hSs => intro w' blk o h hb; rw [hS] at h ⊢; exact Below.setO h hb o
  case hSB => intro w' h; rw [hS] at h; have := h.size; have := L1.out; omega
  case hcall =>
    intro i blk w2 K hi hSw hK
    have T2 : Tabs w2 := by rw [hS] at hSw; exact (TT.out.on B1.out).up hSw (by have := TT.out.low; omega)
    have HS : ∀ w', RowKit.Below w2.heap.size w2 w' → S w' := fun w' h => by rw [hS] at hSw ⊢; exact hSw.trans (h.mono (by have := hSw.size; have := L1.out; omega))
    rcases (by omega : i = 0 ∨ i = 1 ∨ i = 2) with rfl | rfl | rfl
    · show wpOp _ _ _ 3 K (textFr s a cap w.heap.size undef undef undef (mapV blk) undef undef) w2
      refine wpOp_step (i := 3) (o := _) rfl (fun K' hK' => ?_)
      go_simp
      refine (itoa_any _ _ T2 HF.out.gen.1 HF.out.gen.2).mono ?_
      rintro e w3 ⟨rfl, b3⟩
      exact hK' _ _ (hK w3 (HS w3 b3) b3)
    · show wpOp _ _ _ 7 K (textFr s a cap w.heap.size (.string (bsB (itoa s.gen))) undef undef (mapV blk) undef undef) w2
      refine wpOp_step (i := 7) (o := _) rfl (fun K' hK' => ?_)
      go_simp
      refine (itoa_any _ _ T2 HF.out.typ.1 HF.out.typ.2).mono ?_
      rintro e w3 ⟨rfl, b3⟩
      exact hK' _ _ (hK w3 (HS w3 b3) b3)
    · show wpOp _ _ _ 11 K (textFr s a cap w.heap.size (.string (bsB (itoa s.gen))) (.string (bsB (itoa s.typ))) undef (mapV blk) undef undef) w2
      refine wpOp_step (i := 11) (o := _) rfl (fun K' hK' => ?_)
      go_simp
      refine (itoa_any _ _ T2 HF.out.holder.1 HF.out.holder.2).mono ?_
      rintro e w3 ⟨rfl, b3⟩
      exact hK' _ _ (hK w3 (HS w3 b3) b3)
  case hmake =>
    intro i w2 K hi hSw hK
    show wpOp _ _ _ 12 K (textFr s a cap w.heap.size (at1 1 i _) (at1 2 i _) (at1 3 i _) undef undef undef) w2
    refine wpOp_step (i := 12) (o := _) rfl (fun K' hK' => ?_)
    go_simp
    exact hK' _ _ hK
  case ha =>
    intro i blk w2 K es cl hi hSw hh hes hK
    have hI := run_insert_new (P := Tryz.prog) (value := .string sGoes) bool_key.1 bool_key.2 hh (key := .bool false) (by simp [MapKept.IsKey]) (fit_key (b := true) (c := false) (by decide) hes).1 (fit_key (b := true) (c := false) (by decide) hes).2
    show wpOp _ _ _ 13 K (textFr s a cap w.heap.size (at1 1 i _) (at1 2 i _) (at1 3 i _) (.map (some blk)) undef undef) w2
    refine wpOp_step (i := 13) (o := _) rfl (fun K' hK' => ?_)
    unfold sGoes at hI
    go_simp
    exact hK' _ _ hK
  case hb =>
    intro i blk w2 K es cl hi hSw hh hes hK
    have hI := run_insert_new (P := Tryz.prog) (value := .string sStays) bool_key.1 bool_key.2 hh (key := .bool true) (by simp [MapKept.IsKey]) (fit_key (b := false) (c := true) (by decide) hes).1 (fit_key (b := false) (c := true) (by decide) hes).2
    show wpOp _ _ _ 14 K (textFr s a cap w.heap.size (at1 1 i _) (at1 2 i _) (at1 3 i _) (.map (some blk)) undef undef) w2
    refine wpOp_step (i := 14) (o := _) rfl (fun K' hK' => ?_)
    unfold sStays at hI
    go_simp
    exact hK' _ _ hK
  case hfin =>
    intro i blk w2 es hi hSw hB hh hes
    obtain ⟨jj, hj⟩ := look_stay es hes s.stays
    obtain ⟨S2, hS2⟩ : ∃ S2 : World → Prop, S2 = fun w' => S w' ∧ w'.heap[blk]? = some (.map es 2) := ⟨_, rfl⟩
    have SL : ∀ w', S2 w' → (Instr.lookup 56 (.map (some blk)) (.bool s.stays) false).run Tryz.prog w' = .ok (.string (bsB (stayW s.stays))) w' := fun w' h => by
      rw [hS2] at h
      exact run_look (P := Tryz.prog) bool_key.1 bool_key.2 h.2 (by simp [MapKept.IsKey]) hj false
    have HS : ∀ w2 w', S2 w2 → RowKit.Below w2.heap.size w2 w' → S2 w' := fun w2 w' hSw h => by
      rw [hS2] at hSw ⊢
      refine ⟨?_, (h.block _ (Array.getElem?_eq_some_iff.1 hSw.2).1).trans hSw.2⟩
      have h1 := hSw.1
      rw [hS] at h1 ⊢
      exact h1.trans (h.mono (by have := h1.size; have := L1.out; omega))
    have hSw2 : S2 w2 := by rw [hS2]; exact ⟨hSw, hh⟩
    have ST : ∀ w', S2 w' → Tabs w' ∧ S w' := fun w' h => by
      rw [hS2] at h
      refine ⟨?_, h.1⟩
      have h1 := h.1
      rw [hS] at h1
      exact (TT.out.on B1.out).up h1 (by have := TT.out.low; omega)
    refine wpAnyH_weaken (S' := S2) (fun w' h => (ST w' h).2) _ _ _ _ ?_
    rw [show 4 + (3 - i) = 2 + (3 - i) + 1 + 1 by omega]
    refine tail3 (S := S2) (v1 := .map (some blk)) (v2 := .string (bsB (stayW s.stays))) 15 18 textC (fun i => textF s a cap w.heap.size i (some blk)) (fun i => textG s a cap w.heap.size i (some blk) (.map (some blk)) undef) (fun i => textG s a cap w.heap.size i (some blk) (.map (some blk)) (.string (bsB (stayW s.stays)))) (fun i => textL i 4) textM 2 rfl rfl (by kernel_rfl) (by kernel_rfl) textL_fin textM_call (fun i _ => ⟨rfl, rfl⟩) (fun _ _ _ h => h) (fun _ _ _ h => h) (fun i _ => Or.inl ⟨rfl, fun w' hSw => rfl⟩) (fun i _ => Or.inl ⟨rfl, fun w' hSw => ?hlk⟩) ?hcall2 ?h3 i hi w2 hSw2
    case hlk =>
      have hl := SL w' hSw
      unfold textG
      go_simp
    case hcall2 =>
      intro i w2 K hi hSw hK
      have T2 : Tabs w2 := (ST _ hSw).1
      rcases (by omega : i = 0 ∨ i = 1 ∨ i = 2) with rfl | rfl | rfl
      · show wpOp _ _ _ 3 K (textFr s a cap w.heap.size undef undef undef (.map (some blk)) (.map (some blk)) (.string (bsB (stayW s.stays)))) w2
        refine wpOp_step (i := 3) (o := _) rfl (fun K' hK' => ?_)
        go_simp
        refine (itoa_any _ _ T2 HF.out.gen.1 HF.out.gen.2).mono ?_
        rintro e w3 ⟨rfl, b3⟩
        exact hK' _ _ (hK w3 (HS _ w3 hSw b3))
      · show wpOp _ _ _ 7 K (textFr s a cap w.heap.size (.string (bsB (itoa s.gen))) undef undef (.map (some blk)) (.map (some blk)) (.string (bsB (stayW s.stays)))) w2
        refine wpOp_step (i := 7) (o := _) rfl (fun K' hK' => ?_)
        go_simp
        refine (itoa_any _ _ T2 HF.out.typ.1 HF.out.typ.2).mono ?_
        rintro e w3 ⟨rfl, b3⟩
        exact hK' _ _ (hK w3 (HS _ w3 hSw b3))
      · show wpOp _ _ _ 11 K (textFr s a cap w.heap.size (.string (bsB (itoa s.gen))) (.string (bsB (itoa s.typ))) undef (.map (some blk)) (.map (some blk)) (.string (bsB (stayW s.stays)))) w2
        refine wpOp_step (i := 11) (o := _) rfl (fun K' hK' => ?_)
        go_simp
        refine (itoa_any _ _ T2 HF.out.holder.1 HF.out.holder.2).mono ?_
        rintro e w3 ⟨rfl, b3⟩
        exact hK' _ _ (hK w3 (HS _ w3 hSw b3))
    case h3 =>
      clear hSw2 hSw hh w2
      intro w2 hS2w
      show wpAnyH _ _ _ _ S2 2 _ (textFr s a cap w.heap.size (.string (bsB (itoa s.gen))) (.string (bsB (itoa s.typ))) (.string (bsB (itoa s.holder))) (.map (some blk)) (.map (some blk)) (.string (bsB (stayW s.stays)))) w2
      refine wpAnyH_ready (rs := [19]) (by kernel_rfl) (by simp) ?_
      refine AllReadyH.cons (o := _) rfl (fun K hK => ?_) AllReadyH.nil
      go_simp
      refine hK.out _ _ (HS _ _ hS2w (bal _ _)) (fun hH => ?_)
      clear hK K
      refine wpAnyH_ready (rs := [20]) (by kernel_rfl) (by simp) ?_
      refine AllReadyH.cons (o := _) rfl (fun K hK => ?_) AllReadyH.nil
      go_simp
      refine hK.out _ _ hH (fun hH2 => ?_)
      clear hK K
      refine wpAnyH_done (by kernel_rfl) ?_ _
      obtain ⟨w4, hw4⟩ : ∃ w4, w4 = w2.alloc (.cells #[.string (bsB (itoa s.gen)), .string (bsB (itoa s.typ)), .string (bsB (itoa s.holder)), .string (bsB (stayW s.stays))] 9) := ⟨_, rfl⟩
      have B2 : RowKit.Below (w.heap.size + 1) w1 w2 := by have := (ST _ hS2w).2; rw [hS] at this; exact this
      have B4 := Lib.hid (show RowKit.Below (w.heap.size + 1) w1 w4 from hw4 ▸ B2.trans ((bal w2 _).mono (by have := B2.size; have := L1.out; omega)))
      have O4 := Lib.hid (show w4.ownsRow (w.heap.size + 1) 9 1 (.slice (some ⟨w2.heap.size, 0, none⟩) 4 4) (4 + 0) (((stWords s).take (4 + 0)).map fun x => Value.string (bsB x)) from hw4 ▸
        ⟨by simp [stWords], .inr ⟨w2.heap.size, 4, _, rfl, by have := B2.size; have := L1.out; omega, heap_alloc_new w2 _, Nat.le_refl _, by decide, by simp, by simp [stWords]⟩⟩)
      have hw4' : w2.alloc (.cells #[.string (bsB (itoa s.gen)), .string (bsB (itoa s.typ)), .string (bsB (itoa s.holder)), .string (bsB (stayW s.stays))] 9) = w4 := hw4.symm
      rw [hw4']
      obtain ⟨c0, c1, c2, c3, c4⟩ := SC.out w4 (by rw [hS]; exact B4.out)
      clear hw4' hw4 B2 hH hH2 hS2w ST HS SL hS2 hj hes hHeld S2
      clear SC hS S
      go_wp2
      have TB4 := Lib.hid ((TT.out.on B1.out).up B4.out (by have := TT.out.low; omega))
      obtain ⟨n, hn⟩ : ∃ n, n = s.regs.length := ⟨_, rfl⟩
      have HN := Lib.hid hn
      rw [← hn] at hl c1 ⊢
      have ST4 := Lib.hid (show stV s a cap = .agg #[.int .i64 s.gen, .slice a s.regs.length cap, .int .i64 s.typ, .int .i64 s.holder, .bool s.stays] from rfl)
      clear hn
      go_loopw [4, 6, 28] (fun v u6 i wr => ∃ k : Nat, k ≤ n ∧ i = .int .i64 k ∧ wr.ownsRow (w.heap.size + 1) 9 1 v (4 + k) (((stWords s).take (4 + k)).map fun x => Value.string (bsB x)) ∧ RowKit.Below (w.heap.size + 1) w1 wr) (fun _ _ i _ => n - (RowKit.intOf i).toNat)
      case atStart => exact ⟨0, by omega, rfl, O4.out, B4.out⟩
      case round =>
        obtain ⟨k, hk, rfl, hown, hbw⟩ := hrel
        have HB := Lib.hid hbw
        have OWN := Lib.hid hown
        clear hown
        by_cases hlt : k < n
        · obtain ⟨b, o, rfl, hbw0, e1, e2⟩ := HR.out.rep k (by have := HN.out; omega)
          have LE := L1.out
          have hz1 : RowKit.Below w.heap.size w wr := B1.out.trans (hbw.mono (by omega))
          have d1 := (hz1.cell (p := ⟨b, o + k * 2, none⟩) hbw0).trans e1
          have d2 := (hz1.cell (p := ⟨b, o + k * 2 + 1, none⟩) hbw0).trans e2
          obtain ⟨x, hx⟩ : ∃ x, x = s.regs[k]'(by have := HN.out; omega) := ⟨_, rfl⟩
          rw [← hx] at d1 d2
          have HX := Lib.hid hx
          have FX := HF.out.regs x (hx ▸ List.getElem_mem _)
          clear e1 e2 hx hbw hbw0
          go_wp2
          obtain ⟨w5, hw5⟩ : ∃ w5, w5 = wr.alloc (.cells #[.int .i64 x.1, .int .i64 x.2] 48) := ⟨_, rfl⟩
          obtain ⟨rb, hrb⟩ : ∃ rb, rb = wr.heap.size := ⟨_, rfl⟩
          have H5 := Lib.hid (show w5.heap[rb]? = some (.cells #[.int .i64 x.1, .int .i64 x.2] 48 (0, 0)) from by rw [hw5, hrb]; exact heap_alloc_new wr _)
          have RB := Lib.hid (show w.heap.size + 1 ≤ rb ∧ rb < w5.heap.size from by rw [hw5, hrb]; have := HB.out.size; simp; omega)
          have B5 := Lib.hid (show RowKit.Below (w.heap.size + 1) w1 w5 from by rw [hw5]; exact HB.out.trans ((bal wr _).mono (by have := HB.out.size; omega)))
          have O5 := Lib.hid (show w5.ownsRow (w.heap.size + 1) 9 1 u4 (4 + k) (((stWords s).take (4 + k)).map fun x => Value.string (bsB x)) from by rw [hw5]; exact OWN.out.alloc _)
          have NB := Lib.hid (show ∀ q, u4.ownBlock = some q → q < rb from fun q hq => hrb ▸ (OWN.out.lt q hq).2)
          have T5 := Lib.hid ((TT.out.on B1.out).up B5.out (by have := TT.out.low; omega))
          rw [← hw5, ← hrb]
          clear hw5 hrb OWN HB d1 d2 hz1
          obtain ⟨S, hS⟩ : ∃ S : World → Prop, S = fun w' => RowKit.Below (w.heap.size + 1) w1 w' ∧ w'.cell? ⟨rb, 0, none⟩ = some (.int .i64 x.1) ∧ w'.cell? ⟨rb, 1, none⟩ = some (.int .i64 x.2) := ⟨_, rfl⟩
          have SB := Lib.hid (show ∀ w', RowKit.Below w5.heap.size w5 w' → S w' from fun w' h => by
            rw [hS]
            have e := (h.block rb RB.out.2).trans H5.out
            exact ⟨B5.out.trans (h.mono (by have := RB.out; omega)), by simp [World.cell?, e], by simp [World.cell?, e]⟩)
          have SC := Lib.hid (show ∀ w', S w' → w'.cell? ⟨rb, 0, none⟩ = some (.int .i64 x.1) ∧ w'.cell? ⟨rb, 1, none⟩ = some (.int .i64 x.2) from fun w' h => by rw [hS] at h; exact h.2)
          have add1 := fun w => run_string_add_sum (P := Tryz.prog) w (bsB (itoa x.1)) ⟨#[58]⟩ (by have := itoa_len_any x.1 FX.1.1 FX.1.2; rw [bsB_size]; simp [ByteArray.size]; omega)
          have add2 := fun w => run_string_add_sum (P := Tryz.prog) w (bsB (itoa x.1) ++ ⟨#[58]⟩) (bsB (itoa x.2)) (by have := itoa_len_any x.1 FX.1.1 FX.1.2; have := itoa_len_any x.2 FX.2.1 FX.2.2; rw [ByteArray.size_append, bsB_size, bsB_size]; simp [ByteArray.size]; omega)
          refine wp_region_held_drew (S := S) (by kernel_rfl) (SB.out _ (Below.refl _ _).drew) (fun hHeld => ?_)
          refine wpAnyH_take (i := 0) (oi := _) (v := u4) rfl (by kernel_rfl) (by kernel_rfl) (by kernel_rfl) (fun _ _ _ h => h) (Or.inl ⟨by rfl, fun w' hSw => by go_simp⟩) hHeld ?_
          simp only [Act.put, List.getElem_toArray, List.getElem_cons_zero, List.setIfInBounds_toArray, List.set_cons_zero, List.set_cons_succ]
          refine wpAnyH_take (i := 1) (oi := _) (v := .func (.func 24) #[] #[]) rfl (by kernel_rfl) (by kernel_rfl) (by kernel_rfl) (fun _ _ _ h => h) (Or.inl ⟨by rfl, fun w' hSw => by go_simp⟩) hHeld ?_
          simp only [Act.put, List.getElem_toArray, List.getElem_cons_zero, List.getElem_cons_succ, List.setIfInBounds_toArray, List.set_cons_zero, List.set_cons_succ]
          refine wpAnyH_take (i := 2) (oi := _) (v := .pointer (some ⟨rb, 0, none⟩)) rfl (by kernel_rfl) (by kernel_rfl) (by kernel_rfl) (fun _ _ _ h => h) (Or.inl ⟨by rfl, fun w' hSw => by go_simp⟩) hHeld ?_
          simp only [Act.put, List.getElem_toArray, List.getElem_cons_zero, List.getElem_cons_succ, List.setIfInBounds_toArray, List.set_cons_zero, List.set_cons_succ]
          refine wpAnyH_take (i := 3) (oi := _) (v := .int .i64 x.1) rfl (by kernel_rfl) (by kernel_rfl) (by kernel_rfl) (fun _ _ _ h => h) (Or.inl ⟨by rfl, fun w' hSw => by have hc := (SC.out w' hSw).1; go_simp⟩) hHeld ?_
          simp only [Act.put, List.getElem_toArray, List.getElem_cons_zero, List.getElem_cons_succ, List.setIfInBounds_toArray, List.set_cons_zero, List.set_cons_succ]
          refine wpAnyH_take (i := 6) (oi := _) (v := .func (.func 24) #[] #[]) rfl (by kernel_rfl) (by kernel_rfl) (by kernel_rfl) (fun _ _ _ h => h) (Or.inl ⟨by rfl, fun w' hSw => by go_simp⟩) hHeld ?_
          simp only [Act.put, List.getElem_toArray, List.getElem_cons_zero, List.getElem_cons_succ, List.setIfInBounds_toArray, List.set_cons_zero, List.set_cons_succ]
          refine wpAnyH_take (i := 7) (oi := _) (v := .pointer (some ⟨rb, 1, none⟩)) rfl (by kernel_rfl) (by kernel_rfl) (by kernel_rfl) (fun _ _ _ h => h) (Or.inl ⟨by rfl, fun w' hSw => by go_simp⟩) hHeld ?_
          simp only [Act.put, List.getElem_toArray, List.getElem_cons_zero, List.getElem_cons_succ, List.setIfInBounds_toArray, List.set_cons_zero, List.set_cons_succ]
          refine wpAnyH_take (i := 8) (oi := _) (v := .int .i64 x.2) rfl (by kernel_rfl) (by kernel_rfl) (by kernel_rfl) (fun _ _ _ h => h) (Or.inl ⟨by rfl, fun w' hSw => by have hc := (SC.out w' hSw).2; go_simp⟩) hHeld ?_
          simp only [Act.put, List.getElem_toArray, List.getElem_cons_zero, List.getElem_cons_succ, List.setIfInBounds_toArray, List.set_cons_zero, List.set_cons_succ]
          refine wpAnyH_ready (rs := [4]) (by kernel_rfl) (by simp) ?_
          refine AllReadyH.cons (o := _) rfl (fun K hK => ?_) AllReadyH.nil
          go_simp
          refine (itoa_any _ _ (T5.out.on (Below.refl _ _).drew) FX.1.1 FX.1.2).mono ?_
          rintro e w6 ⟨rfl, b6⟩
          have B6 := Lib.hid ((show RowKit.Below w5.heap.size w5 w5.drew from (Below.refl _ _).drew).trans b6)
          refine hK.out _ _ (SB.out _ B6.out) (fun hH6 => ?_)
          clear hK K b6
          refine wpAnyH_take (i := 5) (oi := _) (v := .string (bsB (itoa x.1) ++ ⟨#[58]⟩)) rfl (by kernel_rfl) (by kernel_rfl) (by kernel_rfl) (fun _ _ _ h => h) (Or.inl ⟨by rfl, fun w' hSw => by go_simp⟩) hH6 ?_
          simp only [Act.put, List.getElem_toArray, List.getElem_cons_zero, List.getElem_cons_succ, List.setIfInBounds_toArray, List.set_cons_zero, List.set_cons_succ]
          refine wpAnyH_ready (rs := [9]) (by kernel_rfl) (by simp) ?_
          refine AllReadyH.cons (o := _) rfl (fun K hK => ?_) AllReadyH.nil
          go_simp
          refine (itoa_any _ _ (T5.out.on B6.out) FX.2.1 FX.2.2).mono ?_
          rintro e w7 ⟨rfl, b7⟩
          have B7 := Lib.hid (B6.out.trans (b7.mono B6.out.size))
          refine hK.out _ _ (SB.out _ B7.out) (fun hH7 => ?_)
          clear hK K b7
          refine wpAnyH_take (i := 10) (oi := _) (v := .string (bsB (itoa x.1) ++ ⟨#[58]⟩ ++ bsB (itoa x.2))) rfl (by kernel_rfl) (by kernel_rfl) (by kernel_rfl) (fun _ _ _ h => h) (Or.inl ⟨by rfl, fun w' hSw => by go_simp⟩) hH7 ?_
          simp only [Act.put, List.getElem_toArray, List.getElem_cons_zero, List.getElem_cons_succ, List.setIfInBounds_toArray, List.set_cons_zero, List.set_cons_succ]
          refine wpAnyH_ready (rs := [11]) (by kernel_rfl) (by simp) ?_
          refine AllReadyH.cons (o := _) rfl (fun K hK => ?_) AllReadyH.nil
          go_simp
          obtain ⟨nw, hnw⟩ : ∃ nw, nw = bsB (itoa x.1) ++ ⟨#[58]⟩ ++ bsB (itoa x.2) := ⟨_, rfl⟩
          rw [← hnw]
          obtain ⟨w8, hw8⟩ : ∃ w8, w8 = w7.alloc (.cells #[.string nw] 9) := ⟨_, rfl⟩
          have B8 := Lib.hid (show RowKit.Below w5.heap.size w5 w8 from hw8 ▸ B7.out.trans ((bal w7 _).mono B7.out.size))
          have N8 := Lib.hid (show w8.heap[w7.heap.size]? = some (.cells #[.string nw] 9 (0, 0)) from hw8 ▸ heap_alloc_new w7 _)
          have O8 := Lib.hid (show w8.ownsRow (w.heap.size + 1) 9 1 u4 (4 + k) (((stWords s).take (4 + k)).map fun x => Value.string (bsB x)) from by
            refine ⟨O5.out.1, ?_⟩
            rcases O5.out.2 with h2 | ⟨g, cp, cur, rfl, e2, e3, e4⟩
            · exact .inl h2
            · exact .inr ⟨g, cp, cur, rfl, e2, (B8.out.block g (Array.getElem?_eq_some_iff.1 e3).1).trans e3, e4⟩)
          refine hK.out _ _ (SB.out _ (hw8 ▸ B8.out)) (fun hH8 => ?_)
          clear hK K
          rw [← hw8] at hH8 ⊢
          clear hw8
          obtain ⟨i0, hi0, hz0, hz1, hz2⟩ := info_parts infoStrT
          refine wpAnyH_ready (rs := [12]) (by kernel_rfl) (by simp) ?_
          refine AllReadyH.cons (o := _) rfl (fun K hK => ?_) AllReadyH.nil
          refine step_append_lies _ (by rfl) _ _ _ (by rfl) (w.heap.size + 1) 9 i0 _ 1 16 Tryz.underlying41 hi0 hz0 hz1 hz2 rfl (by omega) u4 (4 + k) (((stWords s).take (4 + k)).map fun x => Value.string (bsB x)) (by rfl) O8.out ⟨w7.heap.size, 0, none⟩ 1 1 [.string nw] (by rfl) (by rfl) (World.news_of_block N8.out) (by simp [Value.oneCell']) (by omega) (by unfold maxLen; omega) (by omega) (by have := B8.out.size; have := RB.out; omega) _ rfl ?_
          intro g9 cap9 w9 own9 grow9 at9 lt9
          have LO := Lib.hid (show ∀ q, u4.ownBlock = some q → w.heap.size + 1 ≤ q from fun q hq => (O8.out.lt q hq).1)
          have B9 := Lib.hid (show RowKit.Below (w.heap.size + 1) w1 w9 from ((B5.out.trans (B8.out.mono (by have := RB.out; omega))).grown grow9 (by have := B8.out.size; have := RB.out; omega) LO.out))
          have E9 : w9.heap[rb]? = some (.cells #[.int .i64 x.1, .int .i64 x.2] 48 (0, 0)) := (grow9.block rb (by have := B8.out.size; have := RB.out; omega) (fun e => by have := NB.out rb e.symm; omega)).trans ((B8.out.block rb RB.out.2).trans H5.out)
          refine hK.out _ _ (by rw [hS]; exact ⟨B9.out, by simp [World.cell?, E9], by simp [World.cell?, E9]⟩) (fun hH9 => ?_)
          clear hK K
          have O9 := Lib.hid (show w9.ownsRow (w.heap.size + 1) 9 1 (.slice (some ⟨g9, 0, none⟩) (4 + k + 1) cap9) (4 + (k + 1)) (((stWords s).take (4 + (k + 1))).map fun x => Value.string (bsB x)) from by
            rw [← Nat.add_assoc, words_next s k (by have := HN.out; omega), List.map_append, ← HX.out, List.map_singleton, regW_B, ← hnw]
            exact own9)
          clear own9 grow9 at9 lt9 E9 add1 add2
          refine wpAnyH_ready (rs := [13]) (by kernel_rfl) (by simp) ?_
          refine AllReadyH.cons (o := _) rfl (fun K hK => ?_) AllReadyH.nil
          go_simp
          refine hK.out _ _ hH9 (fun hH10 => ?_)
          clear hK K hH9 hH8 hH7 hH6 hHeld hH10 hS
          refine wpAnyH_done (by kernel_rfl) ?_ _
          go_wp2
          go_roundw
          case rel => exact ⟨k + 1, by omega, by go_num, O9.out, B9.out⟩
          case measure => simp [RowKit.intOf]; omega
        · obtain rfl : k = n := by omega
          clear hbw
          obtain ⟨g, cp, rfl, hg1, hg2⟩ := OWN.out.form (by omega)
          have hj := join_any g 0 cp (stWords s) wr (fun j x hx => by
            have hjl : j < (stWords s).length := (List.getElem?_eq_some_iff.1 hx).1
            rw [words_len', ← HN.out] at hjl
            rw [Nat.zero_add, OWN.out.cellAt j (by omega), List.getElem?_map, List.take_of_length_le (by rw [words_len']; have := HN.out; omega), hx]
            rfl) hg2 (by rw [words_len', ← HN.out]; exact ownRow_cap OWN.out) (by rw [words_len', ← HN.out]; omega) (by
            have := join_len 32 (stWords s) 41 (words_short HF.out)
            rw [words_len', ← HN.out] at this
            unfold Lib.join
            omega)
          rw [words_len', ← HN.out] at hj
          go_wp2_with fail
          refine hj.mono ?_
          rintro e w9 ⟨rfl, b9⟩
          have BZ := Lib.hid (B1.out.trans ((HB.out.trans (b9.mono (by have := HB.out.size; have := L1.out; omega))).mono (by omega)))
          clear hj b9 hg1 hg2
          go_wp2
          go_ret
          exact ⟨rfl, BZ.out⟩
end Go.Proofs.YtamjmejkffhmeaaGreatDoor
