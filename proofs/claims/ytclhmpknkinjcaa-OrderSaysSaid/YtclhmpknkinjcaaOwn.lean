/-
  Slices of pairs that a call makes: ownership; slices.Clone, IndexFunc, DeleteFunc at api.Reg.
-/
import Derived.Test.YtclhmpknkinjcaaRep
import Derived.WalkSpells
import Derived.Lib.LazyBuf
namespace Go.Proofs.Ytclhmpknkinjcaa
open Go.RowKit

def pcells (l : List (Int × Int)) : List Value := l.flatMap fun r => [.int .i64 r.1, .int .i64 r.2]

theorem pcells_length (l : List (Int × Int)) : (pcells l).length = l.length * 2 := by
  induction l with
  | nil => rfl
  | cons r l ih => simp [pcells] at ih ⊢; omega

theorem pcells_append (l m : List (Int × Int)) : pcells (l ++ m) = pcells l ++ pcells m := by simp [pcells]

theorem pcells_at : ∀ (l : List (Int × Int)) (i : Nat) (h : i < l.length), (pcells l)[i * 2]? = some (.int .i64 (l[i]).1) ∧ (pcells l)[i * 2 + 1]? = some (.int .i64 (l[i]).2)
  | r :: l, 0, _ => by simp [pcells]
  | r :: l, i + 1, h => by
    have := pcells_at l i (by simpa using h)
    have e : pcells (r :: l) = .int .i64 r.1 :: .int .i64 r.2 :: pcells l := rfl
    rw [e, show (i + 1) * 2 = i * 2 + 1 + 1 from by omega]
    simpa using this

theorem pcells_one (l : List (Int × Int)) : ∀ u ∈ pcells l, u.oneCell' = true := by
  intro u hu
  simp only [pcells, List.mem_flatMap, List.mem_cons, List.mem_nil_iff, or_false] at hu
  obtain ⟨r, _, h | h⟩ := hu <;> subst h <;> rfl

/-- a slice value that owns a list of pairs, in blocks from B on -/
def OwnP (B : Nat) (w : World) (v : Value) (l : List (Int × Int)) : Prop := w.ownsRow B 134 2 v l.length (pcells l)

theorem OwnP.shape {B : Nat} {w : World} {v : Value} {l : List (Int × Int)} (h : OwnP B w v l) : ∃ a cap, v = .slice a l.length cap ∧ Pairs w.heap.size w a l ∧ (a = none → cap = 0) := by
  obtain ⟨h1, h2⟩ := h
  rcases h2 with ⟨rfl, hn⟩ | ⟨g, cap, cur, rfl, hg, hh, hc, hm, hs, ht⟩
  · have : l = [] := List.length_eq_zero_iff.1 hn
    subst this
    exact ⟨none, 0, rfl, Pairs.nil _ _ _, fun _ => rfl⟩
  · refine ⟨_, cap, rfl, fun i hi => ?_, fun e => by cases e⟩
    have hlt : g < w.heap.size := (Array.getElem?_eq_some_iff.1 hh).1
    obtain ⟨p1, p2⟩ := pcells_at l i hi
    have hcell : ∀ j, j < l.length * 2 → w.cell? ⟨g, 0 + j, none⟩ = (pcells l)[j]? := by
      intro j hj
      rw [← ht, List.getElem?_take_of_lt hj]
      simp [World.cell?, hh]
    exact ⟨g, 0, rfl, hlt, (hcell _ (by omega)).trans p1, by rw [show 0 + i * 2 + 1 = 0 + (i * 2 + 1) from by omega]; exact (hcell _ (by omega)).trans p2⟩

theorem Try.infoReg : (Try.prog.info? 134).map (fun i => (i.zero, i.size, i.bytes)) = some (some (.agg #[.int .i64 0, .int .i64 0]), 2, 16) := by kernel_rfl

/-- the cells of a list of pairs, at an address -/
theorem pairs_cells {B : Nat} {w : World} {b o : Nat} {l : List (Int × Int)} (h : Pairs B w (some ⟨b, o, none⟩) l) : ∀ j u, (pcells l)[j]? = some u → w.cell? ((⟨b, o, none⟩ : Addr).add j) = some u := by
  intro j u hj
  have hl := pcells_length l
  have hjl : j < l.length * 2 := by
    have := (List.getElem?_eq_some_iff.1 hj).1
    omega
  obtain ⟨b', o', e, hb, c1, c2⟩ := h (j / 2) (by omega)
  obtain ⟨rfl, rfl⟩ : b = b' ∧ o = o' := by simpa using e
  obtain ⟨p1, p2⟩ := pcells_at l (j / 2) (by omega)
  have hadd : (⟨b, o, none⟩ : Addr).add j = ⟨b, o + j, none⟩ := by unfold Addr.add; split <;> simp_all
  rw [hadd]
  rcases (by omega : j = j / 2 * 2 ∨ j = j / 2 * 2 + 1) with e | e
  · rw [e] at hj ⊢
    rw [p1] at hj
    rw [← hj]; exact c1
  · rw [e] at hj ⊢
    rw [p2] at hj
    rw [← hj, show o + (j / 2 * 2 + 1) = o + j / 2 * 2 + 1 from by omega]; exact c2

theorem clone_reg (l : List (Int × Int)) (a : Option Addr) (cap : Nat) (w : World) (hl : l.length * 16 ≤ 140737488355328) (hr : Pairs w.heap.size w a l) :
    Calls Try.prog 118 #[.slice a l.length cap] w fun e w' => ∃ v, e = .returned v ∧ OwnP w.heap.size w' v l ∧ Below w.heap.size w w' := by
  have hq := fun w => Lib.run_eql_slice_nil (P := Try.prog) w 45 134 a l.length cap 0 0 Try.underlying45
  obtain ⟨i0, hi, hz0, hz1, hz2⟩ := info_parts Try.infoReg
  cases a with
  | none =>
    have hz : l = [] := by
      cases l with
      | nil => rfl
      | cons r l => obtain ⟨b, o, e, _⟩ := hr 0 (by simp); cases e
    subst hz
    simp only [List.length_nil, Option.isNone_none] at hq ⊢
    clear hi hz0 hz1 hz2 hr hl
    go_enter Try.func118, Try.ntmps118
    go_wp2
    go_ret
    exact ⟨_, rfl, ⟨rfl, .inl ⟨rfl, rfl⟩⟩, Below.refl _ _⟩
  | some ad =>
    have hcase : l = [] ∨ ∃ b o, ad = ⟨b, o, none⟩ ∧ b < w.heap.size := by
      cases l with
      | nil => exact .inl rfl
      | cons r l => obtain ⟨b, o, e, hb, _⟩ := hr 0 (by simp); exact .inr ⟨b, o, by simpa using e, hb⟩
    have hnews : ∀ j u, (pcells l)[j]? = some u → (w.alloc (.cells #[] 134)).cell? (ad.add j) = some u := by
      rcases hcase with rfl | ⟨b, o, rfl, hb⟩
      · intro j u h; simp [pcells] at h
      · exact pairs_cells (hr.below (bal w _) (Nat.le_refl _))
    have hown : (w.alloc (.cells #[] 134)).ownsRow w.heap.size 134 2 (.slice (some ⟨w.heap.size, 0, none⟩) 0 0) 0 [] :=
      ⟨rfl, .inr ⟨w.heap.size, 0, #[], rfl, Nat.le_refl _, heap_alloc_new _ _, Nat.le_refl _, by simp [maxLen], rfl, rfl⟩⟩
    go_enter Try.func118, Try.ntmps118
    go_wp2_with (at_builtin; refine wpList_append_own _ rfl _ _ 45 rfl w.heap.size 134 i0 (.agg #[.int .i64 0, .int .i64 0]) 2 16 Try.underlying45 hi hz0 hz1 hz2 rfl (by decide) _ _ _ rfl hown ad l.length cap (pcells l) rfl (pcells_length l) hnews (pcells_one l) ?c3 ?c4 ?c5 ?_)
    case c3 => unfold maxLen; omega
    case c4 => omega
    case c5 => simp
    intro v' w1 hown1 hg1 _
    go_wp2
    go_ret
    refine ⟨_, rfl, ?_, ?_⟩
    · simpa [OwnP] using hown1
    · exact (bal w _).grown hg1 (by simp) (fun k hk => by simp [Value.ownBlock] at hk; omega)
end Go.Proofs.Ytclhmpknkinjcaa
