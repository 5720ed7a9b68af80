/-
  Closed facts on the whole translation, the same for each law. The head's word is read by a law on its blanks: so none of these facts is dear.
-/
import Derived.Test.YtclhmpknkinjcaaRows
namespace Go.Proofs.Ytclhmpknkinjcaa.fact
def mainWord : List Nat :=
  [104, 97, 114, 110, 101, 115, 115]
def mainSum : List Nat :=
  [51, 102, 50, 48, 101, 102, 51, 54, 100, 49, 54, 53, 97, 55, 101, 48, 50, 57, 49, 99, 101, 100, 54, 52, 97, 98, 102, 55, 57, 97, 102, 102, 52, 50, 51, 
   55, 98, 49, 101, 52, 54, 48, 55, 52, 50, 50, 98, 98, 101, 52, 99, 49, 99, 101, 99, 99, 99, 51, 56, 51, 101, 53, 55, 98]
def cutWord : List Nat :=
  [99, 117, 116]
def restSigns : List Nat :=
  [97, 116, 32, 107, 105, 115, 115, 105, 110, 103, 103, 97, 116, 101, 47, 107, 105, 115, 115, 105, 110, 103, 103, 97, 116, 101, 108, 97, 119, 46, 82, 101, 
   112, 108, 105, 99, 97, 83, 97, 121, 115, 32, 107, 105, 115, 115, 105, 110, 103, 103, 97, 116, 101, 47, 107, 105, 115, 115, 105, 110, 103, 103, 97, 116, 
   101, 108, 97, 119, 46, 71, 114, 111, 117, 112, 83, 97, 121, 115, 32, 107, 105, 115, 115, 105, 110, 103, 103, 97, 116, 101, 47, 107, 105, 115, 115, 105, 
   110, 103, 103, 97, 116, 101, 108, 97, 119, 46, 68, 105, 115, 107, 83, 97, 121, 115, 32, 107, 105, 115, 115, 105, 110, 103, 103, 97, 116, 101, 47, 107, 
   105, 115, 115, 105, 110, 103, 103, 97, 116, 101, 108, 97, 119, 46, 79, 114, 100, 101, 114, 83, 97, 121, 115, 32, 107, 105, 115, 115, 105, 110, 103, 
   103, 97, 116, 101, 47, 107, 105, 115, 115, 105, 110, 103, 103, 97, 116, 101, 116, 111, 112, 46, 84, 111, 112, 65, 100, 109, 105, 116, 32, 107, 105, 
   115, 115, 105, 110, 103, 103, 97, 116, 101, 47, 107, 105, 115, 115, 105, 110, 103, 103, 97, 116, 101, 116, 111, 112, 46, 84, 111, 112, 66, 111, 120, 
   32, 107, 105, 115, 115, 105, 110, 103, 103, 97, 116, 101, 47, 107, 105, 115, 115, 105, 110, 103, 103, 97, 116, 101, 116, 111, 112, 46, 84, 111, 112, 
   70, 101, 110, 99, 101, 32, 107, 105, 115, 115, 105, 110, 103, 103, 97, 116, 101, 47, 107, 105, 115, 115, 105, 110, 103, 103, 97, 116, 101, 116, 111, 
   112, 46, 84, 111, 112, 77, 111, 115, 116, 32, 107, 105, 115, 115, 105, 110, 103, 103, 97, 116, 101, 47, 107, 105, 115, 115, 105, 110, 103, 103, 97, 
   116, 101, 116, 111, 112, 46, 84, 111, 112, 82, 101, 97, 100, 32, 107, 105, 115, 115, 105, 110, 103, 103, 97, 116, 101, 47, 107, 105, 115, 115, 105, 
   110, 103, 103, 97, 116, 101, 116, 111, 112, 46, 84, 111, 112, 68, 105, 115, 107, 32, 107, 105, 115, 115, 105, 110, 103, 103, 97, 116, 101, 47, 107, 
   105, 115, 115, 105, 110, 103, 103, 97, 116, 101, 116, 111, 112, 46, 84, 111, 112, 79, 114, 100, 101, 114, 32, 107, 105, 115, 115, 105, 110, 103, 103, 
   97, 116, 101, 47, 107, 105, 115, 115, 105, 110, 103, 103, 97, 116, 101, 116, 111, 112, 46, 84, 111, 112, 79, 117, 116, 32, 107, 105, 115, 115, 105, 
   110, 103, 103, 97, 116, 101, 47, 107, 105, 115, 115, 105, 110, 103, 103, 97, 116, 101, 116, 111, 112, 46, 84, 111, 112, 84, 111, 108, 100, 32, 107, 
   105, 115, 115, 105, 110, 103, 103, 97, 116, 101, 47, 107, 105, 115, 115, 105, 110, 103, 103, 97, 116, 101, 116, 111, 112, 46, 84, 111, 112, 70, 114, 
   101, 101]
set_option maxRecDepth 100000 in
theorem init_eq : Try.prog.initOrder = String.ofList ((mainWord ++ 32 :: (mainSum ++ 32 :: (cutWord ++ 32 :: restSigns))).map Char.ofNat) := by kernel_rfl

theorem init_list : Try.prog.initOrder.toList = (mainWord ++ 32 :: (mainSum ++ 32 :: (cutWord ++ 32 :: restSigns))).map Char.ofNat := by rw [init_eq, String.toList_ofList]

theorem words_blank (r : List Char) : wordsSigns (Char.ofNat 32 :: r) = [] :: wordsSigns r := rfl

theorem words_cons (w : List Char) (h : ∀ c ∈ w, c ≠ Char.ofNat 32) (r : List Char) : wordsSigns (w ++ Char.ofNat 32 :: r) = w :: wordsSigns r := by
  induction w with
  | nil => exact words_blank r
  | cons c w ih =>
    have hc : c ≠ Char.ofNat 32 := h c (by simp)
    have ih' := ih (fun x hx => h x (by simp [hx]))
    rw [List.cons_append, wordsSigns, ih']
    exact hc

def cutText : List Char := cutWord.map Char.ofNat

theorem main_words (r : List (List Char)) : behindMainWord (mainWord.map Char.ofNat :: mainSum.map Char.ofNat :: r) = r := by
  have h : ((mainWord.map Char.ofNat == "harness".toList || mainWord.map Char.ofNat == "ownmain".toList) && isSumSigns (mainSum.map Char.ofNat)) = true := by decide +kernel
  unfold behindMainWord
  simp only [h, if_true]

theorem words_eq : ∃ rest, behindMainWord (wordsSigns Try.prog.initOrder.toList) = cutText :: rest := by
  refine ⟨wordsSigns (restSigns.map Char.ofNat), ?_⟩
  rw [init_list]
  simp only [List.map_append, List.map_cons]
  rw [words_cons _ (by decide +kernel), words_cons _ (by decide +kernel), words_cons _ (by decide +kernel), main_words]
  rfl

theorem cut_not : (cutText == "gc".toList || cutText == "spec".toList) = false ∧ (cutText == "carried".toList) = false ∧ (cutText == "cut".toList) = true ∧ (cutText == "finals".toList) = false := by decide +kernel

theorem strip_cut (rest : List (List Char)) : stripLifts liftWords (cutText :: rest) = ([], cutText :: rest) := by kernel_rfl

theorem headLifts_of {P : Program} {rest : List (List Char)} (h : behindMainWord (wordsSigns P.initOrder.toList) = cutText :: rest) : P.headLifts = [] := by
  unfold Program.headLifts
  rw [h, strip_cut]
  simp only
  split <;> rfl

theorem make_of {P : Program} {rest : List (List Char)} (h : behindMainWord (wordsSigns P.initOrder.toList) = cutText :: rest) : P.make = some Make.cut := by
  obtain ⟨c1, c2, c3, c4⟩ := cut_not
  unfold Program.make
  rw [h]
  simp only [c1, c3, Bool.true_or, if_true, Bool.false_eq_true, if_false]

theorem liftsFinal_of {P : Program} {rest : List (List Char)} (h : behindMainWord (wordsSigns P.initOrder.toList) = cutText :: rest) : P.liftsFinal = false := by
  have c2' : (some cutText == some "carried".toList) = false := by decide +kernel
  unfold Program.liftsFinal
  rw [h, headLifts_of h]
  simp only [List.head?_cons, c2', Bool.false_and, Bool.false_or]
  rfl

theorem mayEnter_of {P : Program} {rest : List (List Char)} (h : behindMainWord (wordsSigns P.initOrder.toList) = cutText :: rest) (hl : P.laysLater = false) (hb : P.bearsReflect = false) (hd : P.doorFits [] = true) : P.mayEnter = true := by
  have c3' : (some cutText == some "cut".toList) = true := by decide +kernel
  unfold Program.mayEnter
  rw [h]
  simp only [strip_cut, List.head?_cons, c3', hl, hb, hd]
  simp

theorem doorRows_eq : Try.prog.doorRows = [] := by kernel_rfl

theorem laid : laidOutB Try.pinned.checked.prog = true := by kernel_rfl
theorem mapsRowed_ : mapsRowed Try.pinned.checked.prog = true := by kernel_rfl
theorem stops_ : (Try.pinned.checked.prog.stops == []) = true := by kernel_rfl
theorem stopKnobs_ : (Try.pinned.checked.prog.stopKnobs == []) = true := by kernel_rfl
theorem plainKeys_ : (true == Try.pinned.checked.prog.plainKeys) = true := by kernel_rfl
theorem stopsHeard_ : Try.pinned.checked.prog.stopsHeard = true := by kernel_rfl

theorem laysLater_ : Try.prog.laysLater = false := by kernel_rfl
theorem bearsReflect_ : Try.prog.bearsReflect = false := by kernel_rfl
theorem doorFits_ : Try.prog.doorFits [] = true := by kernel_rfl

theorem make_ : (Try.pinned.checked.prog.make == some Make.cut) = true := by
  obtain ⟨rest, h⟩ := words_eq
  have : Try.pinned.checked.prog.make = some Make.cut := make_of h
  rw [this]
  rfl

theorem liftsFinal_ : (false == Try.pinned.checked.prog.liftsFinal) = true := by
  obtain ⟨rest, h⟩ := words_eq
  have : Try.pinned.checked.prog.liftsFinal = false := liftsFinal_of h
  rw [this]
  rfl

theorem mayEnter_ : Try.pinned.checked.prog.mayEnter = true := by
  obtain ⟨rest, h⟩ := words_eq
  exact mayEnter_of h laysLater_ bearsReflect_ doorFits_
end Go.Proofs.Ytclhmpknkinjcaa.fact
