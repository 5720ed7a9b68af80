/-
  Closed facts on the whole translation, the same for each law. The head's word is read by a law on its blanks: so none of these facts is dear.
-/
import Derived.Test.YtamjmejkffhmeaaGreatDoorRows
namespace Go.Proofs.YtamjmejkffhmeaaGreatDoor.fact
def mainWord : List Nat :=
  [104, 97, 114, 110, 101, 115, 115]
def mainSum : List Nat :=
  [56, 100, 56, 57, 57, 53, 98, 48, 102, 52, 100, 101, 102, 56, 54, 101, 54, 97, 54, 99, 54, 102, 52, 56, 55, 54, 100, 50, 97, 50, 56, 48, 56, 55, 102, 
   55, 100, 101, 56, 53, 98, 48, 52, 52, 100, 99, 97, 54, 101, 48, 99, 97, 52, 53, 49, 57, 55, 57, 48, 101, 50, 55, 55, 49]
def cutWord : List Nat :=
  [99, 117, 116]
def restSigns : List Nat :=
  [97, 116, 32, 107, 105, 115, 115, 105, 110, 103, 103, 97, 116, 101, 47, 107, 105, 115, 115, 105, 110, 103, 103, 97, 116, 101, 108, 97, 119, 46, 82, 101, 
   112, 111, 114, 116, 83, 97, 121, 115]
set_option maxRecDepth 100000 in
theorem init_eq : Tryz.prog.initOrder = String.ofList ((mainWord ++ 32 :: (mainSum ++ 32 :: (cutWord ++ 32 :: restSigns))).map Char.ofNat) := by kernel_rfl

theorem init_list : Tryz.prog.initOrder.toList = (mainWord ++ 32 :: (mainSum ++ 32 :: (cutWord ++ 32 :: restSigns))).map Char.ofNat := by rw [init_eq, String.toList_ofList]

theorem words_blank (r : List Char) : wordsSigns (Char.ofNat 32 :: r) = [] :: wordsSigns r := rfl

theorem words_cons (w : List Char) (h : ∀ c ∈ w, c ≠ Char.ofNat 32) (r : List Char) : wordsSigns (w ++ Char.ofNat 32 :: r) = w :: wordsSigns r := by
  induction w with
  | nil => exact words_blank r
  | cons c w ih =>
    have hc : c ≠ Char.ofNat 32 := h c (by simp)
    have ih' := ih (fun x hx => h x (by simp [hx]))
    rw [List.cons_append, wordsSigns, ih']
    exact hc

def cutText : List Char := cutWord.map Char.ofNat

theorem main_words (r : List (List Char)) : behindMainWord (mainWord.map Char.ofNat :: mainSum.map Char.ofNat :: r) = r := by
  have h : ((mainWord.map Char.ofNat == "harness".toList || mainWord.map Char.ofNat == "ownmain".toList) && isSumSigns (mainSum.map Char.ofNat)) = true := by decide +kernel
  unfold behindMainWord
  simp only [h, if_true]

theorem words_eq : ∃ rest, behindMainWord (wordsSigns Tryz.prog.initOrder.toList) = cutText :: rest := by
  refine ⟨wordsSigns (restSigns.map Char.ofNat), ?_⟩
  rw [init_list]
  simp only [List.map_append, List.map_cons]
  rw [words_cons _ (by decide +kernel), words_cons _ (by decide +kernel), words_cons _ (by decide +kernel), main_words]
  rfl

theorem cut_not : (cutText == "gc".toList || cutText == "spec".toList) = false ∧ (cutText == "carried".toList) = false ∧ (cutText == "cut".toList) = true ∧ (cutText == "finals".toList) = false := by decide +kernel

theorem strip_cut (rest : List (List Char)) : stripLifts liftWords (cutText :: rest) = ([], cutText :: rest) := by kernel_rfl

theorem headLifts_of {P : Program} {rest : List (List Char)} (h : behindMainWord (wordsSigns P.initOrder.toList) = cutText :: rest) : P.headLifts = [] := by
  unfold Program.headLifts
  rw [h, strip_cut]
  simp only
  split <;> rfl

theorem make_of {P : Program} {rest : List (List Char)} (h : behindMainWord (wordsSigns P.initOrder.toList) = cutText :: rest) : P.make = some Make.cut := by
  obtain ⟨c1, c2, c3, c4⟩ := cut_not
  unfold Program.make
  rw [h]
  simp only [c1, c3, Bool.true_or, if_true, Bool.false_eq_true, if_false]

theorem liftsFinal_of {P : Program} {rest : List (List Char)} (h : behindMainWord (wordsSigns P.initOrder.toList) = cutText :: rest) : P.liftsFinal = false := by
  have c2' : (some cutText == some "carried".toList) = false := by decide +kernel
  unfold Program.liftsFinal
  rw [h, headLifts_of h]
  simp only [List.head?_cons, c2', Bool.false_and, Bool.false_or]
  rfl

theorem mayEnter_of {P : Program} {rest : List (List Char)} (h : behindMainWord (wordsSigns P.initOrder.toList) = cutText :: rest) (hl : P.laysLater = false) (hb : P.bearsReflect = false) (hd : P.doorFits [] = true) : P.mayEnter = true := by
  have c3' : (some cutText == some "cut".toList) = true := by decide +kernel
  unfold Program.mayEnter
  rw [h]
  simp only [strip_cut, List.head?_cons, c3', hl, hb, hd]
  simp

theorem laid : laidOutB Tryz.pinned.checked.prog = true := by kernel_rfl
theorem mapsRowed_ : mapsRowed Tryz.pinned.checked.prog = true := by kernel_rfl
theorem stops_ : (Tryz.pinned.checked.prog.stops == []) = true := by kernel_rfl
theorem stopKnobs_ : (Tryz.pinned.checked.prog.stopKnobs == []) = true := by kernel_rfl
theorem plainKeys_ : (true == Tryz.pinned.checked.prog.plainKeys) = true := by kernel_rfl
theorem stopsHeard_ : Tryz.pinned.checked.prog.stopsHeard = true := by kernel_rfl

theorem laysLater_ : Tryz.prog.laysLater = false := by kernel_rfl
theorem bearsReflect_ : Tryz.prog.bearsReflect = false := by kernel_rfl
theorem doorFits_ : Tryz.prog.doorFits [] = true := by kernel_rfl

theorem make_ : (Tryz.pinned.checked.prog.make == some Make.cut) = true := by
  obtain ⟨rest, h⟩ := words_eq
  have : Tryz.pinned.checked.prog.make = some Make.cut := make_of h
  rw [this]
  rfl

theorem liftsFinal_ : (false == Tryz.pinned.checked.prog.liftsFinal) = true := by
  obtain ⟨rest, h⟩ := words_eq
  have : Tryz.pinned.checked.prog.liftsFinal = false := liftsFinal_of h
  rw [this]
  rfl

theorem mayEnter_ : Tryz.pinned.checked.prog.mayEnter = true := by
  obtain ⟨rest, h⟩ := words_eq
  exact mayEnter_of h laysLater_ bearsReflect_ doorFits_
end Go.Proofs.YtamjmejkffhmeaaGreatDoor.fact
