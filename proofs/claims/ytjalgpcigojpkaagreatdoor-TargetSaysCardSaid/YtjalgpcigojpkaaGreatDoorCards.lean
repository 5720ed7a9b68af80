/-
  DERIVED. GIVEN WITH THE SEED: THE CARDS: each row of YtjalgpcigojpkaaGreatDoorRows.lean that lists a variable, with what it lists TIED to the program's text (the seventh form; the later family's looks); each row that meets fmt, with fmt's text TOLD by the authors' own Lean function (tested against real Go, not proved from fmt's source: count such statements apart). THE CARD IS WHAT COUNTS. Prove the row's statement (the work); the ties are given (YtjalgpcigojpkaaGreatDoorTie.lean); close each card by the builder's one call (the guide's Derived/Test/ToyasCard.lean, 'card_holds'). Laid BY PROGRAM, IN A SANDBOX (cutbox-door.mjs). By AI agents, Wed Nov 11 2026. No macro, syntax, notation, axiom, sorry.
-/
import Derived.Test.YtjalgpcigojpkaaGreatDoorRows
import GoSem.ClaimSeven
namespace Go.Proofs.YtjalgpcigojpkaaGreatDoor
namespace Rows

/-- THE TIED CARD OF 'kissinggatelaw.TargetSays'. -/
def targetSaysCard : Claim7 := { stood := { row := targetSaysRow, standIns := [], harness := (true, "b4c6d48700152048b49ba7ff1b1a64dda66b44b8103ea8b755231ad96879a6a9"), looks := true }, kinds := [], alts := [], laidByText := true, laidKinds := [.data, .data, .data, .data, .sentinel, .sentinel, .pinned], laidTests := true, laidLooks := .later }
def TargetSaysCardSaid : Prop := Claim7.holds Tryz.pinned (.plain (OpenSpec.ofChange targetSaysSpec)) targetSaysCard

/-- THE SECOND FORM's CARD OF 'kissinggatelaw.TargetSays'. -/
def targetSaysUptoCard : Claim7 := { stood := { row := targetSaysUptoRow, standIns := [], harness := (true, "b4c6d48700152048b49ba7ff1b1a64dda66b44b8103ea8b755231ad96879a6a9"), looks := true }, kinds := [], alts := [], laidByText := true, laidKinds := [.data, .data, .data, .data, .sentinel, .sentinel, .pinned], laidTests := true, laidLooks := .later }
def TargetSaysUptoCardSaid : Prop := Claim7.holds Tryz.pinned (.plain (OpenSpec.upto targetSaysSpec)) targetSaysUptoCard
end Rows
end Go.Proofs.YtjalgpcigojpkaaGreatDoor
