/-
  DERIVED. GIVEN WITH THE SEED: THE CARDS: each row of YtamjmejkffhmeaaGreatDoorRows.lean that lists a variable, with what it lists TIED to the program's text (the seventh form; the later family's looks); each row that meets fmt, with fmt's text TOLD by the authors' own Lean function (tested against real Go, not proved from fmt's source: count such statements apart). THE CARD IS WHAT COUNTS. Prove the row's statement (the work); the ties are given (YtamjmejkffhmeaaGreatDoorTie.lean); close each card by the builder's one call (the guide's Derived/Test/ToyasCard.lean, 'card_holds'). Laid BY PROGRAM, IN A SANDBOX (cutbox-door.mjs). By AI agents, Wed Nov 11 2026. No macro, syntax, notation, axiom, sorry.
-/
import Derived.Test.YtamjmejkffhmeaaGreatDoorRows
import GoSem.ClaimSeven
namespace Go.Proofs.YtamjmejkffhmeaaGreatDoor
namespace Rows

/-- THE TIED CARD OF 'kissinggatelaw.ReportSays'. -/
def reportSaysCard : Claim7 := { stood := { row := reportSaysRow, standIns := [], harness := (true, "8d8995b0f4def86e6a6c6f4876d2a28087f7de85b044dca6e0ca4519790e2771"), looks := true }, kinds := [], alts := [], laidByText := true, laidKinds := [.data, .data, .data, .data, .sentinel, .sentinel, .pinned], laidTests := true, laidLooks := .later }
def ReportSaysCardSaid : Prop := Claim7.holds Tryz.pinned (.plain (OpenSpec.ofChange reportSaysSpec)) reportSaysCard

/-- THE SECOND FORM's CARD OF 'kissinggatelaw.ReportSays'. -/
def reportSaysUptoCard : Claim7 := { stood := { row := reportSaysUptoRow, standIns := [], harness := (true, "8d8995b0f4def86e6a6c6f4876d2a28087f7de85b044dca6e0ca4519790e2771"), looks := true }, kinds := [], alts := [], laidByText := true, laidKinds := [.data, .data, .data, .data, .sentinel, .sentinel, .pinned], laidTests := true, laidLooks := .later }
def ReportSaysUptoCardSaid : Prop := Claim7.holds Tryz.pinned (.plain (OpenSpec.upto reportSaysSpec)) reportSaysUptoCard
end Rows
end Go.Proofs.YtamjmejkffhmeaaGreatDoor
