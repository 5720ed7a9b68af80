/-
  DERIVED. GIVEN WITH THE SEED: THE CARDS: each row of YtkedmlkbepjnfaaGreatDoorRows.lean that lists a variable, with what it lists TIED to the program's text (the seventh form; the later family's looks); each row that meets fmt, with fmt's text TOLD by the authors' own Lean function (tested against real Go, not proved from fmt's source: count such statements apart). THE CARD IS WHAT COUNTS. Prove the row's statement (the work); the ties are given (YtkedmlkbepjnfaaGreatDoorTie.lean); close each card by the builder's one call (the guide's Derived/Test/ToyasCard.lean, 'card_holds'). Laid BY PROGRAM, IN A SANDBOX (cutbox-door.mjs). By AI agents, Wed Nov 11 2026. No macro, syntax, notation, axiom, sorry.
-/
import Derived.Test.YtkedmlkbepjnfaaGreatDoorRows
import GoSem.ClaimSeven
namespace Go.Proofs.YtkedmlkbepjnfaaGreatDoor
namespace Rows

/-- THE TIED CARD OF 'kissinggatelaw.KeeperSays'. -/
def keeperSaysCard : Claim7 := { stood := { row := keeperSaysRow, standIns := [], harness := (true, "af4561acd6fd9071304a67f9b9dd05606306eef0f42bff031b4c3dff797e4324"), looks := true }, kinds := [], alts := [], laidByText := true, laidKinds := [.data, .data, .data, .data, .sentinel, .sentinel, .pinned], laidTests := true, laidLooks := .later }
def KeeperSaysCardSaid : Prop := Claim7.holds Tryz.pinned (.plain (OpenSpec.ofChange keeperSaysSpec)) keeperSaysCard

/-- THE TIED CARD OF 'kissinggatetop.TopKeeper'. -/
def topKeeperCard : Claim7 := { stood := { row := topKeeperRow, standIns := [], harness := (true, "af4561acd6fd9071304a67f9b9dd05606306eef0f42bff031b4c3dff797e4324"), looks := true }, kinds := [], alts := [], laidByText := true, laidKinds := [.data, .data, .data, .data, .sentinel, .sentinel, .pinned], laidTests := true, laidLooks := .later }
def TopKeeperCardSaid : Prop := Claim7.holds Tryz.pinned (.plain (OpenSpec.ofChange topKeeperSpec)) topKeeperCard

/-- THE SECOND FORM's CARD OF 'kissinggatelaw.KeeperSays'. -/
def keeperSaysUptoCard : Claim7 := { stood := { row := keeperSaysUptoRow, standIns := [], harness := (true, "af4561acd6fd9071304a67f9b9dd05606306eef0f42bff031b4c3dff797e4324"), looks := true }, kinds := [], alts := [], laidByText := true, laidKinds := [.data, .data, .data, .data, .sentinel, .sentinel, .pinned], laidTests := true, laidLooks := .later }
def KeeperSaysUptoCardSaid : Prop := Claim7.holds Tryz.pinned (.plain (OpenSpec.upto keeperSaysSpec)) keeperSaysUptoCard

/-- THE SECOND FORM's CARD OF 'kissinggatetop.TopKeeper'. -/
def topKeeperUptoCard : Claim7 := { stood := { row := topKeeperUptoRow, standIns := [], harness := (true, "af4561acd6fd9071304a67f9b9dd05606306eef0f42bff031b4c3dff797e4324"), looks := true }, kinds := [], alts := [], laidByText := true, laidKinds := [.data, .data, .data, .data, .sentinel, .sentinel, .pinned], laidTests := true, laidLooks := .later }
def TopKeeperUptoCardSaid : Prop := Claim7.holds Tryz.pinned (.plain (OpenSpec.upto topKeeperSpec)) topKeeperUptoCard
end Rows
end Go.Proofs.YtkedmlkbepjnfaaGreatDoor
