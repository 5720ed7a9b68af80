/-
  DERIVED. GIVEN WITH THE SEED: THE CARDS: each row of YtbkmdmmgalmmaaaGreatDoorRows.lean that lists a variable, with what it lists TIED to the program's text (the seventh form; the later family's looks); each row that meets fmt, with fmt's text TOLD by the authors' own Lean function (tested against real Go, not proved from fmt's source: count such statements apart). THE CARD IS WHAT COUNTS. Prove the row's statement (the work); the ties are given (YtbkmdmmgalmmaaaGreatDoorTie.lean); close each card by the builder's one call (the guide's Derived/Test/ToyasCard.lean, 'card_holds'). Laid BY PROGRAM, IN A SANDBOX (cutbox-door.mjs). By AI agents, Wed Nov 11 2026. No macro, syntax, notation, axiom, sorry.
-/
import Derived.Test.YtbkmdmmgalmmaaaGreatDoorRows
import GoSem.ClaimSeven
namespace Go.Proofs.YtbkmdmmgalmmaaaGreatDoor
namespace Rows

/-- THE TIED CARD OF 'kissinggatetop.TopFirst'. -/
def topFirstCard : Claim7 := { stood := { row := topFirstRow, standIns := [], harness := (true, "a42736bbbb939bd23274be329bda876cb596fc81205eb6f3ae8985f2b6507381"), looks := true }, kinds := [], alts := [], laidByText := true, laidKinds := [.data, .data, .data, .data, .sentinel, .sentinel, .pinned], laidTests := true, laidLooks := .later }
def TopFirstCardSaid : Prop := Claim7.holds Tryz.pinned (.plain (OpenSpec.ofChange topFirstSpec)) topFirstCard

/-- THE TIED CARD OF 'kissinggatetop.TopKeptOut'. -/
def topKeptOutCard : Claim7 := { stood := { row := topKeptOutRow, standIns := [], harness := (true, "a42736bbbb939bd23274be329bda876cb596fc81205eb6f3ae8985f2b6507381"), looks := true }, kinds := [], alts := [], laidByText := true, laidKinds := [.data, .data, .data, .data, .sentinel, .sentinel, .pinned], laidTests := true, laidLooks := .later }
def TopKeptOutCardSaid : Prop := Claim7.holds Tryz.pinned (.plain (OpenSpec.ofChange topKeptOutSpec)) topKeptOutCard

/-- THE SECOND FORM's CARD OF 'kissinggatetop.TopFirst'. -/
def topFirstUptoCard : Claim7 := { stood := { row := topFirstUptoRow, standIns := [], harness := (true, "a42736bbbb939bd23274be329bda876cb596fc81205eb6f3ae8985f2b6507381"), looks := true }, kinds := [], alts := [], laidByText := true, laidKinds := [.data, .data, .data, .data, .sentinel, .sentinel, .pinned], laidTests := true, laidLooks := .later }
def TopFirstUptoCardSaid : Prop := Claim7.holds Tryz.pinned (.plain (OpenSpec.upto topFirstSpec)) topFirstUptoCard

/-- THE SECOND FORM's CARD OF 'kissinggatetop.TopKeptOut'. -/
def topKeptOutUptoCard : Claim7 := { stood := { row := topKeptOutUptoRow, standIns := [], harness := (true, "a42736bbbb939bd23274be329bda876cb596fc81205eb6f3ae8985f2b6507381"), looks := true }, kinds := [], alts := [], laidByText := true, laidKinds := [.data, .data, .data, .data, .sentinel, .sentinel, .pinned], laidTests := true, laidLooks := .later }
def TopKeptOutUptoCardSaid : Prop := Claim7.holds Tryz.pinned (.plain (OpenSpec.upto topKeptOutSpec)) topKeptOutUptoCard
end Rows
end Go.Proofs.YtbkmdmmgalmmaaaGreatDoor
