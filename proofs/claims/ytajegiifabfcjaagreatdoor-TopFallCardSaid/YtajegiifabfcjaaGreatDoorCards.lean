/-
  DERIVED. GIVEN WITH THE SEED: THE CARDS: each row of YtajegiifabfcjaaGreatDoorRows.lean that lists a variable, with what it lists TIED to the program's text (the seventh form; the later family's looks); each row that meets fmt, with fmt's text TOLD by the authors' own Lean function (tested against real Go, not proved from fmt's source: count such statements apart). THE CARD IS WHAT COUNTS. Prove the row's statement (the work); the ties are given (YtajegiifabfcjaaGreatDoorTie.lean); close each card by the builder's one call (the guide's Derived/Test/ToyasCard.lean, 'card_holds'). Laid BY PROGRAM, IN A SANDBOX (cutbox-door.mjs). By AI agents, Wed Nov 11 2026. No macro, syntax, notation, axiom, sorry.
-/
import Derived.Test.YtajegiifabfcjaaGreatDoorRows
import GoSem.ClaimSeven
namespace Go.Proofs.YtajegiifabfcjaaGreatDoor
namespace Rows

/-- THE TIED CARD OF 'kissinggatetop.TopRise'. -/
def topRiseCard : Claim7 := { stood := { row := topRiseRow, standIns := [], harness := (true, "9076de4860f532afb27c869bd218df7c7ac46e5b33d24ed449de23b7e23b1a1c"), looks := true }, kinds := [], alts := [], laidByText := true, laidKinds := [.data, .data, .data, .data, .sentinel, .sentinel, .pinned], laidTests := true, laidLooks := .later }
def TopRiseCardSaid : Prop := Claim7.holds Tryz.pinned (.plain (OpenSpec.ofChange topRiseSpec)) topRiseCard

/-- THE TIED CARD OF 'kissinggatetop.TopHeard'. -/
def topHeardCard : Claim7 := { stood := { row := topHeardRow, standIns := [], harness := (true, "9076de4860f532afb27c869bd218df7c7ac46e5b33d24ed449de23b7e23b1a1c"), looks := true }, kinds := [], alts := [], laidByText := true, laidKinds := [.data, .data, .data, .data, .sentinel, .sentinel, .pinned], laidTests := true, laidLooks := .later }
def TopHeardCardSaid : Prop := Claim7.holds Tryz.pinned (.plain (OpenSpec.ofChange topHeardSpec)) topHeardCard

/-- THE TIED CARD OF 'kissinggatetop.TopSync'. -/
def topSyncCard : Claim7 := { stood := { row := topSyncRow, standIns := [], harness := (true, "9076de4860f532afb27c869bd218df7c7ac46e5b33d24ed449de23b7e23b1a1c"), looks := true }, kinds := [], alts := [], laidByText := true, laidKinds := [.data, .data, .data, .data, .sentinel, .sentinel, .pinned], laidTests := true, laidLooks := .later }
def TopSyncCardSaid : Prop := Claim7.holds Tryz.pinned (.plain (OpenSpec.ofChange topSyncSpec)) topSyncCard

/-- THE TIED CARD OF 'kissinggatetop.TopDone'. -/
def topDoneCard : Claim7 := { stood := { row := topDoneRow, standIns := [], harness := (true, "9076de4860f532afb27c869bd218df7c7ac46e5b33d24ed449de23b7e23b1a1c"), looks := true }, kinds := [], alts := [], laidByText := true, laidKinds := [.data, .data, .data, .data, .sentinel, .sentinel, .pinned], laidTests := true, laidLooks := .later }
def TopDoneCardSaid : Prop := Claim7.holds Tryz.pinned (.plain (OpenSpec.ofChange topDoneSpec)) topDoneCard

/-- THE TIED CARD OF 'kissinggatetop.TopConflict'. -/
def topConflictCard : Claim7 := { stood := { row := topConflictRow, standIns := [], harness := (true, "9076de4860f532afb27c869bd218df7c7ac46e5b33d24ed449de23b7e23b1a1c"), looks := true }, kinds := [], alts := [], laidByText := true, laidKinds := [.data, .data, .data, .data, .sentinel, .sentinel, .pinned], laidTests := true, laidLooks := .later }
def TopConflictCardSaid : Prop := Claim7.holds Tryz.pinned (.plain (OpenSpec.ofChange topConflictSpec)) topConflictCard

/-- THE TIED CARD OF 'kissinggatetop.TopEpoch'. -/
def topEpochCard : Claim7 := { stood := { row := topEpochRow, standIns := [], harness := (true, "9076de4860f532afb27c869bd218df7c7ac46e5b33d24ed449de23b7e23b1a1c"), looks := true }, kinds := [], alts := [], laidByText := true, laidKinds := [.data, .data, .data, .data, .sentinel, .sentinel, .pinned], laidTests := true, laidLooks := .later }
def TopEpochCardSaid : Prop := Claim7.holds Tryz.pinned (.plain (OpenSpec.ofChange topEpochSpec)) topEpochCard

/-- THE TIED CARD OF 'kissinggatetop.TopCompare'. -/
def topCompareCard : Claim7 := { stood := { row := topCompareRow, standIns := [], harness := (true, "9076de4860f532afb27c869bd218df7c7ac46e5b33d24ed449de23b7e23b1a1c"), looks := true }, kinds := [], alts := [], laidByText := true, laidKinds := [.data, .data, .data, .data, .sentinel, .sentinel, .pinned], laidTests := true, laidLooks := .later }
def TopCompareCardSaid : Prop := Claim7.holds Tryz.pinned (.plain (OpenSpec.ofChange topCompareSpec)) topCompareCard

/-- THE TIED CARD OF 'kissinggatetop.TopFall'. -/
def topFallCard : Claim7 := { stood := { row := topFallRow, standIns := [], harness := (true, "9076de4860f532afb27c869bd218df7c7ac46e5b33d24ed449de23b7e23b1a1c"), looks := true }, kinds := [], alts := [], laidByText := true, laidKinds := [.data, .data, .data, .data, .sentinel, .sentinel, .pinned], laidTests := true, laidLooks := .later }
def TopFallCardSaid : Prop := Claim7.holds Tryz.pinned (.plain (OpenSpec.ofChange topFallSpec)) topFallCard

/-- THE TIED CARD OF 'kissinggatetop.TopPower'. -/
def topPowerCard : Claim7 := { stood := { row := topPowerRow, standIns := [], harness := (true, "9076de4860f532afb27c869bd218df7c7ac46e5b33d24ed449de23b7e23b1a1c"), looks := true }, kinds := [], alts := [], laidByText := true, laidKinds := [.data, .data, .data, .data, .sentinel, .sentinel, .pinned], laidTests := true, laidLooks := .later }
def TopPowerCardSaid : Prop := Claim7.holds Tryz.pinned (.plain (OpenSpec.ofChange topPowerSpec)) topPowerCard

/-- THE TIED CARD OF 'kissinggatetop.TopAgain'. -/
def topAgainCard : Claim7 := { stood := { row := topAgainRow, standIns := [], harness := (true, "9076de4860f532afb27c869bd218df7c7ac46e5b33d24ed449de23b7e23b1a1c"), looks := true }, kinds := [], alts := [], laidByText := true, laidKinds := [.data, .data, .data, .data, .sentinel, .sentinel, .pinned], laidTests := true, laidLooks := .later }
def TopAgainCardSaid : Prop := Claim7.holds Tryz.pinned (.plain (OpenSpec.ofChange topAgainSpec)) topAgainCard

/-- THE SECOND FORM's CARD OF 'kissinggatetop.TopRise'. -/
def topRiseUptoCard : Claim7 := { stood := { row := topRiseUptoRow, standIns := [], harness := (true, "9076de4860f532afb27c869bd218df7c7ac46e5b33d24ed449de23b7e23b1a1c"), looks := true }, kinds := [], alts := [], laidByText := true, laidKinds := [.data, .data, .data, .data, .sentinel, .sentinel, .pinned], laidTests := true, laidLooks := .later }
def TopRiseUptoCardSaid : Prop := Claim7.holds Tryz.pinned (.plain (OpenSpec.upto topRiseSpec)) topRiseUptoCard

/-- THE SECOND FORM's CARD OF 'kissinggatetop.TopHeard'. -/
def topHeardUptoCard : Claim7 := { stood := { row := topHeardUptoRow, standIns := [], harness := (true, "9076de4860f532afb27c869bd218df7c7ac46e5b33d24ed449de23b7e23b1a1c"), looks := true }, kinds := [], alts := [], laidByText := true, laidKinds := [.data, .data, .data, .data, .sentinel, .sentinel, .pinned], laidTests := true, laidLooks := .later }
def TopHeardUptoCardSaid : Prop := Claim7.holds Tryz.pinned (.plain (OpenSpec.upto topHeardSpec)) topHeardUptoCard

/-- THE SECOND FORM's CARD OF 'kissinggatetop.TopSync'. -/
def topSyncUptoCard : Claim7 := { stood := { row := topSyncUptoRow, standIns := [], harness := (true, "9076de4860f532afb27c869bd218df7c7ac46e5b33d24ed449de23b7e23b1a1c"), looks := true }, kinds := [], alts := [], laidByText := true, laidKinds := [.data, .data, .data, .data, .sentinel, .sentinel, .pinned], laidTests := true, laidLooks := .later }
def TopSyncUptoCardSaid : Prop := Claim7.holds Tryz.pinned (.plain (OpenSpec.upto topSyncSpec)) topSyncUptoCard

/-- THE SECOND FORM's CARD OF 'kissinggatetop.TopDone'. -/
def topDoneUptoCard : Claim7 := { stood := { row := topDoneUptoRow, standIns := [], harness := (true, "9076de4860f532afb27c869bd218df7c7ac46e5b33d24ed449de23b7e23b1a1c"), looks := true }, kinds := [], alts := [], laidByText := true, laidKinds := [.data, .data, .data, .data, .sentinel, .sentinel, .pinned], laidTests := true, laidLooks := .later }
def TopDoneUptoCardSaid : Prop := Claim7.holds Tryz.pinned (.plain (OpenSpec.upto topDoneSpec)) topDoneUptoCard

/-- THE SECOND FORM's CARD OF 'kissinggatetop.TopConflict'. -/
def topConflictUptoCard : Claim7 := { stood := { row := topConflictUptoRow, standIns := [], harness := (true, "9076de4860f532afb27c869bd218df7c7ac46e5b33d24ed449de23b7e23b1a1c"), looks := true }, kinds := [], alts := [], laidByText := true, laidKinds := [.data, .data, .data, .data, .sentinel, .sentinel, .pinned], laidTests := true, laidLooks := .later }
def TopConflictUptoCardSaid : Prop := Claim7.holds Tryz.pinned (.plain (OpenSpec.upto topConflictSpec)) topConflictUptoCard

/-- THE SECOND FORM's CARD OF 'kissinggatetop.TopEpoch'. -/
def topEpochUptoCard : Claim7 := { stood := { row := topEpochUptoRow, standIns := [], harness := (true, "9076de4860f532afb27c869bd218df7c7ac46e5b33d24ed449de23b7e23b1a1c"), looks := true }, kinds := [], alts := [], laidByText := true, laidKinds := [.data, .data, .data, .data, .sentinel, .sentinel, .pinned], laidTests := true, laidLooks := .later }
def TopEpochUptoCardSaid : Prop := Claim7.holds Tryz.pinned (.plain (OpenSpec.upto topEpochSpec)) topEpochUptoCard

/-- THE SECOND FORM's CARD OF 'kissinggatetop.TopCompare'. -/
def topCompareUptoCard : Claim7 := { stood := { row := topCompareUptoRow, standIns := [], harness := (true, "9076de4860f532afb27c869bd218df7c7ac46e5b33d24ed449de23b7e23b1a1c"), looks := true }, kinds := [], alts := [], laidByText := true, laidKinds := [.data, .data, .data, .data, .sentinel, .sentinel, .pinned], laidTests := true, laidLooks := .later }
def TopCompareUptoCardSaid : Prop := Claim7.holds Tryz.pinned (.plain (OpenSpec.upto topCompareSpec)) topCompareUptoCard

/-- THE SECOND FORM's CARD OF 'kissinggatetop.TopFall'. -/
def topFallUptoCard : Claim7 := { stood := { row := topFallUptoRow, standIns := [], harness := (true, "9076de4860f532afb27c869bd218df7c7ac46e5b33d24ed449de23b7e23b1a1c"), looks := true }, kinds := [], alts := [], laidByText := true, laidKinds := [.data, .data, .data, .data, .sentinel, .sentinel, .pinned], laidTests := true, laidLooks := .later }
def TopFallUptoCardSaid : Prop := Claim7.holds Tryz.pinned (.plain (OpenSpec.upto topFallSpec)) topFallUptoCard

/-- THE SECOND FORM's CARD OF 'kissinggatetop.TopPower'. -/
def topPowerUptoCard : Claim7 := { stood := { row := topPowerUptoRow, standIns := [], harness := (true, "9076de4860f532afb27c869bd218df7c7ac46e5b33d24ed449de23b7e23b1a1c"), looks := true }, kinds := [], alts := [], laidByText := true, laidKinds := [.data, .data, .data, .data, .sentinel, .sentinel, .pinned], laidTests := true, laidLooks := .later }
def TopPowerUptoCardSaid : Prop := Claim7.holds Tryz.pinned (.plain (OpenSpec.upto topPowerSpec)) topPowerUptoCard

/-- THE SECOND FORM's CARD OF 'kissinggatetop.TopAgain'. -/
def topAgainUptoCard : Claim7 := { stood := { row := topAgainUptoRow, standIns := [], harness := (true, "9076de4860f532afb27c869bd218df7c7ac46e5b33d24ed449de23b7e23b1a1c"), looks := true }, kinds := [], alts := [], laidByText := true, laidKinds := [.data, .data, .data, .data, .sentinel, .sentinel, .pinned], laidTests := true, laidLooks := .later }
def TopAgainUptoCardSaid : Prop := Claim7.holds Tryz.pinned (.plain (OpenSpec.upto topAgainSpec)) topAgainUptoCard
end Rows
end Go.Proofs.YtajegiifabfcjaaGreatDoor
