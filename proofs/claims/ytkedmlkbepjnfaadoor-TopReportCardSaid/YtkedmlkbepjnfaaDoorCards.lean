/-
  DERIVED. GIVEN WITH THE SEED: THE CARDS: each row of YtkedmlkbepjnfaaDoorRows.lean that lists a variable, with what it lists TIED to the program's text (the seventh form; the later family's looks); each row that meets fmt, with fmt's text TOLD by the authors' own Lean function (tested against real Go, not proved from fmt's source: count such statements apart). THE CARD IS WHAT COUNTS. Prove the row's statement (the work); the ties are given (YtkedmlkbepjnfaaDoorTie.lean); close each card by the builder's one call (the guide's Derived/Test/ToyasCard.lean, 'card_holds'). Laid BY PROGRAM, IN A SANDBOX (cutbox-door.mjs). By AI agents, Wed Nov 11 2026. No macro, syntax, notation, axiom, sorry.
-/
import Derived.Test.YtkedmlkbepjnfaaDoorRows
import GoSem.ClaimSeven
namespace Go.Proofs.YtkedmlkbepjnfaaDoor
namespace Rows

/-- THE TIED CARD OF 'kissinggatelaw.Names'. -/
def namesCard : Claim7 := { stood := { row := namesRow, standIns := [], harness := (true, "c569759215ce0a22322b46e6d7204337e5c574f3c63a256c1dd0535fd8a21e69"), looks := true }, kinds := [], alts := [], laidByText := true, laidKinds := [.data, .data, .data], laidTests := true, laidLooks := .later }
def NamesCardSaid : Prop := Claim7.holds Tryd.pinned (.plain (OpenSpec.ofChange namesSpec)) namesCard

/-- THE TIED CARD OF 'kissinggatetop.TopReport'. -/
def topReportCard : Claim7 := { stood := { row := topReportRow, standIns := [], harness := (true, "c569759215ce0a22322b46e6d7204337e5c574f3c63a256c1dd0535fd8a21e69"), looks := true }, kinds := [], alts := [], laidByText := true, laidKinds := [.data, .data, .data, .data, .sentinel, .sentinel, .pinned], laidTests := true, laidLooks := .later }
def TopReportCardSaid : Prop := Claim7.holds Tryd.pinned (.plain (OpenSpec.ofChange topReportSpec)) topReportCard

/-- THE SECOND FORM's CARD OF 'kissinggatelaw.Names'. -/
def namesUptoCard : Claim7 := { stood := { row := namesUptoRow, standIns := [], harness := (true, "c569759215ce0a22322b46e6d7204337e5c574f3c63a256c1dd0535fd8a21e69"), looks := true }, kinds := [], alts := [], laidByText := true, laidKinds := [.data, .data, .data], laidTests := true, laidLooks := .later }
def NamesUptoCardSaid : Prop := Claim7.holds Tryd.pinned (.plain (OpenSpec.upto namesSpec)) namesUptoCard

/-- THE SECOND FORM's CARD OF 'kissinggatetop.TopReport'. -/
def topReportUptoCard : Claim7 := { stood := { row := topReportUptoRow, standIns := [], harness := (true, "c569759215ce0a22322b46e6d7204337e5c574f3c63a256c1dd0535fd8a21e69"), looks := true }, kinds := [], alts := [], laidByText := true, laidKinds := [.data, .data, .data, .data, .sentinel, .sentinel, .pinned], laidTests := true, laidLooks := .later }
def TopReportUptoCardSaid : Prop := Claim7.holds Tryd.pinned (.plain (OpenSpec.upto topReportSpec)) topReportUptoCard
end Rows
end Go.Proofs.YtkedmlkbepjnfaaDoor
