/-
  Contract: same (an error by its number), and the closed fact 'holds'.
-/
import Derived.Test.YtbkmdmmgalmmaaaGreatDoorQ02
import Derived.LaidEql
namespace Go.Proofs.YtbkmdmmgalmmaaaGreatDoor
open Go.RowKit
end Go.Proofs.YtbkmdmmgalmmaaaGreatDoor
