/-
  Slices of pairs that a call makes: ownership; slices.Clone, IndexFunc, DeleteFunc at api.Reg.
-/
import Derived.Test.YtamjmejkffhmeaaGreatDoorOwnP
import Derived.WalkSpells
import Derived.Lib.LazyBuf
namespace Go.Proofs.YtamjmejkffhmeaaGreatDoor
open Go.RowKit

end Go.Proofs.YtamjmejkffhmeaaGreatDoor
