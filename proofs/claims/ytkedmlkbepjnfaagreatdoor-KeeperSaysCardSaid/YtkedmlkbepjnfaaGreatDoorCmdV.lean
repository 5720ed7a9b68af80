/-
  Commands as plain values.
-/
import Derived.Test.YtkedmlkbepjnfaaGreatDoorRep
namespace Go.Proofs.YtkedmlkbepjnfaaGreatDoor
open Go.RowKit

/-- a command -/
structure Cmd where
  op : Int
  who : Int
  key : Int
  new : Int
  typ : Int
  at' : Int
  stays : Bool
  data : ByteArray
  want : ByteArray

abbrev cmdV (c : Cmd) : Value := .agg #[.int .i64 c.op, .int .i64 c.who, .int .i64 c.key, .int .i64 c.new, .int .i64 c.typ, .int .i64 c.at', .bool c.stays, .string c.data, .string c.want]
end Go.Proofs.YtkedmlkbepjnfaaGreatDoor
