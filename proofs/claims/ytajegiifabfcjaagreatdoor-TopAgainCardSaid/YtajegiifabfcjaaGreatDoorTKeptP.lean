/-
  TopKeptOut, the plain law: nothing that was written ahead of an epoch changes a block of those who take part in it.
-/
import Derived.Test.YtajegiifabfcjaaGreatDoorTTgDone
namespace Go.Proofs.YtajegiifabfcjaaGreatDoor
open Go.RowKit
def lessTo (s t:St):Nat→Bool
 | 0=>false
 | k+1=>(lessTo s t k || lessAt pmay s t ((k:Int)+1) true) || lessAt pmay s t ((k:Int)+1) false
theorem lessTo_four (s t:St):lessTo s t 4=lessB pmay s t:=by
 unfold lessB
 simp only [lessTo,List.range,List.range.loop,List.any_cons,List.any_nil]
 rcases lessAt pmay s t (((0:Nat):Int)+1) true <;> rcases lessAt pmay s t (((0:Nat):Int)+1) false <;>
 rcases lessAt pmay s t (((1:Nat):Int)+1) true <;> rcases lessAt pmay s t (((1:Nat):Int)+1) false <;>
 rcases lessAt pmay s t (((2:Nat):Int)+1) true <;> rcases lessAt pmay s t (((2:Nat):Int)+1) false <;>
 rcases lessAt pmay s t (((3:Nat):Int)+1) true <;> rcases lessAt pmay s t (((3:Nat):Int)+1) false <;> rfl
end Go.Proofs.YtajegiifabfcjaaGreatDoor
