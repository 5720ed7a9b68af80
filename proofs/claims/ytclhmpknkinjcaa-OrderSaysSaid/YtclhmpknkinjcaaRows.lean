/-
  No cell of these rows narrows 'for every input' (looked for: loops, veiled, ifaces, maps, wideKeys, modest, calm, conditions, laid).
  DERIVED. THE GIVEN ROWS OF THIS SEAT. 14 by the template 'for every input the law returns true; each argument reads behind the call as it read before'; 0 by the template 'total and deterministic' (their statements: YtclhmpknkinjcaaTotals.lean).
  GIVEN WITH THE SEED: the statements are not yours to turn. If you find one false, say at which input.
  Laid BY PROGRAM, IN A SANDBOX (cutbox-rows.mjs): the forced cells as the released guide's own fill.sh prints them over the translation 450caaa62d5a405a… (all of the seat's roots in one cut). By AI agents, Wed Nov 11 2026. No macro, syntax, notation, axiom, sorry.
-/
import Derived.Test.YtclhmpknkinjcaaChecked
import GoSem.Claim
import GoSem.ClaimJoined
import GoSem.ClaimMapViews
import Derived.JoinedTies
import Derived.KernelRfl
namespace Go.Proofs.Ytclhmpknkinjcaa
/- THE CELL 'sum', in the pinned program and in every row, IS THE sha256 OF THE DUMP (.gsa) THAT YtclhmpknkinjcaaProg.lean LOADS. Nothing in Lean hashes anything: it is a label: what it is worth is what the hold of that sum in a sandbox is worth. -/
noncomputable def Try.pinned : Pinned := { name := "ytclhmpknkinjcaa", sum := "450caaa62d5a405af0cfc1da891bb9a614332ffd9002d727561503bce8fba7d9", checked := Try.checked }
namespace Rows
def none {H : Type} : Left H := { results := [], args := [] }

/-- 'kissinggatelaw.ReplicaSays': WHATEVER THE INPUT: true; the input reads as it did. -/
def replicaSaysSpec : ChangeSpec := { name := "replicaSays", fn := fun _ => fun
  | [d1, d2, d3, d4, d5] => { results := [.lit (.bool true)], args := [d1, d2, d3, d4, d5] }
  | _ => none }
def replicaSaysRow : OpenClaim := { program := "ytclhmpknkinjcaa", sum := "450caaa62d5a405af0cfc1da891bb9a614332ffd9002d727561503bce8fba7d9", func := "kissinggate/kissinggatelaw.ReplicaSays", spec := "replicaSays", apart := false }
def ReplicaSaysSaid : Prop := replicaSaysRow.holds Try.pinned (OpenSpec.ofChange replicaSaysSpec)

/-- ITS FALSE NEIGHBOUR: 'it returns false'. Refute it at one input. -/
def replicaSaysWrong : ChangeSpec := { name := "replicaSays", fn := fun _ => fun
  | [d1, d2, d3, d4, d5] => { results := [.lit (.bool false)], args := [d1, d2, d3, d4, d5] }
  | _ => none }
def ReplicaSaysWrongFalsely : Prop := replicaSaysRow.holds Try.pinned (OpenSpec.ofChange replicaSaysWrong)

/-- 'kissinggatelaw.GroupSays': WHATEVER THE INPUT: true; the input reads as it did. -/
def groupSaysSpec : ChangeSpec := { name := "groupSays", fn := fun _ => fun
  | [d] => { results := [.lit (.bool true)], args := [d] }
  | _ => none }
def groupSaysRow : OpenClaim := { program := "ytclhmpknkinjcaa", sum := "450caaa62d5a405af0cfc1da891bb9a614332ffd9002d727561503bce8fba7d9", func := "kissinggate/kissinggatelaw.GroupSays", spec := "groupSays", apart := false }
def GroupSaysSaid : Prop := groupSaysRow.holds Try.pinned (OpenSpec.ofChange groupSaysSpec)

/-- ITS FALSE NEIGHBOUR: 'it returns false'. Refute it at one input. -/
def groupSaysWrong : ChangeSpec := { name := "groupSays", fn := fun _ => fun
  | [d] => { results := [.lit (.bool false)], args := [d] }
  | _ => none }
def GroupSaysWrongFalsely : Prop := groupSaysRow.holds Try.pinned (OpenSpec.ofChange groupSaysWrong)

/-- 'kissinggatelaw.DiskSays': WHATEVER THE INPUT: true; the input reads as it did. -/
def diskSaysSpec : ChangeSpec := { name := "diskSays", fn := fun _ => fun
  | [d1, d2] => { results := [.lit (.bool true)], args := [d1, d2] }
  | _ => none }
def diskSaysRow : OpenClaim := { program := "ytclhmpknkinjcaa", sum := "450caaa62d5a405af0cfc1da891bb9a614332ffd9002d727561503bce8fba7d9", func := "kissinggate/kissinggatelaw.DiskSays", spec := "diskSays", apart := false }
def DiskSaysSaid : Prop := diskSaysRow.holds Try.pinned (OpenSpec.ofChange diskSaysSpec)

/-- ITS FALSE NEIGHBOUR: 'it returns false'. Refute it at one input. -/
def diskSaysWrong : ChangeSpec := { name := "diskSays", fn := fun _ => fun
  | [d1, d2] => { results := [.lit (.bool false)], args := [d1, d2] }
  | _ => none }
def DiskSaysWrongFalsely : Prop := diskSaysRow.holds Try.pinned (OpenSpec.ofChange diskSaysWrong)

/-- 'kissinggatelaw.OrderSays': WHATEVER THE INPUT: true; the input reads as it did. -/
def orderSaysSpec : ChangeSpec := { name := "orderSays", fn := fun _ => fun
  | [d1, d2, d3] => { results := [.lit (.bool true)], args := [d1, d2, d3] }
  | _ => none }
def orderSaysRow : OpenClaim := { program := "ytclhmpknkinjcaa", sum := "450caaa62d5a405af0cfc1da891bb9a614332ffd9002d727561503bce8fba7d9", func := "kissinggate/kissinggatelaw.OrderSays", spec := "orderSays", inPlace := ["slices.overlaps[kissinggate/api.Reg]"], unfollowed := true, recurses := true, apart := false }
def OrderSaysSaid : Prop := orderSaysRow.holds Try.pinned (OpenSpec.ofChange orderSaysSpec)

/-- ITS FALSE NEIGHBOUR: 'it returns false'. Refute it at one input. -/
def orderSaysWrong : ChangeSpec := { name := "orderSays", fn := fun _ => fun
  | [d1, d2, d3] => { results := [.lit (.bool false)], args := [d1, d2, d3] }
  | _ => none }
def OrderSaysWrongFalsely : Prop := orderSaysRow.holds Try.pinned (OpenSpec.ofChange orderSaysWrong)

/-- 'kissinggatetop.TopAdmit': WHATEVER THE INPUT: true; the input reads as it did. -/
def topAdmitSpec : ChangeSpec := { name := "topAdmit", fn := fun _ => fun
  | [d1, d2, d3, d4] => { results := [.lit (.bool true)], args := [d1, d2, d3, d4] }
  | _ => none }
def topAdmitRow : OpenClaim := { program := "ytclhmpknkinjcaa", sum := "450caaa62d5a405af0cfc1da891bb9a614332ffd9002d727561503bce8fba7d9", func := "kissinggate/kissinggatetop.TopAdmit", spec := "topAdmit", apart := false }
def TopAdmitSaid : Prop := topAdmitRow.holds Try.pinned (OpenSpec.ofChange topAdmitSpec)

/-- ITS FALSE NEIGHBOUR: 'it returns false'. Refute it at one input. -/
def topAdmitWrong : ChangeSpec := { name := "topAdmit", fn := fun _ => fun
  | [d1, d2, d3, d4] => { results := [.lit (.bool false)], args := [d1, d2, d3, d4] }
  | _ => none }
def TopAdmitWrongFalsely : Prop := topAdmitRow.holds Try.pinned (OpenSpec.ofChange topAdmitWrong)

/-- 'kissinggatetop.TopBox': WHATEVER THE INPUT: true; the input reads as it did. -/
def topBoxSpec : ChangeSpec := { name := "topBox", fn := fun _ => fun
  | [d1, d2] => { results := [.lit (.bool true)], args := [d1, d2] }
  | _ => none }
def topBoxRow : OpenClaim := { program := "ytclhmpknkinjcaa", sum := "450caaa62d5a405af0cfc1da891bb9a614332ffd9002d727561503bce8fba7d9", func := "kissinggate/kissinggatetop.TopBox", spec := "topBox", apart := false }
def TopBoxSaid : Prop := topBoxRow.holds Try.pinned (OpenSpec.ofChange topBoxSpec)

/-- ITS FALSE NEIGHBOUR: 'it returns false'. Refute it at one input. -/
def topBoxWrong : ChangeSpec := { name := "topBox", fn := fun _ => fun
  | [d1, d2] => { results := [.lit (.bool false)], args := [d1, d2] }
  | _ => none }
def TopBoxWrongFalsely : Prop := topBoxRow.holds Try.pinned (OpenSpec.ofChange topBoxWrong)

/-- 'kissinggatetop.TopFence': WHATEVER THE INPUT: true; the input reads as it did. -/
def topFenceSpec : ChangeSpec := { name := "topFence", fn := fun _ => fun
  | [d1, d2, d3] => { results := [.lit (.bool true)], args := [d1, d2, d3] }
  | _ => none }
def topFenceRow : OpenClaim := { program := "ytclhmpknkinjcaa", sum := "450caaa62d5a405af0cfc1da891bb9a614332ffd9002d727561503bce8fba7d9", func := "kissinggate/kissinggatetop.TopFence", spec := "topFence", apart := false }
def TopFenceSaid : Prop := topFenceRow.holds Try.pinned (OpenSpec.ofChange topFenceSpec)

/-- ITS FALSE NEIGHBOUR: 'it returns false'. Refute it at one input. -/
def topFenceWrong : ChangeSpec := { name := "topFence", fn := fun _ => fun
  | [d1, d2, d3] => { results := [.lit (.bool false)], args := [d1, d2, d3] }
  | _ => none }
def TopFenceWrongFalsely : Prop := topFenceRow.holds Try.pinned (OpenSpec.ofChange topFenceWrong)

/-- 'kissinggatetop.TopMost': WHATEVER THE INPUT: true; the input reads as it did. -/
def topMostSpec : ChangeSpec := { name := "topMost", fn := fun _ => fun
  | [d1, d2, d3, d4] => { results := [.lit (.bool true)], args := [d1, d2, d3, d4] }
  | _ => none }
def topMostRow : OpenClaim := { program := "ytclhmpknkinjcaa", sum := "450caaa62d5a405af0cfc1da891bb9a614332ffd9002d727561503bce8fba7d9", func := "kissinggate/kissinggatetop.TopMost", spec := "topMost", apart := false }
def TopMostSaid : Prop := topMostRow.holds Try.pinned (OpenSpec.ofChange topMostSpec)

/-- ITS FALSE NEIGHBOUR: 'it returns false'. Refute it at one input. -/
def topMostWrong : ChangeSpec := { name := "topMost", fn := fun _ => fun
  | [d1, d2, d3, d4] => { results := [.lit (.bool false)], args := [d1, d2, d3, d4] }
  | _ => none }
def TopMostWrongFalsely : Prop := topMostRow.holds Try.pinned (OpenSpec.ofChange topMostWrong)

/-- 'kissinggatetop.TopRead': WHATEVER THE INPUT: true; the input reads as it did. -/
def topReadSpec : ChangeSpec := { name := "topRead", fn := fun _ => fun
  | [d1, d2, d3] => { results := [.lit (.bool true)], args := [d1, d2, d3] }
  | _ => none }
def topReadRow : OpenClaim := { program := "ytclhmpknkinjcaa", sum := "450caaa62d5a405af0cfc1da891bb9a614332ffd9002d727561503bce8fba7d9", func := "kissinggate/kissinggatetop.TopRead", spec := "topRead", apart := false }
def TopReadSaid : Prop := topReadRow.holds Try.pinned (OpenSpec.ofChange topReadSpec)

/-- ITS FALSE NEIGHBOUR: 'it returns false'. Refute it at one input. -/
def topReadWrong : ChangeSpec := { name := "topRead", fn := fun _ => fun
  | [d1, d2, d3] => { results := [.lit (.bool false)], args := [d1, d2, d3] }
  | _ => none }
def TopReadWrongFalsely : Prop := topReadRow.holds Try.pinned (OpenSpec.ofChange topReadWrong)

/-- 'kissinggatetop.TopDisk': WHATEVER THE INPUT: true; the input reads as it did. -/
def topDiskSpec : ChangeSpec := { name := "topDisk", fn := fun _ => fun
  | [d1, d2, d3] => { results := [.lit (.bool true)], args := [d1, d2, d3] }
  | _ => none }
def topDiskRow : OpenClaim := { program := "ytclhmpknkinjcaa", sum := "450caaa62d5a405af0cfc1da891bb9a614332ffd9002d727561503bce8fba7d9", func := "kissinggate/kissinggatetop.TopDisk", spec := "topDisk", apart := false }
def TopDiskSaid : Prop := topDiskRow.holds Try.pinned (OpenSpec.ofChange topDiskSpec)

/-- ITS FALSE NEIGHBOUR: 'it returns false'. Refute it at one input. -/
def topDiskWrong : ChangeSpec := { name := "topDisk", fn := fun _ => fun
  | [d1, d2, d3] => { results := [.lit (.bool false)], args := [d1, d2, d3] }
  | _ => none }
def TopDiskWrongFalsely : Prop := topDiskRow.holds Try.pinned (OpenSpec.ofChange topDiskWrong)

/-- 'kissinggatetop.TopOrder': WHATEVER THE INPUT: true; the input reads as it did. -/
def topOrderSpec : ChangeSpec := { name := "topOrder", fn := fun _ => fun
  | [d1, d2] => { results := [.lit (.bool true)], args := [d1, d2] }
  | _ => none }
def topOrderRow : OpenClaim := { program := "ytclhmpknkinjcaa", sum := "450caaa62d5a405af0cfc1da891bb9a614332ffd9002d727561503bce8fba7d9", func := "kissinggate/kissinggatetop.TopOrder", spec := "topOrder", inPlace := ["slices.overlaps[kissinggate/api.Reg]", "internal/bytealg.IndexByteString"], unfollowed := true, recurses := true, apart := false }
def TopOrderSaid : Prop := topOrderRow.holds Try.pinned (OpenSpec.ofChange topOrderSpec)

/-- ITS FALSE NEIGHBOUR: 'it returns false'. Refute it at one input. -/
def topOrderWrong : ChangeSpec := { name := "topOrder", fn := fun _ => fun
  | [d1, d2] => { results := [.lit (.bool false)], args := [d1, d2] }
  | _ => none }
def TopOrderWrongFalsely : Prop := topOrderRow.holds Try.pinned (OpenSpec.ofChange topOrderWrong)

/-- 'kissinggatetop.TopOut': WHATEVER THE INPUT: true; the input reads as it did. -/
def topOutSpec : ChangeSpec := { name := "topOut", fn := fun _ => fun
  | [d1, d2] => { results := [.lit (.bool true)], args := [d1, d2] }
  | _ => none }
def topOutRow : OpenClaim := { program := "ytclhmpknkinjcaa", sum := "450caaa62d5a405af0cfc1da891bb9a614332ffd9002d727561503bce8fba7d9", func := "kissinggate/kissinggatetop.TopOut", spec := "topOut", inPlace := ["slices.overlaps[kissinggate/api.Reg]", "internal/bytealg.IndexByteString"], unfollowed := true, recurses := true, apart := false }
def TopOutSaid : Prop := topOutRow.holds Try.pinned (OpenSpec.ofChange topOutSpec)

/-- ITS FALSE NEIGHBOUR: 'it returns false'. Refute it at one input. -/
def topOutWrong : ChangeSpec := { name := "topOut", fn := fun _ => fun
  | [d1, d2] => { results := [.lit (.bool false)], args := [d1, d2] }
  | _ => none }
def TopOutWrongFalsely : Prop := topOutRow.holds Try.pinned (OpenSpec.ofChange topOutWrong)

/-- 'kissinggatetop.TopTold': WHATEVER THE INPUT: true; the input reads as it did. -/
def topToldSpec : ChangeSpec := { name := "topTold", fn := fun _ => fun
  | [d1, d2] => { results := [.lit (.bool true)], args := [d1, d2] }
  | _ => none }
def topToldRow : OpenClaim := { program := "ytclhmpknkinjcaa", sum := "450caaa62d5a405af0cfc1da891bb9a614332ffd9002d727561503bce8fba7d9", func := "kissinggate/kissinggatetop.TopTold", spec := "topTold", inPlace := ["slices.overlaps[kissinggate/api.Reg]", "internal/bytealg.IndexByteString"], unfollowed := true, recurses := true, apart := false }
def TopToldSaid : Prop := topToldRow.holds Try.pinned (OpenSpec.ofChange topToldSpec)

/-- ITS FALSE NEIGHBOUR: 'it returns false'. Refute it at one input. -/
def topToldWrong : ChangeSpec := { name := "topTold", fn := fun _ => fun
  | [d1, d2] => { results := [.lit (.bool false)], args := [d1, d2] }
  | _ => none }
def TopToldWrongFalsely : Prop := topToldRow.holds Try.pinned (OpenSpec.ofChange topToldWrong)

/-- 'kissinggatetop.TopFree': WHATEVER THE INPUT: true; the input reads as it did. -/
def topFreeSpec : ChangeSpec := { name := "topFree", fn := fun _ => fun
  | [d1, d2] => { results := [.lit (.bool true)], args := [d1, d2] }
  | _ => none }
def topFreeRow : OpenClaim := { program := "ytclhmpknkinjcaa", sum := "450caaa62d5a405af0cfc1da891bb9a614332ffd9002d727561503bce8fba7d9", func := "kissinggate/kissinggatetop.TopFree", spec := "topFree", inPlace := ["slices.overlaps[kissinggate/api.Reg]", "internal/bytealg.IndexByteString"], unfollowed := true, recurses := true, apart := false }
def TopFreeSaid : Prop := topFreeRow.holds Try.pinned (OpenSpec.ofChange topFreeSpec)

/-- ITS FALSE NEIGHBOUR: 'it returns false'. Refute it at one input. -/
def topFreeWrong : ChangeSpec := { name := "topFree", fn := fun _ => fun
  | [d1, d2] => { results := [.lit (.bool false)], args := [d1, d2] }
  | _ => none }
def TopFreeWrongFalsely : Prop := topFreeRow.holds Try.pinned (OpenSpec.ofChange topFreeWrong)

/- THE SECOND FORM. 'bulk': how many values and letters a reading holds, each counted each time it is reached (what is shared counts as often as it is met; a slice's spare places count too). A statement '..UptoSaid' is the law's where the arguments, and the package variables that the reading takes, are together of bulk at most 1048576: NARROWER than '..Said'. Prove '..Said' where nothing that the law and all that it calls make is longer than what came in: it says more and counts as full. Else prove '..UptoSaid'. A law counts once. -/
mutual
def uptoBulk {H : Type} : DataW H → Nat
  | .lit (.string bytes) => bytes.length + 1
  | .lit _ => 1
  | .nil => 1
  | .ptr d => uptoBulk d + 1
  | .slice elems spare => uptoBulkAll elems + uptoBulkAll spare + 1
  | .agg parts => uptoBulkAll parts + 1
  | .iface _ d => uptoBulk d + 1
  | .map entries => uptoBulkEntries entries + 1
  | .held _ => 1
def uptoBulkAll {H : Type} : List (DataW H) → Nat
  | [] => 0
  | d :: r => uptoBulk d + uptoBulkAll r
def uptoBulkEntries {H : Type} : List (Lit × DataW H) → Nat
  | [] => 0
  | x :: r => uptoBulkEntry x + uptoBulkEntries r
def uptoBulkEntry {H : Type} : Lit × DataW H → Nat
  | (.string bytes, d) => bytes.length + uptoBulk d + 1
  | (_, d) => uptoBulk d + 1
 end
def uptoSmall : (H : Type) → List (DataW H) → Bool := fun _ ds => decide (uptoBulkAll ds ≤ 1048576)
def OpenSpec.upto (s : _root_.Go.ChangeSpec) : _root_.Go.OpenSpec := { _root_.Go.OpenSpec.ofChange s with cond := some uptoSmall }

/-- 'kissinggatelaw.ReplicaSays', WHERE WHAT IT READS IS OF BULK AT MOST 1048576: true; the input reads as it did. -/
def replicaSaysUptoRow : OpenClaim := { program := "ytclhmpknkinjcaa", sum := "450caaa62d5a405af0cfc1da891bb9a614332ffd9002d727561503bce8fba7d9", func := "kissinggate/kissinggatelaw.ReplicaSays", spec := "replicaSays", apart := false, narrowed := true }
def ReplicaSaysUptoSaid : Prop := replicaSaysUptoRow.holds Try.pinned (OpenSpec.upto replicaSaysSpec)

/-- 'kissinggatelaw.GroupSays', WHERE WHAT IT READS IS OF BULK AT MOST 1048576: true; the input reads as it did. -/
def groupSaysUptoRow : OpenClaim := { program := "ytclhmpknkinjcaa", sum := "450caaa62d5a405af0cfc1da891bb9a614332ffd9002d727561503bce8fba7d9", func := "kissinggate/kissinggatelaw.GroupSays", spec := "groupSays", apart := false, narrowed := true }
def GroupSaysUptoSaid : Prop := groupSaysUptoRow.holds Try.pinned (OpenSpec.upto groupSaysSpec)

/-- 'kissinggatelaw.DiskSays', WHERE WHAT IT READS IS OF BULK AT MOST 1048576: true; the input reads as it did. -/
def diskSaysUptoRow : OpenClaim := { program := "ytclhmpknkinjcaa", sum := "450caaa62d5a405af0cfc1da891bb9a614332ffd9002d727561503bce8fba7d9", func := "kissinggate/kissinggatelaw.DiskSays", spec := "diskSays", apart := false, narrowed := true }
def DiskSaysUptoSaid : Prop := diskSaysUptoRow.holds Try.pinned (OpenSpec.upto diskSaysSpec)

/-- 'kissinggatelaw.OrderSays', WHERE WHAT IT READS IS OF BULK AT MOST 1048576: true; the input reads as it did. -/
def orderSaysUptoRow : OpenClaim := { program := "ytclhmpknkinjcaa", sum := "450caaa62d5a405af0cfc1da891bb9a614332ffd9002d727561503bce8fba7d9", func := "kissinggate/kissinggatelaw.OrderSays", spec := "orderSays", inPlace := ["slices.overlaps[kissinggate/api.Reg]"], unfollowed := true, recurses := true, apart := false, narrowed := true }
def OrderSaysUptoSaid : Prop := orderSaysUptoRow.holds Try.pinned (OpenSpec.upto orderSaysSpec)

/-- 'kissinggatetop.TopAdmit', WHERE WHAT IT READS IS OF BULK AT MOST 1048576: true; the input reads as it did. -/
def topAdmitUptoRow : OpenClaim := { program := "ytclhmpknkinjcaa", sum := "450caaa62d5a405af0cfc1da891bb9a614332ffd9002d727561503bce8fba7d9", func := "kissinggate/kissinggatetop.TopAdmit", spec := "topAdmit", apart := false, narrowed := true }
def TopAdmitUptoSaid : Prop := topAdmitUptoRow.holds Try.pinned (OpenSpec.upto topAdmitSpec)

/-- 'kissinggatetop.TopBox', WHERE WHAT IT READS IS OF BULK AT MOST 1048576: true; the input reads as it did. -/
def topBoxUptoRow : OpenClaim := { program := "ytclhmpknkinjcaa", sum := "450caaa62d5a405af0cfc1da891bb9a614332ffd9002d727561503bce8fba7d9", func := "kissinggate/kissinggatetop.TopBox", spec := "topBox", apart := false, narrowed := true }
def TopBoxUptoSaid : Prop := topBoxUptoRow.holds Try.pinned (OpenSpec.upto topBoxSpec)

/-- 'kissinggatetop.TopFence', WHERE WHAT IT READS IS OF BULK AT MOST 1048576: true; the input reads as it did. -/
def topFenceUptoRow : OpenClaim := { program := "ytclhmpknkinjcaa", sum := "450caaa62d5a405af0cfc1da891bb9a614332ffd9002d727561503bce8fba7d9", func := "kissinggate/kissinggatetop.TopFence", spec := "topFence", apart := false, narrowed := true }
def TopFenceUptoSaid : Prop := topFenceUptoRow.holds Try.pinned (OpenSpec.upto topFenceSpec)

/-- 'kissinggatetop.TopMost', WHERE WHAT IT READS IS OF BULK AT MOST 1048576: true; the input reads as it did. -/
def topMostUptoRow : OpenClaim := { program := "ytclhmpknkinjcaa", sum := "450caaa62d5a405af0cfc1da891bb9a614332ffd9002d727561503bce8fba7d9", func := "kissinggate/kissinggatetop.TopMost", spec := "topMost", apart := false, narrowed := true }
def TopMostUptoSaid : Prop := topMostUptoRow.holds Try.pinned (OpenSpec.upto topMostSpec)

/-- 'kissinggatetop.TopRead', WHERE WHAT IT READS IS OF BULK AT MOST 1048576: true; the input reads as it did. -/
def topReadUptoRow : OpenClaim := { program := "ytclhmpknkinjcaa", sum := "450caaa62d5a405af0cfc1da891bb9a614332ffd9002d727561503bce8fba7d9", func := "kissinggate/kissinggatetop.TopRead", spec := "topRead", apart := false, narrowed := true }
def TopReadUptoSaid : Prop := topReadUptoRow.holds Try.pinned (OpenSpec.upto topReadSpec)

/-- 'kissinggatetop.TopDisk', WHERE WHAT IT READS IS OF BULK AT MOST 1048576: true; the input reads as it did. -/
def topDiskUptoRow : OpenClaim := { program := "ytclhmpknkinjcaa", sum := "450caaa62d5a405af0cfc1da891bb9a614332ffd9002d727561503bce8fba7d9", func := "kissinggate/kissinggatetop.TopDisk", spec := "topDisk", apart := false, narrowed := true }
def TopDiskUptoSaid : Prop := topDiskUptoRow.holds Try.pinned (OpenSpec.upto topDiskSpec)

/-- 'kissinggatetop.TopOrder', WHERE WHAT IT READS IS OF BULK AT MOST 1048576: true; the input reads as it did. -/
def topOrderUptoRow : OpenClaim := { program := "ytclhmpknkinjcaa", sum := "450caaa62d5a405af0cfc1da891bb9a614332ffd9002d727561503bce8fba7d9", func := "kissinggate/kissinggatetop.TopOrder", spec := "topOrder", inPlace := ["slices.overlaps[kissinggate/api.Reg]", "internal/bytealg.IndexByteString"], unfollowed := true, recurses := true, apart := false, narrowed := true }
def TopOrderUptoSaid : Prop := topOrderUptoRow.holds Try.pinned (OpenSpec.upto topOrderSpec)

/-- 'kissinggatetop.TopOut', WHERE WHAT IT READS IS OF BULK AT MOST 1048576: true; the input reads as it did. -/
def topOutUptoRow : OpenClaim := { program := "ytclhmpknkinjcaa", sum := "450caaa62d5a405af0cfc1da891bb9a614332ffd9002d727561503bce8fba7d9", func := "kissinggate/kissinggatetop.TopOut", spec := "topOut", inPlace := ["slices.overlaps[kissinggate/api.Reg]", "internal/bytealg.IndexByteString"], unfollowed := true, recurses := true, apart := false, narrowed := true }
def TopOutUptoSaid : Prop := topOutUptoRow.holds Try.pinned (OpenSpec.upto topOutSpec)

/-- 'kissinggatetop.TopTold', WHERE WHAT IT READS IS OF BULK AT MOST 1048576: true; the input reads as it did. -/
def topToldUptoRow : OpenClaim := { program := "ytclhmpknkinjcaa", sum := "450caaa62d5a405af0cfc1da891bb9a614332ffd9002d727561503bce8fba7d9", func := "kissinggate/kissinggatetop.TopTold", spec := "topTold", inPlace := ["slices.overlaps[kissinggate/api.Reg]", "internal/bytealg.IndexByteString"], unfollowed := true, recurses := true, apart := false, narrowed := true }
def TopToldUptoSaid : Prop := topToldUptoRow.holds Try.pinned (OpenSpec.upto topToldSpec)

/-- 'kissinggatetop.TopFree', WHERE WHAT IT READS IS OF BULK AT MOST 1048576: true; the input reads as it did. -/
def topFreeUptoRow : OpenClaim := { program := "ytclhmpknkinjcaa", sum := "450caaa62d5a405af0cfc1da891bb9a614332ffd9002d727561503bce8fba7d9", func := "kissinggate/kissinggatetop.TopFree", spec := "topFree", inPlace := ["slices.overlaps[kissinggate/api.Reg]", "internal/bytealg.IndexByteString"], unfollowed := true, recurses := true, apart := false, narrowed := true }
def TopFreeUptoSaid : Prop := topFreeUptoRow.holds Try.pinned (OpenSpec.upto topFreeSpec)

end Rows
end Go.Proofs.Ytclhmpknkinjcaa
