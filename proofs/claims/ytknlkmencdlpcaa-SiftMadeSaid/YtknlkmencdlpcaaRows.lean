/-
  No cell of these rows narrows 'for every input' (looked for: loops, veiled, ifaces, maps, wideKeys, modest, calm, conditions, laid).
  DERIVED. THE GIVEN ROWS OF THIS SEAT. 11 by the template 'for every input the law returns true; each argument reads behind the call as it read before'; 0 by the template 'total and deterministic' (their statements: YtknlkmencdlpcaaTotals.lean).
  GIVEN WITH THE SEED: the statements are not yours to turn. If you find one false, say at which input.
  Laid BY PROGRAM, IN A SANDBOX (cutbox-rows.mjs): the forced cells as the released guide's own fill.sh prints them over the translation 75914df61718f7c3… (all of the seat's roots in one cut). By AI agents, Wed Nov 11 2026. No macro, syntax, notation, axiom, sorry.
-/
import Derived.Test.YtknlkmencdlpcaaChecked
import GoSem.Claim
import GoSem.ClaimJoined
import GoSem.ClaimMapViews
import Derived.JoinedTies
import Derived.KernelRfl
namespace Go.Proofs.Ytknlkmencdlpcaa
/- THE CELL 'sum', in the pinned program and in every row, IS THE sha256 OF THE DUMP (.gsa) THAT YtknlkmencdlpcaaProg.lean LOADS. Nothing in Lean hashes anything: it is a label: what it is worth is what the hold of that sum in a sandbox is worth. -/
noncomputable def Try.pinned : Pinned := { name := "ytknlkmencdlpcaa", sum := "75914df61718f7c379a89890aabfdcdaa9d00076e2a5b554ebca90f7a5b746a5", checked := Try.checked }
namespace Rows
def none {H : Type} : Left H := { results := [], args := [] }

/-- 'sluicegatelaw6.PatchAll': WHATEVER THE INPUT: true; the input reads as it did. -/
def patchAllSpec : ChangeSpec := { name := "patchAll", fn := fun _ => fun
  | [d1, d2, d3, d4] => { results := [.lit (.bool true)], args := [d1, d2, d3, d4] }
  | _ => none }
def patchAllRow : OpenClaim := { program := "ytknlkmencdlpcaa", sum := "75914df61718f7c379a89890aabfdcdaa9d00076e2a5b554ebca90f7a5b746a5", func := "sluicegate/sluicegatelaw6.PatchAll", spec := "patchAll", apart := false }
def PatchAllSaid : Prop := patchAllRow.holds Try.pinned (OpenSpec.ofChange patchAllSpec)

/-- ITS FALSE NEIGHBOUR: 'it returns false'. Refute it at one input. -/
def patchAllWrong : ChangeSpec := { name := "patchAll", fn := fun _ => fun
  | [d1, d2, d3, d4] => { results := [.lit (.bool false)], args := [d1, d2, d3, d4] }
  | _ => none }
def PatchAllWrongFalsely : Prop := patchAllRow.holds Try.pinned (OpenSpec.ofChange patchAllWrong)

/-- 'sluicegatelaw6.PatchOne': WHATEVER THE INPUT: true; the input reads as it did. -/
def patchOneSpec : ChangeSpec := { name := "patchOne", fn := fun _ => fun
  | [d1, d2, d3, d4] => { results := [.lit (.bool true)], args := [d1, d2, d3, d4] }
  | _ => none }
def patchOneRow : OpenClaim := { program := "ytknlkmencdlpcaa", sum := "75914df61718f7c379a89890aabfdcdaa9d00076e2a5b554ebca90f7a5b746a5", func := "sluicegate/sluicegatelaw6.PatchOne", spec := "patchOne", apart := false }
def PatchOneSaid : Prop := patchOneRow.holds Try.pinned (OpenSpec.ofChange patchOneSpec)

/-- ITS FALSE NEIGHBOUR: 'it returns false'. Refute it at one input. -/
def patchOneWrong : ChangeSpec := { name := "patchOne", fn := fun _ => fun
  | [d1, d2, d3, d4] => { results := [.lit (.bool false)], args := [d1, d2, d3, d4] }
  | _ => none }
def PatchOneWrongFalsely : Prop := patchOneRow.holds Try.pinned (OpenSpec.ofChange patchOneWrong)

/-- 'sluicegatelaw9.RtcpAll': WHATEVER THE INPUT: true; the input reads as it did. -/
def rtcpAllSpec : ChangeSpec := { name := "rtcpAll", fn := fun _ => fun
  | [d] => { results := [.lit (.bool true)], args := [d] }
  | _ => none }
def rtcpAllRow : OpenClaim := { program := "ytknlkmencdlpcaa", sum := "75914df61718f7c379a89890aabfdcdaa9d00076e2a5b554ebca90f7a5b746a5", func := "sluicegate/sluicegatelaw9.RtcpAll", spec := "rtcpAll", apart := false }
def RtcpAllSaid : Prop := rtcpAllRow.holds Try.pinned (OpenSpec.ofChange rtcpAllSpec)

/-- ITS FALSE NEIGHBOUR: 'it returns false'. Refute it at one input. -/
def rtcpAllWrong : ChangeSpec := { name := "rtcpAll", fn := fun _ => fun
  | [d] => { results := [.lit (.bool false)], args := [d] }
  | _ => none }
def RtcpAllWrongFalsely : Prop := rtcpAllRow.holds Try.pinned (OpenSpec.ofChange rtcpAllWrong)

/-- 'sluicegatelaw9.RtcpGets': WHATEVER THE INPUT: true; the input reads as it did. -/
def rtcpGetsSpec : ChangeSpec := { name := "rtcpGets", fn := fun _ => fun
  | [d] => { results := [.lit (.bool true)], args := [d] }
  | _ => none }
def rtcpGetsRow : OpenClaim := { program := "ytknlkmencdlpcaa", sum := "75914df61718f7c379a89890aabfdcdaa9d00076e2a5b554ebca90f7a5b746a5", func := "sluicegate/sluicegatelaw9.RtcpGets", spec := "rtcpGets", apart := false }
def RtcpGetsSaid : Prop := rtcpGetsRow.holds Try.pinned (OpenSpec.ofChange rtcpGetsSpec)

/-- ITS FALSE NEIGHBOUR: 'it returns false'. Refute it at one input. -/
def rtcpGetsWrong : ChangeSpec := { name := "rtcpGets", fn := fun _ => fun
  | [d] => { results := [.lit (.bool false)], args := [d] }
  | _ => none }
def RtcpGetsWrongFalsely : Prop := rtcpGetsRow.holds Try.pinned (OpenSpec.ofChange rtcpGetsWrong)

/-- 'sluicegatelaw12.StorePlays': WHATEVER THE INPUT: true; the input reads as it did. -/
def storePlaysSpec : ChangeSpec := { name := "storePlays", fn := fun _ => fun
  | [d1, d2] => { results := [.lit (.bool true)], args := [d1, d2] }
  | _ => none }
def storePlaysRow : OpenClaim := { program := "ytknlkmencdlpcaa", sum := "75914df61718f7c379a89890aabfdcdaa9d00076e2a5b554ebca90f7a5b746a5", func := "sluicegate/sluicegatelaw12.StorePlays", spec := "storePlays", apart := false }
def StorePlaysSaid : Prop := storePlaysRow.holds Try.pinned (OpenSpec.ofChange storePlaysSpec)

/-- ITS FALSE NEIGHBOUR: 'it returns false'. Refute it at one input. -/
def storePlaysWrong : ChangeSpec := { name := "storePlays", fn := fun _ => fun
  | [d1, d2] => { results := [.lit (.bool false)], args := [d1, d2] }
  | _ => none }
def StorePlaysWrongFalsely : Prop := storePlaysRow.holds Try.pinned (OpenSpec.ofChange storePlaysWrong)

/-- 'sluicegatelaw24.BatchPlays': WHATEVER THE INPUT: true; the input reads as it did. -/
def batchPlaysSpec : ChangeSpec := { name := "batchPlays", fn := fun _ => fun
  | [d1, d2, d3] => { results := [.lit (.bool true)], args := [d1, d2, d3] }
  | _ => none }
def batchPlaysRow : OpenClaim := { program := "ytknlkmencdlpcaa", sum := "75914df61718f7c379a89890aabfdcdaa9d00076e2a5b554ebca90f7a5b746a5", func := "sluicegate/sluicegatelaw24.BatchPlays", spec := "batchPlays", apart := false }
def BatchPlaysSaid : Prop := batchPlaysRow.holds Try.pinned (OpenSpec.ofChange batchPlaysSpec)

/-- ITS FALSE NEIGHBOUR: 'it returns false'. Refute it at one input. -/
def batchPlaysWrong : ChangeSpec := { name := "batchPlays", fn := fun _ => fun
  | [d1, d2, d3] => { results := [.lit (.bool false)], args := [d1, d2, d3] }
  | _ => none }
def BatchPlaysWrongFalsely : Prop := batchPlaysRow.holds Try.pinned (OpenSpec.ofChange batchPlaysWrong)

/-- 'sluicegatelaw10.SiftAll': WHATEVER THE INPUT: true; the input reads as it did. -/
def siftAllSpec : ChangeSpec := { name := "siftAll", fn := fun _ => fun
  | [d] => { results := [.lit (.bool true)], args := [d] }
  | _ => none }
def siftAllRow : OpenClaim := { program := "ytknlkmencdlpcaa", sum := "75914df61718f7c379a89890aabfdcdaa9d00076e2a5b554ebca90f7a5b746a5", func := "sluicegate/sluicegatelaw10.SiftAll", spec := "siftAll", unfollowed := true, recurses := true, apart := false }
def SiftAllSaid : Prop := siftAllRow.holds Try.pinned (OpenSpec.ofChange siftAllSpec)

/-- ITS FALSE NEIGHBOUR: 'it returns false'. Refute it at one input. -/
def siftAllWrong : ChangeSpec := { name := "siftAll", fn := fun _ => fun
  | [d] => { results := [.lit (.bool false)], args := [d] }
  | _ => none }
def SiftAllWrongFalsely : Prop := siftAllRow.holds Try.pinned (OpenSpec.ofChange siftAllWrong)

/-- 'sluicegatelaw10.SiftSides': WHATEVER THE INPUT: true; the input reads as it did. -/
def siftSidesSpec : ChangeSpec := { name := "siftSides", fn := fun _ => fun
  | [d] => { results := [.lit (.bool true)], args := [d] }
  | _ => none }
def siftSidesRow : OpenClaim := { program := "ytknlkmencdlpcaa", sum := "75914df61718f7c379a89890aabfdcdaa9d00076e2a5b554ebca90f7a5b746a5", func := "sluicegate/sluicegatelaw10.SiftSides", spec := "siftSides", unfollowed := true, recurses := true, apart := false }
def SiftSidesSaid : Prop := siftSidesRow.holds Try.pinned (OpenSpec.ofChange siftSidesSpec)

/-- ITS FALSE NEIGHBOUR: 'it returns false'. Refute it at one input. -/
def siftSidesWrong : ChangeSpec := { name := "siftSides", fn := fun _ => fun
  | [d] => { results := [.lit (.bool false)], args := [d] }
  | _ => none }
def SiftSidesWrongFalsely : Prop := siftSidesRow.holds Try.pinned (OpenSpec.ofChange siftSidesWrong)

/-- 'sluicegatelaw10.SiftDesc': WHATEVER THE INPUT: true; the input reads as it did. -/
def siftDescSpec : ChangeSpec := { name := "siftDesc", fn := fun _ => fun
  | [d] => { results := [.lit (.bool true)], args := [d] }
  | _ => none }
def siftDescRow : OpenClaim := { program := "ytknlkmencdlpcaa", sum := "75914df61718f7c379a89890aabfdcdaa9d00076e2a5b554ebca90f7a5b746a5", func := "sluicegate/sluicegatelaw10.SiftDesc", spec := "siftDesc", unfollowed := true, recurses := true, apart := false }
def SiftDescSaid : Prop := siftDescRow.holds Try.pinned (OpenSpec.ofChange siftDescSpec)

/-- ITS FALSE NEIGHBOUR: 'it returns false'. Refute it at one input. -/
def siftDescWrong : ChangeSpec := { name := "siftDesc", fn := fun _ => fun
  | [d] => { results := [.lit (.bool false)], args := [d] }
  | _ => none }
def SiftDescWrongFalsely : Prop := siftDescRow.holds Try.pinned (OpenSpec.ofChange siftDescWrong)

/-- 'sluicegatelaw10.SiftBack': WHATEVER THE INPUT: true; the input reads as it did. -/
def siftBackSpec : ChangeSpec := { name := "siftBack", fn := fun _ => fun
  | [d] => { results := [.lit (.bool true)], args := [d] }
  | _ => none }
def siftBackRow : OpenClaim := { program := "ytknlkmencdlpcaa", sum := "75914df61718f7c379a89890aabfdcdaa9d00076e2a5b554ebca90f7a5b746a5", func := "sluicegate/sluicegatelaw10.SiftBack", spec := "siftBack", unfollowed := true, recurses := true, apart := false }
def SiftBackSaid : Prop := siftBackRow.holds Try.pinned (OpenSpec.ofChange siftBackSpec)

/-- ITS FALSE NEIGHBOUR: 'it returns false'. Refute it at one input. -/
def siftBackWrong : ChangeSpec := { name := "siftBack", fn := fun _ => fun
  | [d] => { results := [.lit (.bool false)], args := [d] }
  | _ => none }
def SiftBackWrongFalsely : Prop := siftBackRow.holds Try.pinned (OpenSpec.ofChange siftBackWrong)

/-- 'sluicegatelaw10.SiftMade': WHATEVER THE INPUT: true; the input reads as it did. -/
def siftMadeSpec : ChangeSpec := { name := "siftMade", fn := fun _ => fun
  | [d1, d2, d3] => { results := [.lit (.bool true)], args := [d1, d2, d3] }
  | _ => none }
def siftMadeRow : OpenClaim := { program := "ytknlkmencdlpcaa", sum := "75914df61718f7c379a89890aabfdcdaa9d00076e2a5b554ebca90f7a5b746a5", func := "sluicegate/sluicegatelaw10.SiftMade", spec := "siftMade", unfollowed := true, recurses := true, apart := false }
def SiftMadeSaid : Prop := siftMadeRow.holds Try.pinned (OpenSpec.ofChange siftMadeSpec)

/-- ITS FALSE NEIGHBOUR: 'it returns false'. Refute it at one input. -/
def siftMadeWrong : ChangeSpec := { name := "siftMade", fn := fun _ => fun
  | [d1, d2, d3] => { results := [.lit (.bool false)], args := [d1, d2, d3] }
  | _ => none }
def SiftMadeWrongFalsely : Prop := siftMadeRow.holds Try.pinned (OpenSpec.ofChange siftMadeWrong)

/- THE SECOND FORM. 'bulk': how many values and letters a reading holds, each counted each time it is reached (what is shared counts as often as it is met; a slice's spare places count too). A statement '..UptoSaid' is the law's where the arguments, and the package variables that the reading takes, are together of bulk at most 1048576: NARROWER than '..Said'. Prove '..Said' where nothing that the law and all that it calls make is longer than what came in: it says more and counts as full. Else prove '..UptoSaid'. A law counts once. -/
mutual
def uptoBulk {H : Type} : DataW H → Nat
  | .lit (.string bytes) => bytes.length + 1
  | .lit _ => 1
  | .nil => 1
  | .ptr d => uptoBulk d + 1
  | .slice elems spare => uptoBulkAll elems + uptoBulkAll spare + 1
  | .agg parts => uptoBulkAll parts + 1
  | .iface _ d => uptoBulk d + 1
  | .map entries => uptoBulkEntries entries + 1
  | .held _ => 1
def uptoBulkAll {H : Type} : List (DataW H) → Nat
  | [] => 0
  | d :: r => uptoBulk d + uptoBulkAll r
def uptoBulkEntries {H : Type} : List (Lit × DataW H) → Nat
  | [] => 0
  | x :: r => uptoBulkEntry x + uptoBulkEntries r
def uptoBulkEntry {H : Type} : Lit × DataW H → Nat
  | (.string bytes, d) => bytes.length + uptoBulk d + 1
  | (_, d) => uptoBulk d + 1
 end
def uptoSmall : (H : Type) → List (DataW H) → Bool := fun _ ds => decide (uptoBulkAll ds ≤ 1048576)
def OpenSpec.upto (s : _root_.Go.ChangeSpec) : _root_.Go.OpenSpec := { _root_.Go.OpenSpec.ofChange s with cond := some uptoSmall }

/-- 'sluicegatelaw6.PatchAll', WHERE WHAT IT READS IS OF BULK AT MOST 1048576: true; the input reads as it did. -/
def patchAllUptoRow : OpenClaim := { program := "ytknlkmencdlpcaa", sum := "75914df61718f7c379a89890aabfdcdaa9d00076e2a5b554ebca90f7a5b746a5", func := "sluicegate/sluicegatelaw6.PatchAll", spec := "patchAll", apart := false, narrowed := true }
def PatchAllUptoSaid : Prop := patchAllUptoRow.holds Try.pinned (OpenSpec.upto patchAllSpec)

/-- 'sluicegatelaw6.PatchOne', WHERE WHAT IT READS IS OF BULK AT MOST 1048576: true; the input reads as it did. -/
def patchOneUptoRow : OpenClaim := { program := "ytknlkmencdlpcaa", sum := "75914df61718f7c379a89890aabfdcdaa9d00076e2a5b554ebca90f7a5b746a5", func := "sluicegate/sluicegatelaw6.PatchOne", spec := "patchOne", apart := false, narrowed := true }
def PatchOneUptoSaid : Prop := patchOneUptoRow.holds Try.pinned (OpenSpec.upto patchOneSpec)

/-- 'sluicegatelaw9.RtcpAll', WHERE WHAT IT READS IS OF BULK AT MOST 1048576: true; the input reads as it did. -/
def rtcpAllUptoRow : OpenClaim := { program := "ytknlkmencdlpcaa", sum := "75914df61718f7c379a89890aabfdcdaa9d00076e2a5b554ebca90f7a5b746a5", func := "sluicegate/sluicegatelaw9.RtcpAll", spec := "rtcpAll", apart := false, narrowed := true }
def RtcpAllUptoSaid : Prop := rtcpAllUptoRow.holds Try.pinned (OpenSpec.upto rtcpAllSpec)

/-- 'sluicegatelaw9.RtcpGets', WHERE WHAT IT READS IS OF BULK AT MOST 1048576: true; the input reads as it did. -/
def rtcpGetsUptoRow : OpenClaim := { program := "ytknlkmencdlpcaa", sum := "75914df61718f7c379a89890aabfdcdaa9d00076e2a5b554ebca90f7a5b746a5", func := "sluicegate/sluicegatelaw9.RtcpGets", spec := "rtcpGets", apart := false, narrowed := true }
def RtcpGetsUptoSaid : Prop := rtcpGetsUptoRow.holds Try.pinned (OpenSpec.upto rtcpGetsSpec)

/-- 'sluicegatelaw12.StorePlays', WHERE WHAT IT READS IS OF BULK AT MOST 1048576: true; the input reads as it did. -/
def storePlaysUptoRow : OpenClaim := { program := "ytknlkmencdlpcaa", sum := "75914df61718f7c379a89890aabfdcdaa9d00076e2a5b554ebca90f7a5b746a5", func := "sluicegate/sluicegatelaw12.StorePlays", spec := "storePlays", apart := false, narrowed := true }
def StorePlaysUptoSaid : Prop := storePlaysUptoRow.holds Try.pinned (OpenSpec.upto storePlaysSpec)

/-- 'sluicegatelaw24.BatchPlays', WHERE WHAT IT READS IS OF BULK AT MOST 1048576: true; the input reads as it did. -/
def batchPlaysUptoRow : OpenClaim := { program := "ytknlkmencdlpcaa", sum := "75914df61718f7c379a89890aabfdcdaa9d00076e2a5b554ebca90f7a5b746a5", func := "sluicegate/sluicegatelaw24.BatchPlays", spec := "batchPlays", apart := false, narrowed := true }
def BatchPlaysUptoSaid : Prop := batchPlaysUptoRow.holds Try.pinned (OpenSpec.upto batchPlaysSpec)

/-- 'sluicegatelaw10.SiftAll', WHERE WHAT IT READS IS OF BULK AT MOST 1048576: true; the input reads as it did. -/
def siftAllUptoRow : OpenClaim := { program := "ytknlkmencdlpcaa", sum := "75914df61718f7c379a89890aabfdcdaa9d00076e2a5b554ebca90f7a5b746a5", func := "sluicegate/sluicegatelaw10.SiftAll", spec := "siftAll", unfollowed := true, recurses := true, apart := false, narrowed := true }
def SiftAllUptoSaid : Prop := siftAllUptoRow.holds Try.pinned (OpenSpec.upto siftAllSpec)

/-- 'sluicegatelaw10.SiftSides', WHERE WHAT IT READS IS OF BULK AT MOST 1048576: true; the input reads as it did. -/
def siftSidesUptoRow : OpenClaim := { program := "ytknlkmencdlpcaa", sum := "75914df61718f7c379a89890aabfdcdaa9d00076e2a5b554ebca90f7a5b746a5", func := "sluicegate/sluicegatelaw10.SiftSides", spec := "siftSides", unfollowed := true, recurses := true, apart := false, narrowed := true }
def SiftSidesUptoSaid : Prop := siftSidesUptoRow.holds Try.pinned (OpenSpec.upto siftSidesSpec)

/-- 'sluicegatelaw10.SiftDesc', WHERE WHAT IT READS IS OF BULK AT MOST 1048576: true; the input reads as it did. -/
def siftDescUptoRow : OpenClaim := { program := "ytknlkmencdlpcaa", sum := "75914df61718f7c379a89890aabfdcdaa9d00076e2a5b554ebca90f7a5b746a5", func := "sluicegate/sluicegatelaw10.SiftDesc", spec := "siftDesc", unfollowed := true, recurses := true, apart := false, narrowed := true }
def SiftDescUptoSaid : Prop := siftDescUptoRow.holds Try.pinned (OpenSpec.upto siftDescSpec)

/-- 'sluicegatelaw10.SiftBack', WHERE WHAT IT READS IS OF BULK AT MOST 1048576: true; the input reads as it did. -/
def siftBackUptoRow : OpenClaim := { program := "ytknlkmencdlpcaa", sum := "75914df61718f7c379a89890aabfdcdaa9d00076e2a5b554ebca90f7a5b746a5", func := "sluicegate/sluicegatelaw10.SiftBack", spec := "siftBack", unfollowed := true, recurses := true, apart := false, narrowed := true }
def SiftBackUptoSaid : Prop := siftBackUptoRow.holds Try.pinned (OpenSpec.upto siftBackSpec)

/-- 'sluicegatelaw10.SiftMade', WHERE WHAT IT READS IS OF BULK AT MOST 1048576: true; the input reads as it did. -/
def siftMadeUptoRow : OpenClaim := { program := "ytknlkmencdlpcaa", sum := "75914df61718f7c379a89890aabfdcdaa9d00076e2a5b554ebca90f7a5b746a5", func := "sluicegate/sluicegatelaw10.SiftMade", spec := "siftMade", unfollowed := true, recurses := true, apart := false, narrowed := true }
def SiftMadeUptoSaid : Prop := siftMadeUptoRow.holds Try.pinned (OpenSpec.upto siftMadeSpec)

end Rows
end Go.Proofs.Ytknlkmencdlpcaa
