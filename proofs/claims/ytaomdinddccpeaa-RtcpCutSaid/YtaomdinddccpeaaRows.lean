/-
  No cell of these rows narrows 'for every input' (looked for: loops, veiled, ifaces, maps, wideKeys, modest, calm, conditions, laid).
  DERIVED. THE GIVEN ROWS OF THIS SEAT. 11 by the template 'for every input the law returns true; each argument reads behind the call as it read before'; 0 by the template 'total and deterministic' (their statements: YtaomdinddccpeaaTotals.lean).
  GIVEN WITH THE SEED: the statements are not yours to turn. If you find one false, say at which input.
  Laid BY PROGRAM, IN A SANDBOX (cutbox-rows.mjs): the forced cells as the released guide's own fill.sh prints them over the translation f0306e59da5f1827… (all of the seat's roots in one cut). By AI agents, Wed Nov 11 2026. No macro, syntax, notation, axiom, sorry.
-/
import Derived.Test.YtaomdinddccpeaaChecked
import GoSem.Claim
import GoSem.ClaimJoined
import GoSem.ClaimMapViews
import Derived.JoinedTies
import Derived.KernelRfl
namespace Go.Proofs.Ytaomdinddccpeaa
/- THE CELL 'sum', in the pinned program and in every row, IS THE sha256 OF THE DUMP (.gsa) THAT YtaomdinddccpeaaProg.lean LOADS. Nothing in Lean hashes anything: it is a label: what it is worth is what the hold of that sum in a sandbox is worth. -/
noncomputable def Try.pinned : Pinned := { name := "ytaomdinddccpeaa", sum := "f0306e59da5f1827d35ac6bf442ca97cf73cb3ef692595998def230d35c05586", checked := Try.checked }
namespace Rows
def none {H : Type} : Left H := { results := [], args := [] }

/-- 'sluicegatelaw6.PatchAll': WHATEVER THE INPUT: true; the input reads as it did. -/
def patchAllSpec : ChangeSpec := { name := "patchAll", fn := fun _ => fun
  | [d1, d2, d3, d4] => { results := [.lit (.bool true)], args := [d1, d2, d3, d4] }
  | _ => none }
def patchAllRow : OpenClaim := { program := "ytaomdinddccpeaa", sum := "f0306e59da5f1827d35ac6bf442ca97cf73cb3ef692595998def230d35c05586", func := "sluicegate/sluicegatelaw6.PatchAll", spec := "patchAll", apart := false }
def PatchAllSaid : Prop := patchAllRow.holds Try.pinned (OpenSpec.ofChange patchAllSpec)

/-- ITS FALSE NEIGHBOUR: 'it returns false'. Refute it at one input. -/
def patchAllWrong : ChangeSpec := { name := "patchAll", fn := fun _ => fun
  | [d1, d2, d3, d4] => { results := [.lit (.bool false)], args := [d1, d2, d3, d4] }
  | _ => none }
def PatchAllWrongFalsely : Prop := patchAllRow.holds Try.pinned (OpenSpec.ofChange patchAllWrong)

/-- 'sluicegatelaw6.PatchOne': WHATEVER THE INPUT: true; the input reads as it did. -/
def patchOneSpec : ChangeSpec := { name := "patchOne", fn := fun _ => fun
  | [d1, d2, d3, d4] => { results := [.lit (.bool true)], args := [d1, d2, d3, d4] }
  | _ => none }
def patchOneRow : OpenClaim := { program := "ytaomdinddccpeaa", sum := "f0306e59da5f1827d35ac6bf442ca97cf73cb3ef692595998def230d35c05586", func := "sluicegate/sluicegatelaw6.PatchOne", spec := "patchOne", apart := false }
def PatchOneSaid : Prop := patchOneRow.holds Try.pinned (OpenSpec.ofChange patchOneSpec)

/-- ITS FALSE NEIGHBOUR: 'it returns false'. Refute it at one input. -/
def patchOneWrong : ChangeSpec := { name := "patchOne", fn := fun _ => fun
  | [d1, d2, d3, d4] => { results := [.lit (.bool false)], args := [d1, d2, d3, d4] }
  | _ => none }
def PatchOneWrongFalsely : Prop := patchOneRow.holds Try.pinned (OpenSpec.ofChange patchOneWrong)

/-- 'sluicegatelaw6.PatchOrder': WHATEVER THE INPUT: true; the input reads as it did. -/
def patchOrderSpec : ChangeSpec := { name := "patchOrder", fn := fun _ => fun
  | [d1, d2, d3] => { results := [.lit (.bool true)], args := [d1, d2, d3] }
  | _ => none }
def patchOrderRow : OpenClaim := { program := "ytaomdinddccpeaa", sum := "f0306e59da5f1827d35ac6bf442ca97cf73cb3ef692595998def230d35c05586", func := "sluicegate/sluicegatelaw6.PatchOrder", spec := "patchOrder", apart := false }
def PatchOrderSaid : Prop := patchOrderRow.holds Try.pinned (OpenSpec.ofChange patchOrderSpec)

/-- ITS FALSE NEIGHBOUR: 'it returns false'. Refute it at one input. -/
def patchOrderWrong : ChangeSpec := { name := "patchOrder", fn := fun _ => fun
  | [d1, d2, d3] => { results := [.lit (.bool false)], args := [d1, d2, d3] }
  | _ => none }
def PatchOrderWrongFalsely : Prop := patchOrderRow.holds Try.pinned (OpenSpec.ofChange patchOrderWrong)

/-- 'sluicegatelaw6.PatchLast': WHATEVER THE INPUT: true; the input reads as it did. -/
def patchLastSpec : ChangeSpec := { name := "patchLast", fn := fun _ => fun
  | [d1, d2, d3] => { results := [.lit (.bool true)], args := [d1, d2, d3] }
  | _ => none }
def patchLastRow : OpenClaim := { program := "ytaomdinddccpeaa", sum := "f0306e59da5f1827d35ac6bf442ca97cf73cb3ef692595998def230d35c05586", func := "sluicegate/sluicegatelaw6.PatchLast", spec := "patchLast", apart := false }
def PatchLastSaid : Prop := patchLastRow.holds Try.pinned (OpenSpec.ofChange patchLastSpec)

/-- ITS FALSE NEIGHBOUR: 'it returns false'. Refute it at one input. -/
def patchLastWrong : ChangeSpec := { name := "patchLast", fn := fun _ => fun
  | [d1, d2, d3] => { results := [.lit (.bool false)], args := [d1, d2, d3] }
  | _ => none }
def PatchLastWrongFalsely : Prop := patchLastRow.holds Try.pinned (OpenSpec.ofChange patchLastWrong)

/-- 'sluicegatelaw6.PatchOnly': WHATEVER THE INPUT: true; the input reads as it did. -/
def patchOnlySpec : ChangeSpec := { name := "patchOnly", fn := fun _ => fun
  | [d1, d2] => { results := [.lit (.bool true)], args := [d1, d2] }
  | _ => none }
def patchOnlyRow : OpenClaim := { program := "ytaomdinddccpeaa", sum := "f0306e59da5f1827d35ac6bf442ca97cf73cb3ef692595998def230d35c05586", func := "sluicegate/sluicegatelaw6.PatchOnly", spec := "patchOnly", apart := false }
def PatchOnlySaid : Prop := patchOnlyRow.holds Try.pinned (OpenSpec.ofChange patchOnlySpec)

/-- ITS FALSE NEIGHBOUR: 'it returns false'. Refute it at one input. -/
def patchOnlyWrong : ChangeSpec := { name := "patchOnly", fn := fun _ => fun
  | [d1, d2] => { results := [.lit (.bool false)], args := [d1, d2] }
  | _ => none }
def PatchOnlyWrongFalsely : Prop := patchOnlyRow.holds Try.pinned (OpenSpec.ofChange patchOnlyWrong)

/-- 'sluicegatelaw9.RtcpAll': WHATEVER THE INPUT: true; the input reads as it did. -/
def rtcpAllSpec : ChangeSpec := { name := "rtcpAll", fn := fun _ => fun
  | [d] => { results := [.lit (.bool true)], args := [d] }
  | _ => none }
def rtcpAllRow : OpenClaim := { program := "ytaomdinddccpeaa", sum := "f0306e59da5f1827d35ac6bf442ca97cf73cb3ef692595998def230d35c05586", func := "sluicegate/sluicegatelaw9.RtcpAll", spec := "rtcpAll", apart := false }
def RtcpAllSaid : Prop := rtcpAllRow.holds Try.pinned (OpenSpec.ofChange rtcpAllSpec)

/-- ITS FALSE NEIGHBOUR: 'it returns false'. Refute it at one input. -/
def rtcpAllWrong : ChangeSpec := { name := "rtcpAll", fn := fun _ => fun
  | [d] => { results := [.lit (.bool false)], args := [d] }
  | _ => none }
def RtcpAllWrongFalsely : Prop := rtcpAllRow.holds Try.pinned (OpenSpec.ofChange rtcpAllWrong)

/-- 'sluicegatelaw9.RtcpGets': WHATEVER THE INPUT: true; the input reads as it did. -/
def rtcpGetsSpec : ChangeSpec := { name := "rtcpGets", fn := fun _ => fun
  | [d] => { results := [.lit (.bool true)], args := [d] }
  | _ => none }
def rtcpGetsRow : OpenClaim := { program := "ytaomdinddccpeaa", sum := "f0306e59da5f1827d35ac6bf442ca97cf73cb3ef692595998def230d35c05586", func := "sluicegate/sluicegatelaw9.RtcpGets", spec := "rtcpGets", apart := false }
def RtcpGetsSaid : Prop := rtcpGetsRow.holds Try.pinned (OpenSpec.ofChange rtcpGetsSpec)

/-- ITS FALSE NEIGHBOUR: 'it returns false'. Refute it at one input. -/
def rtcpGetsWrong : ChangeSpec := { name := "rtcpGets", fn := fun _ => fun
  | [d] => { results := [.lit (.bool false)], args := [d] }
  | _ => none }
def RtcpGetsWrongFalsely : Prop := rtcpGetsRow.holds Try.pinned (OpenSpec.ofChange rtcpGetsWrong)

/-- 'sluicegatelaw9.RtcpTurn': WHATEVER THE INPUT: true; the input reads as it did. -/
def rtcpTurnSpec : ChangeSpec := { name := "rtcpTurn", fn := fun _ => fun
  | [d] => { results := [.lit (.bool true)], args := [d] }
  | _ => none }
def rtcpTurnRow : OpenClaim := { program := "ytaomdinddccpeaa", sum := "f0306e59da5f1827d35ac6bf442ca97cf73cb3ef692595998def230d35c05586", func := "sluicegate/sluicegatelaw9.RtcpTurn", spec := "rtcpTurn", apart := false }
def RtcpTurnSaid : Prop := rtcpTurnRow.holds Try.pinned (OpenSpec.ofChange rtcpTurnSpec)

/-- ITS FALSE NEIGHBOUR: 'it returns false'. Refute it at one input. -/
def rtcpTurnWrong : ChangeSpec := { name := "rtcpTurn", fn := fun _ => fun
  | [d] => { results := [.lit (.bool false)], args := [d] }
  | _ => none }
def RtcpTurnWrongFalsely : Prop := rtcpTurnRow.holds Try.pinned (OpenSpec.ofChange rtcpTurnWrong)

/-- 'sluicegatelaw9.RtcpBack': WHATEVER THE INPUT: true; the input reads as it did. -/
def rtcpBackSpec : ChangeSpec := { name := "rtcpBack", fn := fun _ => fun
  | [d] => { results := [.lit (.bool true)], args := [d] }
  | _ => none }
def rtcpBackRow : OpenClaim := { program := "ytaomdinddccpeaa", sum := "f0306e59da5f1827d35ac6bf442ca97cf73cb3ef692595998def230d35c05586", func := "sluicegate/sluicegatelaw9.RtcpBack", spec := "rtcpBack", apart := false }
def RtcpBackSaid : Prop := rtcpBackRow.holds Try.pinned (OpenSpec.ofChange rtcpBackSpec)

/-- ITS FALSE NEIGHBOUR: 'it returns false'. Refute it at one input. -/
def rtcpBackWrong : ChangeSpec := { name := "rtcpBack", fn := fun _ => fun
  | [d] => { results := [.lit (.bool false)], args := [d] }
  | _ => none }
def RtcpBackWrongFalsely : Prop := rtcpBackRow.holds Try.pinned (OpenSpec.ofChange rtcpBackWrong)

/-- 'sluicegatelaw9.RtcpJoin': WHATEVER THE INPUT: true; the input reads as it did. -/
def rtcpJoinSpec : ChangeSpec := { name := "rtcpJoin", fn := fun _ => fun
  | [d1, d2] => { results := [.lit (.bool true)], args := [d1, d2] }
  | _ => none }
def rtcpJoinRow : OpenClaim := { program := "ytaomdinddccpeaa", sum := "f0306e59da5f1827d35ac6bf442ca97cf73cb3ef692595998def230d35c05586", func := "sluicegate/sluicegatelaw9.RtcpJoin", spec := "rtcpJoin", apart := false }
def RtcpJoinSaid : Prop := rtcpJoinRow.holds Try.pinned (OpenSpec.ofChange rtcpJoinSpec)

/-- ITS FALSE NEIGHBOUR: 'it returns false'. Refute it at one input. -/
def rtcpJoinWrong : ChangeSpec := { name := "rtcpJoin", fn := fun _ => fun
  | [d1, d2] => { results := [.lit (.bool false)], args := [d1, d2] }
  | _ => none }
def RtcpJoinWrongFalsely : Prop := rtcpJoinRow.holds Try.pinned (OpenSpec.ofChange rtcpJoinWrong)

/-- 'sluicegatelaw9.RtcpCut': WHATEVER THE INPUT: true; the input reads as it did. -/
def rtcpCutSpec : ChangeSpec := { name := "rtcpCut", fn := fun _ => fun
  | [d1, d2] => { results := [.lit (.bool true)], args := [d1, d2] }
  | _ => none }
def rtcpCutRow : OpenClaim := { program := "ytaomdinddccpeaa", sum := "f0306e59da5f1827d35ac6bf442ca97cf73cb3ef692595998def230d35c05586", func := "sluicegate/sluicegatelaw9.RtcpCut", spec := "rtcpCut", apart := false }
def RtcpCutSaid : Prop := rtcpCutRow.holds Try.pinned (OpenSpec.ofChange rtcpCutSpec)

/-- ITS FALSE NEIGHBOUR: 'it returns false'. Refute it at one input. -/
def rtcpCutWrong : ChangeSpec := { name := "rtcpCut", fn := fun _ => fun
  | [d1, d2] => { results := [.lit (.bool false)], args := [d1, d2] }
  | _ => none }
def RtcpCutWrongFalsely : Prop := rtcpCutRow.holds Try.pinned (OpenSpec.ofChange rtcpCutWrong)

/- THE SECOND FORM. 'bulk': how many values and letters a reading holds, each counted each time it is reached (what is shared counts as often as it is met; a slice's spare places count too). A statement '..UptoSaid' is the law's where the arguments, and the package variables that the reading takes, are together of bulk at most 1048576: NARROWER than '..Said'. Prove '..Said' where nothing that the law and all that it calls make is longer than what came in: it says more and counts as full. Else prove '..UptoSaid'. A law counts once. -/
mutual
def uptoBulk {H : Type} : DataW H → Nat
  | .lit (.string bytes) => bytes.length + 1
  | .lit _ => 1
  | .nil => 1
  | .ptr d => uptoBulk d + 1
  | .slice elems spare => uptoBulkAll elems + uptoBulkAll spare + 1
  | .agg parts => uptoBulkAll parts + 1
  | .iface _ d => uptoBulk d + 1
  | .map entries => uptoBulkEntries entries + 1
  | .held _ => 1
def uptoBulkAll {H : Type} : List (DataW H) → Nat
  | [] => 0
  | d :: r => uptoBulk d + uptoBulkAll r
def uptoBulkEntries {H : Type} : List (Lit × DataW H) → Nat
  | [] => 0
  | x :: r => uptoBulkEntry x + uptoBulkEntries r
def uptoBulkEntry {H : Type} : Lit × DataW H → Nat
  | (.string bytes, d) => bytes.length + uptoBulk d + 1
  | (_, d) => uptoBulk d + 1
 end
def uptoSmall : (H : Type) → List (DataW H) → Bool := fun _ ds => decide (uptoBulkAll ds ≤ 1048576)
def OpenSpec.upto (s : _root_.Go.ChangeSpec) : _root_.Go.OpenSpec := { _root_.Go.OpenSpec.ofChange s with cond := some uptoSmall }

/-- 'sluicegatelaw6.PatchAll', WHERE WHAT IT READS IS OF BULK AT MOST 1048576: true; the input reads as it did. -/
def patchAllUptoRow : OpenClaim := { program := "ytaomdinddccpeaa", sum := "f0306e59da5f1827d35ac6bf442ca97cf73cb3ef692595998def230d35c05586", func := "sluicegate/sluicegatelaw6.PatchAll", spec := "patchAll", apart := false, narrowed := true }
def PatchAllUptoSaid : Prop := patchAllUptoRow.holds Try.pinned (OpenSpec.upto patchAllSpec)

/-- 'sluicegatelaw6.PatchOne', WHERE WHAT IT READS IS OF BULK AT MOST 1048576: true; the input reads as it did. -/
def patchOneUptoRow : OpenClaim := { program := "ytaomdinddccpeaa", sum := "f0306e59da5f1827d35ac6bf442ca97cf73cb3ef692595998def230d35c05586", func := "sluicegate/sluicegatelaw6.PatchOne", spec := "patchOne", apart := false, narrowed := true }
def PatchOneUptoSaid : Prop := patchOneUptoRow.holds Try.pinned (OpenSpec.upto patchOneSpec)

/-- 'sluicegatelaw6.PatchOrder', WHERE WHAT IT READS IS OF BULK AT MOST 1048576: true; the input reads as it did. -/
def patchOrderUptoRow : OpenClaim := { program := "ytaomdinddccpeaa", sum := "f0306e59da5f1827d35ac6bf442ca97cf73cb3ef692595998def230d35c05586", func := "sluicegate/sluicegatelaw6.PatchOrder", spec := "patchOrder", apart := false, narrowed := true }
def PatchOrderUptoSaid : Prop := patchOrderUptoRow.holds Try.pinned (OpenSpec.upto patchOrderSpec)

/-- 'sluicegatelaw6.PatchLast', WHERE WHAT IT READS IS OF BULK AT MOST 1048576: true; the input reads as it did. -/
def patchLastUptoRow : OpenClaim := { program := "ytaomdinddccpeaa", sum := "f0306e59da5f1827d35ac6bf442ca97cf73cb3ef692595998def230d35c05586", func := "sluicegate/sluicegatelaw6.PatchLast", spec := "patchLast", apart := false, narrowed := true }
def PatchLastUptoSaid : Prop := patchLastUptoRow.holds Try.pinned (OpenSpec.upto patchLastSpec)

/-- 'sluicegatelaw6.PatchOnly', WHERE WHAT IT READS IS OF BULK AT MOST 1048576: true; the input reads as it did. -/
def patchOnlyUptoRow : OpenClaim := { program := "ytaomdinddccpeaa", sum := "f0306e59da5f1827d35ac6bf442ca97cf73cb3ef692595998def230d35c05586", func := "sluicegate/sluicegatelaw6.PatchOnly", spec := "patchOnly", apart := false, narrowed := true }
def PatchOnlyUptoSaid : Prop := patchOnlyUptoRow.holds Try.pinned (OpenSpec.upto patchOnlySpec)

/-- 'sluicegatelaw9.RtcpAll', WHERE WHAT IT READS IS OF BULK AT MOST 1048576: true; the input reads as it did. -/
def rtcpAllUptoRow : OpenClaim := { program := "ytaomdinddccpeaa", sum := "f0306e59da5f1827d35ac6bf442ca97cf73cb3ef692595998def230d35c05586", func := "sluicegate/sluicegatelaw9.RtcpAll", spec := "rtcpAll", apart := false, narrowed := true }
def RtcpAllUptoSaid : Prop := rtcpAllUptoRow.holds Try.pinned (OpenSpec.upto rtcpAllSpec)

/-- 'sluicegatelaw9.RtcpGets', WHERE WHAT IT READS IS OF BULK AT MOST 1048576: true; the input reads as it did. -/
def rtcpGetsUptoRow : OpenClaim := { program := "ytaomdinddccpeaa", sum := "f0306e59da5f1827d35ac6bf442ca97cf73cb3ef692595998def230d35c05586", func := "sluicegate/sluicegatelaw9.RtcpGets", spec := "rtcpGets", apart := false, narrowed := true }
def RtcpGetsUptoSaid : Prop := rtcpGetsUptoRow.holds Try.pinned (OpenSpec.upto rtcpGetsSpec)

/-- 'sluicegatelaw9.RtcpTurn', WHERE WHAT IT READS IS OF BULK AT MOST 1048576: true; the input reads as it did. -/
def rtcpTurnUptoRow : OpenClaim := { program := "ytaomdinddccpeaa", sum := "f0306e59da5f1827d35ac6bf442ca97cf73cb3ef692595998def230d35c05586", func := "sluicegate/sluicegatelaw9.RtcpTurn", spec := "rtcpTurn", apart := false, narrowed := true }
def RtcpTurnUptoSaid : Prop := rtcpTurnUptoRow.holds Try.pinned (OpenSpec.upto rtcpTurnSpec)

/-- 'sluicegatelaw9.RtcpBack', WHERE WHAT IT READS IS OF BULK AT MOST 1048576: true; the input reads as it did. -/
def rtcpBackUptoRow : OpenClaim := { program := "ytaomdinddccpeaa", sum := "f0306e59da5f1827d35ac6bf442ca97cf73cb3ef692595998def230d35c05586", func := "sluicegate/sluicegatelaw9.RtcpBack", spec := "rtcpBack", apart := false, narrowed := true }
def RtcpBackUptoSaid : Prop := rtcpBackUptoRow.holds Try.pinned (OpenSpec.upto rtcpBackSpec)

/-- 'sluicegatelaw9.RtcpJoin', WHERE WHAT IT READS IS OF BULK AT MOST 1048576: true; the input reads as it did. -/
def rtcpJoinUptoRow : OpenClaim := { program := "ytaomdinddccpeaa", sum := "f0306e59da5f1827d35ac6bf442ca97cf73cb3ef692595998def230d35c05586", func := "sluicegate/sluicegatelaw9.RtcpJoin", spec := "rtcpJoin", apart := false, narrowed := true }
def RtcpJoinUptoSaid : Prop := rtcpJoinUptoRow.holds Try.pinned (OpenSpec.upto rtcpJoinSpec)

/-- 'sluicegatelaw9.RtcpCut', WHERE WHAT IT READS IS OF BULK AT MOST 1048576: true; the input reads as it did. -/
def rtcpCutUptoRow : OpenClaim := { program := "ytaomdinddccpeaa", sum := "f0306e59da5f1827d35ac6bf442ca97cf73cb3ef692595998def230d35c05586", func := "sluicegate/sluicegatelaw9.RtcpCut", spec := "rtcpCut", apart := false, narrowed := true }
def RtcpCutUptoSaid : Prop := rtcpCutUptoRow.holds Try.pinned (OpenSpec.upto rtcpCutSpec)

end Rows
end Go.Proofs.Ytaomdinddccpeaa
