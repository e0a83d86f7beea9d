/-
  No cell of these rows narrows 'for every input' (looked for: loops, veiled, ifaces, maps, wideKeys, modest, calm, conditions, laid).
  DERIVED. THE GIVEN ROWS OF THIS SEAT. 12 by the template 'for every input the law returns true; each argument reads behind the call as it read before'; 0 by the template 'total and deterministic' (their statements: YtnkgkiiagifnmaaTotals.lean).
  GIVEN WITH THE SEED: the statements are not yours to turn. If you find one false, say at which input.
  Laid BY PROGRAM, IN A SANDBOX (cutbox-rows.mjs): the forced cells as the released guide's own fill.sh prints them over the translation 7b474a1a3d417e2f… (all of the seat's roots in one cut). By AI agents, Wed Nov 11 2026. No macro, syntax, notation, axiom, sorry.
-/
import Derived.Test.YtnkgkiiagifnmaaChecked
import GoSem.Claim
import GoSem.ClaimJoined
import GoSem.ClaimMapViews
import Derived.JoinedTies
import Derived.KernelRfl
namespace Go.Proofs.Ytnkgkiiagifnmaa
/- THE CELL 'sum', in the pinned program and in every row, IS THE sha256 OF THE DUMP (.gsa) THAT YtnkgkiiagifnmaaProg.lean LOADS. Nothing in Lean hashes anything: it is a label: what it is worth is what the hold of that sum in a sandbox is worth. -/
noncomputable def Try.pinned : Pinned := { name := "ytnkgkiiagifnmaa", sum := "7b474a1a3d417e2f69cbb86435e2f84685e243c82e156fcf85987ed9be116da4", checked := Try.checked }
namespace Rows
def none {H : Type} : Left H := { results := [], args := [] }

/-- 'sluicegatelaw6.PatchAll': WHATEVER THE INPUT: true; the input reads as it did. -/
def patchAllSpec : ChangeSpec := { name := "patchAll", fn := fun _ => fun
  | [d1, d2, d3, d4] => { results := [.lit (.bool true)], args := [d1, d2, d3, d4] }
  | _ => none }
def patchAllRow : OpenClaim := { program := "ytnkgkiiagifnmaa", sum := "7b474a1a3d417e2f69cbb86435e2f84685e243c82e156fcf85987ed9be116da4", func := "sluicegate/sluicegatelaw6.PatchAll", spec := "patchAll", apart := false }
def PatchAllSaid : Prop := patchAllRow.holds Try.pinned (OpenSpec.ofChange patchAllSpec)

/-- ITS FALSE NEIGHBOUR: 'it returns false'. Refute it at one input. -/
def patchAllWrong : ChangeSpec := { name := "patchAll", fn := fun _ => fun
  | [d1, d2, d3, d4] => { results := [.lit (.bool false)], args := [d1, d2, d3, d4] }
  | _ => none }
def PatchAllWrongFalsely : Prop := patchAllRow.holds Try.pinned (OpenSpec.ofChange patchAllWrong)

/-- 'sluicegatelaw6.PatchOne': WHATEVER THE INPUT: true; the input reads as it did. -/
def patchOneSpec : ChangeSpec := { name := "patchOne", fn := fun _ => fun
  | [d1, d2, d3, d4] => { results := [.lit (.bool true)], args := [d1, d2, d3, d4] }
  | _ => none }
def patchOneRow : OpenClaim := { program := "ytnkgkiiagifnmaa", sum := "7b474a1a3d417e2f69cbb86435e2f84685e243c82e156fcf85987ed9be116da4", func := "sluicegate/sluicegatelaw6.PatchOne", spec := "patchOne", apart := false }
def PatchOneSaid : Prop := patchOneRow.holds Try.pinned (OpenSpec.ofChange patchOneSpec)

/-- ITS FALSE NEIGHBOUR: 'it returns false'. Refute it at one input. -/
def patchOneWrong : ChangeSpec := { name := "patchOne", fn := fun _ => fun
  | [d1, d2, d3, d4] => { results := [.lit (.bool false)], args := [d1, d2, d3, d4] }
  | _ => none }
def PatchOneWrongFalsely : Prop := patchOneRow.holds Try.pinned (OpenSpec.ofChange patchOneWrong)

/-- 'sluicegatelaw9.RtcpAll': WHATEVER THE INPUT: true; the input reads as it did. -/
def rtcpAllSpec : ChangeSpec := { name := "rtcpAll", fn := fun _ => fun
  | [d] => { results := [.lit (.bool true)], args := [d] }
  | _ => none }
def rtcpAllRow : OpenClaim := { program := "ytnkgkiiagifnmaa", sum := "7b474a1a3d417e2f69cbb86435e2f84685e243c82e156fcf85987ed9be116da4", func := "sluicegate/sluicegatelaw9.RtcpAll", spec := "rtcpAll", apart := false }
def RtcpAllSaid : Prop := rtcpAllRow.holds Try.pinned (OpenSpec.ofChange rtcpAllSpec)

/-- ITS FALSE NEIGHBOUR: 'it returns false'. Refute it at one input. -/
def rtcpAllWrong : ChangeSpec := { name := "rtcpAll", fn := fun _ => fun
  | [d] => { results := [.lit (.bool false)], args := [d] }
  | _ => none }
def RtcpAllWrongFalsely : Prop := rtcpAllRow.holds Try.pinned (OpenSpec.ofChange rtcpAllWrong)

/-- 'sluicegatelaw9.RtcpGets': WHATEVER THE INPUT: true; the input reads as it did. -/
def rtcpGetsSpec : ChangeSpec := { name := "rtcpGets", fn := fun _ => fun
  | [d] => { results := [.lit (.bool true)], args := [d] }
  | _ => none }
def rtcpGetsRow : OpenClaim := { program := "ytnkgkiiagifnmaa", sum := "7b474a1a3d417e2f69cbb86435e2f84685e243c82e156fcf85987ed9be116da4", func := "sluicegate/sluicegatelaw9.RtcpGets", spec := "rtcpGets", apart := false }
def RtcpGetsSaid : Prop := rtcpGetsRow.holds Try.pinned (OpenSpec.ofChange rtcpGetsSpec)

/-- ITS FALSE NEIGHBOUR: 'it returns false'. Refute it at one input. -/
def rtcpGetsWrong : ChangeSpec := { name := "rtcpGets", fn := fun _ => fun
  | [d] => { results := [.lit (.bool false)], args := [d] }
  | _ => none }
def RtcpGetsWrongFalsely : Prop := rtcpGetsRow.holds Try.pinned (OpenSpec.ofChange rtcpGetsWrong)

/-- 'sluicegatelaw12.StoreOwn': WHATEVER THE INPUT: true; the input reads as it did. -/
def storeOwnSpec : ChangeSpec := { name := "storeOwn", fn := fun _ => fun
  | [d] => { results := [.lit (.bool true)], args := [d] }
  | _ => none }
def storeOwnRow : OpenClaim := { program := "ytnkgkiiagifnmaa", sum := "7b474a1a3d417e2f69cbb86435e2f84685e243c82e156fcf85987ed9be116da4", func := "sluicegate/sluicegatelaw12.StoreOwn", spec := "storeOwn", apart := false }
def StoreOwnSaid : Prop := storeOwnRow.holds Try.pinned (OpenSpec.ofChange storeOwnSpec)

/-- ITS FALSE NEIGHBOUR: 'it returns false'. Refute it at one input. -/
def storeOwnWrong : ChangeSpec := { name := "storeOwn", fn := fun _ => fun
  | [d] => { results := [.lit (.bool false)], args := [d] }
  | _ => none }
def StoreOwnWrongFalsely : Prop := storeOwnRow.holds Try.pinned (OpenSpec.ofChange storeOwnWrong)

/-- 'sluicegatelaw12.StorePatch': WHATEVER THE INPUT: true; the input reads as it did. -/
def storePatchSpec : ChangeSpec := { name := "storePatch", fn := fun _ => fun
  | [d1, d2, d3] => { results := [.lit (.bool true)], args := [d1, d2, d3] }
  | _ => none }
def storePatchRow : OpenClaim := { program := "ytnkgkiiagifnmaa", sum := "7b474a1a3d417e2f69cbb86435e2f84685e243c82e156fcf85987ed9be116da4", func := "sluicegate/sluicegatelaw12.StorePatch", spec := "storePatch", apart := false }
def StorePatchSaid : Prop := storePatchRow.holds Try.pinned (OpenSpec.ofChange storePatchSpec)

/-- ITS FALSE NEIGHBOUR: 'it returns false'. Refute it at one input. -/
def storePatchWrong : ChangeSpec := { name := "storePatch", fn := fun _ => fun
  | [d1, d2, d3] => { results := [.lit (.bool false)], args := [d1, d2, d3] }
  | _ => none }
def StorePatchWrongFalsely : Prop := storePatchRow.holds Try.pinned (OpenSpec.ofChange storePatchWrong)

/-- 'sluicegatelaw12.StoreAgain': WHATEVER THE INPUT: true; the input reads as it did. -/
def storeAgainSpec : ChangeSpec := { name := "storeAgain", fn := fun _ => fun
  | [d1, d2, d3] => { results := [.lit (.bool true)], args := [d1, d2, d3] }
  | _ => none }
def storeAgainRow : OpenClaim := { program := "ytnkgkiiagifnmaa", sum := "7b474a1a3d417e2f69cbb86435e2f84685e243c82e156fcf85987ed9be116da4", func := "sluicegate/sluicegatelaw12.StoreAgain", spec := "storeAgain", apart := false }
def StoreAgainSaid : Prop := storeAgainRow.holds Try.pinned (OpenSpec.ofChange storeAgainSpec)

/-- ITS FALSE NEIGHBOUR: 'it returns false'. Refute it at one input. -/
def storeAgainWrong : ChangeSpec := { name := "storeAgain", fn := fun _ => fun
  | [d1, d2, d3] => { results := [.lit (.bool false)], args := [d1, d2, d3] }
  | _ => none }
def StoreAgainWrongFalsely : Prop := storeAgainRow.holds Try.pinned (OpenSpec.ofChange storeAgainWrong)

/-- 'sluicegatelaw12.StorePlays': WHATEVER THE INPUT: true; the input reads as it did. -/
def storePlaysSpec : ChangeSpec := { name := "storePlays", fn := fun _ => fun
  | [d1, d2] => { results := [.lit (.bool true)], args := [d1, d2] }
  | _ => none }
def storePlaysRow : OpenClaim := { program := "ytnkgkiiagifnmaa", sum := "7b474a1a3d417e2f69cbb86435e2f84685e243c82e156fcf85987ed9be116da4", func := "sluicegate/sluicegatelaw12.StorePlays", spec := "storePlays", apart := false }
def StorePlaysSaid : Prop := storePlaysRow.holds Try.pinned (OpenSpec.ofChange storePlaysSpec)

/-- ITS FALSE NEIGHBOUR: 'it returns false'. Refute it at one input. -/
def storePlaysWrong : ChangeSpec := { name := "storePlays", fn := fun _ => fun
  | [d1, d2] => { results := [.lit (.bool false)], args := [d1, d2] }
  | _ => none }
def StorePlaysWrongFalsely : Prop := storePlaysRow.holds Try.pinned (OpenSpec.ofChange storePlaysWrong)

/-- 'sluicegatelaw24.BatchOwn': WHATEVER THE INPUT: true; the input reads as it did. -/
def batchOwnSpec : ChangeSpec := { name := "batchOwn", fn := fun _ => fun
  | [d1, d2] => { results := [.lit (.bool true)], args := [d1, d2] }
  | _ => none }
def batchOwnRow : OpenClaim := { program := "ytnkgkiiagifnmaa", sum := "7b474a1a3d417e2f69cbb86435e2f84685e243c82e156fcf85987ed9be116da4", func := "sluicegate/sluicegatelaw24.BatchOwn", spec := "batchOwn", apart := false }
def BatchOwnSaid : Prop := batchOwnRow.holds Try.pinned (OpenSpec.ofChange batchOwnSpec)

/-- ITS FALSE NEIGHBOUR: 'it returns false'. Refute it at one input. -/
def batchOwnWrong : ChangeSpec := { name := "batchOwn", fn := fun _ => fun
  | [d1, d2] => { results := [.lit (.bool false)], args := [d1, d2] }
  | _ => none }
def BatchOwnWrongFalsely : Prop := batchOwnRow.holds Try.pinned (OpenSpec.ofChange batchOwnWrong)

/-- 'sluicegatelaw24.BatchNone': WHATEVER THE INPUT: true; the input reads as it did. -/
def batchNoneSpec : ChangeSpec := { name := "batchNone", fn := fun _ => fun
  | [d] => { results := [.lit (.bool true)], args := [d] }
  | _ => none }
def batchNoneRow : OpenClaim := { program := "ytnkgkiiagifnmaa", sum := "7b474a1a3d417e2f69cbb86435e2f84685e243c82e156fcf85987ed9be116da4", func := "sluicegate/sluicegatelaw24.BatchNone", spec := "batchNone", apart := false }
def BatchNoneSaid : Prop := batchNoneRow.holds Try.pinned (OpenSpec.ofChange batchNoneSpec)

/-- ITS FALSE NEIGHBOUR: 'it returns false'. Refute it at one input. -/
def batchNoneWrong : ChangeSpec := { name := "batchNone", fn := fun _ => fun
  | [d] => { results := [.lit (.bool false)], args := [d] }
  | _ => none }
def BatchNoneWrongFalsely : Prop := batchNoneRow.holds Try.pinned (OpenSpec.ofChange batchNoneWrong)

/-- 'sluicegatelaw24.BatchPlays': WHATEVER THE INPUT: true; the input reads as it did. -/
def batchPlaysSpec : ChangeSpec := { name := "batchPlays", fn := fun _ => fun
  | [d1, d2, d3] => { results := [.lit (.bool true)], args := [d1, d2, d3] }
  | _ => none }
def batchPlaysRow : OpenClaim := { program := "ytnkgkiiagifnmaa", sum := "7b474a1a3d417e2f69cbb86435e2f84685e243c82e156fcf85987ed9be116da4", func := "sluicegate/sluicegatelaw24.BatchPlays", spec := "batchPlays", apart := false }
def BatchPlaysSaid : Prop := batchPlaysRow.holds Try.pinned (OpenSpec.ofChange batchPlaysSpec)

/-- ITS FALSE NEIGHBOUR: 'it returns false'. Refute it at one input. -/
def batchPlaysWrong : ChangeSpec := { name := "batchPlays", fn := fun _ => fun
  | [d1, d2, d3] => { results := [.lit (.bool false)], args := [d1, d2, d3] }
  | _ => none }
def BatchPlaysWrongFalsely : Prop := batchPlaysRow.holds Try.pinned (OpenSpec.ofChange batchPlaysWrong)

/-- 'sluicegatelaw24.BatchFree': WHATEVER THE INPUT: true; the input reads as it did. -/
def batchFreeSpec : ChangeSpec := { name := "batchFree", fn := fun _ => fun
  | [d1, d2] => { results := [.lit (.bool true)], args := [d1, d2] }
  | _ => none }
def batchFreeRow : OpenClaim := { program := "ytnkgkiiagifnmaa", sum := "7b474a1a3d417e2f69cbb86435e2f84685e243c82e156fcf85987ed9be116da4", func := "sluicegate/sluicegatelaw24.BatchFree", spec := "batchFree", apart := false }
def BatchFreeSaid : Prop := batchFreeRow.holds Try.pinned (OpenSpec.ofChange batchFreeSpec)

/-- ITS FALSE NEIGHBOUR: 'it returns false'. Refute it at one input. -/
def batchFreeWrong : ChangeSpec := { name := "batchFree", fn := fun _ => fun
  | [d1, d2] => { results := [.lit (.bool false)], args := [d1, d2] }
  | _ => none }
def BatchFreeWrongFalsely : Prop := batchFreeRow.holds Try.pinned (OpenSpec.ofChange batchFreeWrong)

/- THE SECOND FORM. 'bulk': how many values and letters a reading holds, each counted each time it is reached (what is shared counts as often as it is met; a slice's spare places count too). A statement '..UptoSaid' is the law's where the arguments, and the package variables that the reading takes, are together of bulk at most 1048576: NARROWER than '..Said'. Prove '..Said' where nothing that the law and all that it calls make is longer than what came in: it says more and counts as full. Else prove '..UptoSaid'. A law counts once. -/
mutual
def uptoBulk {H : Type} : DataW H → Nat
  | .lit (.string bytes) => bytes.length + 1
  | .lit _ => 1
  | .nil => 1
  | .ptr d => uptoBulk d + 1
  | .slice elems spare => uptoBulkAll elems + uptoBulkAll spare + 1
  | .agg parts => uptoBulkAll parts + 1
  | .iface _ d => uptoBulk d + 1
  | .map entries => uptoBulkEntries entries + 1
  | .held _ => 1
def uptoBulkAll {H : Type} : List (DataW H) → Nat
  | [] => 0
  | d :: r => uptoBulk d + uptoBulkAll r
def uptoBulkEntries {H : Type} : List (Lit × DataW H) → Nat
  | [] => 0
  | x :: r => uptoBulkEntry x + uptoBulkEntries r
def uptoBulkEntry {H : Type} : Lit × DataW H → Nat
  | (.string bytes, d) => bytes.length + uptoBulk d + 1
  | (_, d) => uptoBulk d + 1
 end
def uptoSmall : (H : Type) → List (DataW H) → Bool := fun _ ds => decide (uptoBulkAll ds ≤ 1048576)
def OpenSpec.upto (s : _root_.Go.ChangeSpec) : _root_.Go.OpenSpec := { _root_.Go.OpenSpec.ofChange s with cond := some uptoSmall }

/-- 'sluicegatelaw6.PatchAll', WHERE WHAT IT READS IS OF BULK AT MOST 1048576: true; the input reads as it did. -/
def patchAllUptoRow : OpenClaim := { program := "ytnkgkiiagifnmaa", sum := "7b474a1a3d417e2f69cbb86435e2f84685e243c82e156fcf85987ed9be116da4", func := "sluicegate/sluicegatelaw6.PatchAll", spec := "patchAll", apart := false, narrowed := true }
def PatchAllUptoSaid : Prop := patchAllUptoRow.holds Try.pinned (OpenSpec.upto patchAllSpec)

/-- 'sluicegatelaw6.PatchOne', WHERE WHAT IT READS IS OF BULK AT MOST 1048576: true; the input reads as it did. -/
def patchOneUptoRow : OpenClaim := { program := "ytnkgkiiagifnmaa", sum := "7b474a1a3d417e2f69cbb86435e2f84685e243c82e156fcf85987ed9be116da4", func := "sluicegate/sluicegatelaw6.PatchOne", spec := "patchOne", apart := false, narrowed := true }
def PatchOneUptoSaid : Prop := patchOneUptoRow.holds Try.pinned (OpenSpec.upto patchOneSpec)

/-- 'sluicegatelaw9.RtcpAll', WHERE WHAT IT READS IS OF BULK AT MOST 1048576: true; the input reads as it did. -/
def rtcpAllUptoRow : OpenClaim := { program := "ytnkgkiiagifnmaa", sum := "7b474a1a3d417e2f69cbb86435e2f84685e243c82e156fcf85987ed9be116da4", func := "sluicegate/sluicegatelaw9.RtcpAll", spec := "rtcpAll", apart := false, narrowed := true }
def RtcpAllUptoSaid : Prop := rtcpAllUptoRow.holds Try.pinned (OpenSpec.upto rtcpAllSpec)

/-- 'sluicegatelaw9.RtcpGets', WHERE WHAT IT READS IS OF BULK AT MOST 1048576: true; the input reads as it did. -/
def rtcpGetsUptoRow : OpenClaim := { program := "ytnkgkiiagifnmaa", sum := "7b474a1a3d417e2f69cbb86435e2f84685e243c82e156fcf85987ed9be116da4", func := "sluicegate/sluicegatelaw9.RtcpGets", spec := "rtcpGets", apart := false, narrowed := true }
def RtcpGetsUptoSaid : Prop := rtcpGetsUptoRow.holds Try.pinned (OpenSpec.upto rtcpGetsSpec)

/-- 'sluicegatelaw12.StoreOwn', WHERE WHAT IT READS IS OF BULK AT MOST 1048576: true; the input reads as it did. -/
def storeOwnUptoRow : OpenClaim := { program := "ytnkgkiiagifnmaa", sum := "7b474a1a3d417e2f69cbb86435e2f84685e243c82e156fcf85987ed9be116da4", func := "sluicegate/sluicegatelaw12.StoreOwn", spec := "storeOwn", apart := false, narrowed := true }
def StoreOwnUptoSaid : Prop := storeOwnUptoRow.holds Try.pinned (OpenSpec.upto storeOwnSpec)

/-- 'sluicegatelaw12.StorePatch', WHERE WHAT IT READS IS OF BULK AT MOST 1048576: true; the input reads as it did. -/
def storePatchUptoRow : OpenClaim := { program := "ytnkgkiiagifnmaa", sum := "7b474a1a3d417e2f69cbb86435e2f84685e243c82e156fcf85987ed9be116da4", func := "sluicegate/sluicegatelaw12.StorePatch", spec := "storePatch", apart := false, narrowed := true }
def StorePatchUptoSaid : Prop := storePatchUptoRow.holds Try.pinned (OpenSpec.upto storePatchSpec)

/-- 'sluicegatelaw12.StoreAgain', WHERE WHAT IT READS IS OF BULK AT MOST 1048576: true; the input reads as it did. -/
def storeAgainUptoRow : OpenClaim := { program := "ytnkgkiiagifnmaa", sum := "7b474a1a3d417e2f69cbb86435e2f84685e243c82e156fcf85987ed9be116da4", func := "sluicegate/sluicegatelaw12.StoreAgain", spec := "storeAgain", apart := false, narrowed := true }
def StoreAgainUptoSaid : Prop := storeAgainUptoRow.holds Try.pinned (OpenSpec.upto storeAgainSpec)

/-- 'sluicegatelaw12.StorePlays', WHERE WHAT IT READS IS OF BULK AT MOST 1048576: true; the input reads as it did. -/
def storePlaysUptoRow : OpenClaim := { program := "ytnkgkiiagifnmaa", sum := "7b474a1a3d417e2f69cbb86435e2f84685e243c82e156fcf85987ed9be116da4", func := "sluicegate/sluicegatelaw12.StorePlays", spec := "storePlays", apart := false, narrowed := true }
def StorePlaysUptoSaid : Prop := storePlaysUptoRow.holds Try.pinned (OpenSpec.upto storePlaysSpec)

/-- 'sluicegatelaw24.BatchOwn', WHERE WHAT IT READS IS OF BULK AT MOST 1048576: true; the input reads as it did. -/
def batchOwnUptoRow : OpenClaim := { program := "ytnkgkiiagifnmaa", sum := "7b474a1a3d417e2f69cbb86435e2f84685e243c82e156fcf85987ed9be116da4", func := "sluicegate/sluicegatelaw24.BatchOwn", spec := "batchOwn", apart := false, narrowed := true }
def BatchOwnUptoSaid : Prop := batchOwnUptoRow.holds Try.pinned (OpenSpec.upto batchOwnSpec)

/-- 'sluicegatelaw24.BatchNone', WHERE WHAT IT READS IS OF BULK AT MOST 1048576: true; the input reads as it did. -/
def batchNoneUptoRow : OpenClaim := { program := "ytnkgkiiagifnmaa", sum := "7b474a1a3d417e2f69cbb86435e2f84685e243c82e156fcf85987ed9be116da4", func := "sluicegate/sluicegatelaw24.BatchNone", spec := "batchNone", apart := false, narrowed := true }
def BatchNoneUptoSaid : Prop := batchNoneUptoRow.holds Try.pinned (OpenSpec.upto batchNoneSpec)

/-- 'sluicegatelaw24.BatchPlays', WHERE WHAT IT READS IS OF BULK AT MOST 1048576: true; the input reads as it did. -/
def batchPlaysUptoRow : OpenClaim := { program := "ytnkgkiiagifnmaa", sum := "7b474a1a3d417e2f69cbb86435e2f84685e243c82e156fcf85987ed9be116da4", func := "sluicegate/sluicegatelaw24.BatchPlays", spec := "batchPlays", apart := false, narrowed := true }
def BatchPlaysUptoSaid : Prop := batchPlaysUptoRow.holds Try.pinned (OpenSpec.upto batchPlaysSpec)

/-- 'sluicegatelaw24.BatchFree', WHERE WHAT IT READS IS OF BULK AT MOST 1048576: true; the input reads as it did. -/
def batchFreeUptoRow : OpenClaim := { program := "ytnkgkiiagifnmaa", sum := "7b474a1a3d417e2f69cbb86435e2f84685e243c82e156fcf85987ed9be116da4", func := "sluicegate/sluicegatelaw24.BatchFree", spec := "batchFree", apart := false, narrowed := true }
def BatchFreeUptoSaid : Prop := batchFreeUptoRow.holds Try.pinned (OpenSpec.upto batchFreeSpec)

end Rows
end Go.Proofs.Ytnkgkiiagifnmaa
