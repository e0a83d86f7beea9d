/-
  No cell of these rows narrows 'for every input' (looked for: loops, veiled, ifaces, maps, wideKeys, modest, calm, conditions, laid).
  DERIVED. THE GIVEN ROWS OF THIS SEAT. 11 by the template 'for every input the law returns true; each argument reads behind the call as it read before'; 0 by the template 'total and deterministic' (their statements: YtnkclbaeamcplaaTotals.lean).
  GIVEN WITH THE SEED: the statements are not yours to turn. If you find one false, say at which input.
  Laid BY PROGRAM, IN A SANDBOX (cutbox-rows.mjs): the forced cells as the released guide's own fill.sh prints them over the translation 82a530bc9821cef2… (all of the seat's roots in one cut). By AI agents, Wed Nov 11 2026. No macro, syntax, notation, axiom, sorry.
-/
import Derived.Test.YtnkclbaeamcplaaChecked
import GoSem.Claim
import GoSem.ClaimJoined
import GoSem.ClaimMapViews
import Derived.JoinedTies
import Derived.KernelRfl
namespace Go.Proofs.Ytnkclbaeamcplaa
/- THE CELL 'sum', in the pinned program and in every row, IS THE sha256 OF THE DUMP (.gsa) THAT YtnkclbaeamcplaaProg.lean LOADS. Nothing in Lean hashes anything: it is a label: what it is worth is what the hold of that sum in a sandbox is worth. -/
noncomputable def Try.pinned : Pinned := { name := "ytnkclbaeamcplaa", sum := "82a530bc9821cef2112fd3ed1f2fcff2aabc353fa67d60c85ca19f987ea73095", checked := Try.checked }
namespace Rows
def none {H : Type} : Left H := { results := [], args := [] }

/-- 'sluicegatelaw7.ReportAll': WHATEVER THE INPUT: true; the input reads as it did. -/
def reportAllSpec : ChangeSpec := { name := "reportAll", fn := fun _ => fun
  | [d] => { results := [.lit (.bool true)], args := [d] }
  | _ => none }
def reportAllRow : OpenClaim := { program := "ytnkclbaeamcplaa", sum := "82a530bc9821cef2112fd3ed1f2fcff2aabc353fa67d60c85ca19f987ea73095", func := "sluicegate/sluicegatelaw7.ReportAll", spec := "reportAll", apart := false }
def ReportAllSaid : Prop := reportAllRow.holds Try.pinned (OpenSpec.ofChange reportAllSpec)

/-- ITS FALSE NEIGHBOUR: 'it returns false'. Refute it at one input. -/
def reportAllWrong : ChangeSpec := { name := "reportAll", fn := fun _ => fun
  | [d] => { results := [.lit (.bool false)], args := [d] }
  | _ => none }
def ReportAllWrongFalsely : Prop := reportAllRow.holds Try.pinned (OpenSpec.ofChange reportAllWrong)

/-- 'sluicegatelaw7.ReportGets': WHATEVER THE INPUT: true; the input reads as it did. -/
def reportGetsSpec : ChangeSpec := { name := "reportGets", fn := fun _ => fun
  | [d] => { results := [.lit (.bool true)], args := [d] }
  | _ => none }
def reportGetsRow : OpenClaim := { program := "ytnkclbaeamcplaa", sum := "82a530bc9821cef2112fd3ed1f2fcff2aabc353fa67d60c85ca19f987ea73095", func := "sluicegate/sluicegatelaw7.ReportGets", spec := "reportGets", apart := false }
def ReportGetsSaid : Prop := reportGetsRow.holds Try.pinned (OpenSpec.ofChange reportGetsSpec)

/-- ITS FALSE NEIGHBOUR: 'it returns false'. Refute it at one input. -/
def reportGetsWrong : ChangeSpec := { name := "reportGets", fn := fun _ => fun
  | [d] => { results := [.lit (.bool false)], args := [d] }
  | _ => none }
def ReportGetsWrongFalsely : Prop := reportGetsRow.holds Try.pinned (OpenSpec.ofChange reportGetsWrong)

/-- 'sluicegatelaw7.ReportTurn': WHATEVER THE INPUT: true; the input reads as it did. -/
def reportTurnSpec : ChangeSpec := { name := "reportTurn", fn := fun _ => fun
  | [d1, d2, d3] => { results := [.lit (.bool true)], args := [d1, d2, d3] }
  | _ => none }
def reportTurnRow : OpenClaim := { program := "ytnkclbaeamcplaa", sum := "82a530bc9821cef2112fd3ed1f2fcff2aabc353fa67d60c85ca19f987ea73095", func := "sluicegate/sluicegatelaw7.ReportTurn", spec := "reportTurn", apart := false }
def ReportTurnSaid : Prop := reportTurnRow.holds Try.pinned (OpenSpec.ofChange reportTurnSpec)

/-- ITS FALSE NEIGHBOUR: 'it returns false'. Refute it at one input. -/
def reportTurnWrong : ChangeSpec := { name := "reportTurn", fn := fun _ => fun
  | [d1, d2, d3] => { results := [.lit (.bool false)], args := [d1, d2, d3] }
  | _ => none }
def ReportTurnWrongFalsely : Prop := reportTurnRow.holds Try.pinned (OpenSpec.ofChange reportTurnWrong)

/-- 'sluicegatelaw7.ReportCut': WHATEVER THE INPUT: true; the input reads as it did. -/
def reportCutSpec : ChangeSpec := { name := "reportCut", fn := fun _ => fun
  | [d1, d2] => { results := [.lit (.bool true)], args := [d1, d2] }
  | _ => none }
def reportCutRow : OpenClaim := { program := "ytnkclbaeamcplaa", sum := "82a530bc9821cef2112fd3ed1f2fcff2aabc353fa67d60c85ca19f987ea73095", func := "sluicegate/sluicegatelaw7.ReportCut", spec := "reportCut", apart := false }
def ReportCutSaid : Prop := reportCutRow.holds Try.pinned (OpenSpec.ofChange reportCutSpec)

/-- ITS FALSE NEIGHBOUR: 'it returns false'. Refute it at one input. -/
def reportCutWrong : ChangeSpec := { name := "reportCut", fn := fun _ => fun
  | [d1, d2] => { results := [.lit (.bool false)], args := [d1, d2] }
  | _ => none }
def ReportCutWrongFalsely : Prop := reportCutRow.holds Try.pinned (OpenSpec.ofChange reportCutWrong)

/-- 'sluicegatelaw5.RtpAll': WHATEVER THE INPUT: true; the input reads as it did. -/
def rtpAllSpec : ChangeSpec := { name := "rtpAll", fn := fun _ => fun
  | [d] => { results := [.lit (.bool true)], args := [d] }
  | _ => none }
def rtpAllRow : OpenClaim := { program := "ytnkclbaeamcplaa", sum := "82a530bc9821cef2112fd3ed1f2fcff2aabc353fa67d60c85ca19f987ea73095", func := "sluicegate/sluicegatelaw5.RtpAll", spec := "rtpAll", apart := false }
def RtpAllSaid : Prop := rtpAllRow.holds Try.pinned (OpenSpec.ofChange rtpAllSpec)

/-- ITS FALSE NEIGHBOUR: 'it returns false'. Refute it at one input. -/
def rtpAllWrong : ChangeSpec := { name := "rtpAll", fn := fun _ => fun
  | [d] => { results := [.lit (.bool false)], args := [d] }
  | _ => none }
def RtpAllWrongFalsely : Prop := rtpAllRow.holds Try.pinned (OpenSpec.ofChange rtpAllWrong)

/-- 'sluicegatelaw5.RtpTurn': WHATEVER THE INPUT: true; the input reads as it did. -/
def rtpTurnSpec : ChangeSpec := { name := "rtpTurn", fn := fun _ => fun
  | [d] => { results := [.lit (.bool true)], args := [d] }
  | _ => none }
def rtpTurnRow : OpenClaim := { program := "ytnkclbaeamcplaa", sum := "82a530bc9821cef2112fd3ed1f2fcff2aabc353fa67d60c85ca19f987ea73095", func := "sluicegate/sluicegatelaw5.RtpTurn", spec := "rtpTurn", apart := false }
def RtpTurnSaid : Prop := rtpTurnRow.holds Try.pinned (OpenSpec.ofChange rtpTurnSpec)

/-- ITS FALSE NEIGHBOUR: 'it returns false'. Refute it at one input. -/
def rtpTurnWrong : ChangeSpec := { name := "rtpTurn", fn := fun _ => fun
  | [d] => { results := [.lit (.bool false)], args := [d] }
  | _ => none }
def RtpTurnWrongFalsely : Prop := rtpTurnRow.holds Try.pinned (OpenSpec.ofChange rtpTurnWrong)

/-- 'sluicegatelaw5.RtpBack': WHATEVER THE INPUT: true; the input reads as it did. -/
def rtpBackSpec : ChangeSpec := { name := "rtpBack", fn := fun _ => fun
  | [d] => { results := [.lit (.bool true)], args := [d] }
  | _ => none }
def rtpBackRow : OpenClaim := { program := "ytnkclbaeamcplaa", sum := "82a530bc9821cef2112fd3ed1f2fcff2aabc353fa67d60c85ca19f987ea73095", func := "sluicegate/sluicegatelaw5.RtpBack", spec := "rtpBack", apart := false }
def RtpBackSaid : Prop := rtpBackRow.holds Try.pinned (OpenSpec.ofChange rtpBackSpec)

/-- ITS FALSE NEIGHBOUR: 'it returns false'. Refute it at one input. -/
def rtpBackWrong : ChangeSpec := { name := "rtpBack", fn := fun _ => fun
  | [d] => { results := [.lit (.bool false)], args := [d] }
  | _ => none }
def RtpBackWrongFalsely : Prop := rtpBackRow.holds Try.pinned (OpenSpec.ofChange rtpBackWrong)

/-- 'sluicegatelaw5.RtpCut': WHATEVER THE INPUT: true; the input reads as it did. -/
def rtpCutSpec : ChangeSpec := { name := "rtpCut", fn := fun _ => fun
  | [d1, d2] => { results := [.lit (.bool true)], args := [d1, d2] }
  | _ => none }
def rtpCutRow : OpenClaim := { program := "ytnkclbaeamcplaa", sum := "82a530bc9821cef2112fd3ed1f2fcff2aabc353fa67d60c85ca19f987ea73095", func := "sluicegate/sluicegatelaw5.RtpCut", spec := "rtpCut", apart := false }
def RtpCutSaid : Prop := rtpCutRow.holds Try.pinned (OpenSpec.ofChange rtpCutSpec)

/-- ITS FALSE NEIGHBOUR: 'it returns false'. Refute it at one input. -/
def rtpCutWrong : ChangeSpec := { name := "rtpCut", fn := fun _ => fun
  | [d1, d2] => { results := [.lit (.bool false)], args := [d1, d2] }
  | _ => none }
def RtpCutWrongFalsely : Prop := rtpCutRow.holds Try.pinned (OpenSpec.ofChange rtpCutWrong)

/-- 'sluicegatelaw5.RtpPad': WHATEVER THE INPUT: true; the input reads as it did. -/
def rtpPadSpec : ChangeSpec := { name := "rtpPad", fn := fun _ => fun
  | [d1, d2, d3] => { results := [.lit (.bool true)], args := [d1, d2, d3] }
  | _ => none }
def rtpPadRow : OpenClaim := { program := "ytnkclbaeamcplaa", sum := "82a530bc9821cef2112fd3ed1f2fcff2aabc353fa67d60c85ca19f987ea73095", func := "sluicegate/sluicegatelaw5.RtpPad", spec := "rtpPad", apart := false }
def RtpPadSaid : Prop := rtpPadRow.holds Try.pinned (OpenSpec.ofChange rtpPadSpec)

/-- ITS FALSE NEIGHBOUR: 'it returns false'. Refute it at one input. -/
def rtpPadWrong : ChangeSpec := { name := "rtpPad", fn := fun _ => fun
  | [d1, d2, d3] => { results := [.lit (.bool false)], args := [d1, d2, d3] }
  | _ => none }
def RtpPadWrongFalsely : Prop := rtpPadRow.holds Try.pinned (OpenSpec.ofChange rtpPadWrong)

/-- 'sluicegatelaw5.RtpGets': WHATEVER THE INPUT: true; the input reads as it did. -/
def rtpGetsSpec : ChangeSpec := { name := "rtpGets", fn := fun _ => fun
  | [d] => { results := [.lit (.bool true)], args := [d] }
  | _ => none }
def rtpGetsRow : OpenClaim := { program := "ytnkclbaeamcplaa", sum := "82a530bc9821cef2112fd3ed1f2fcff2aabc353fa67d60c85ca19f987ea73095", func := "sluicegate/sluicegatelaw5.RtpGets", spec := "rtpGets", apart := false }
def RtpGetsSaid : Prop := rtpGetsRow.holds Try.pinned (OpenSpec.ofChange rtpGetsSpec)

/-- ITS FALSE NEIGHBOUR: 'it returns false'. Refute it at one input. -/
def rtpGetsWrong : ChangeSpec := { name := "rtpGets", fn := fun _ => fun
  | [d] => { results := [.lit (.bool false)], args := [d] }
  | _ => none }
def RtpGetsWrongFalsely : Prop := rtpGetsRow.holds Try.pinned (OpenSpec.ofChange rtpGetsWrong)

/-- 'sluicegatelaw5.RtpOffset': WHATEVER THE INPUT: true; the input reads as it did. -/
def rtpOffsetSpec : ChangeSpec := { name := "rtpOffset", fn := fun _ => fun
  | [d] => { results := [.lit (.bool true)], args := [d] }
  | _ => none }
def rtpOffsetRow : OpenClaim := { program := "ytnkclbaeamcplaa", sum := "82a530bc9821cef2112fd3ed1f2fcff2aabc353fa67d60c85ca19f987ea73095", func := "sluicegate/sluicegatelaw5.RtpOffset", spec := "rtpOffset", apart := false }
def RtpOffsetSaid : Prop := rtpOffsetRow.holds Try.pinned (OpenSpec.ofChange rtpOffsetSpec)

/-- ITS FALSE NEIGHBOUR: 'it returns false'. Refute it at one input. -/
def rtpOffsetWrong : ChangeSpec := { name := "rtpOffset", fn := fun _ => fun
  | [d] => { results := [.lit (.bool false)], args := [d] }
  | _ => none }
def RtpOffsetWrongFalsely : Prop := rtpOffsetRow.holds Try.pinned (OpenSpec.ofChange rtpOffsetWrong)

/- THE SECOND FORM. 'bulk': how many values and letters a reading holds, each counted each time it is reached (what is shared counts as often as it is met; a slice's spare places count too). A statement '..UptoSaid' is the law's where the arguments, and the package variables that the reading takes, are together of bulk at most 1048576: NARROWER than '..Said'. Prove '..Said' where nothing that the law and all that it calls make is longer than what came in: it says more and counts as full. Else prove '..UptoSaid'. A law counts once. -/
mutual
def uptoBulk {H : Type} : DataW H → Nat
  | .lit (.string bytes) => bytes.length + 1
  | .lit _ => 1
  | .nil => 1
  | .ptr d => uptoBulk d + 1
  | .slice elems spare => uptoBulkAll elems + uptoBulkAll spare + 1
  | .agg parts => uptoBulkAll parts + 1
  | .iface _ d => uptoBulk d + 1
  | .map entries => uptoBulkEntries entries + 1
  | .held _ => 1
def uptoBulkAll {H : Type} : List (DataW H) → Nat
  | [] => 0
  | d :: r => uptoBulk d + uptoBulkAll r
def uptoBulkEntries {H : Type} : List (Lit × DataW H) → Nat
  | [] => 0
  | x :: r => uptoBulkEntry x + uptoBulkEntries r
def uptoBulkEntry {H : Type} : Lit × DataW H → Nat
  | (.string bytes, d) => bytes.length + uptoBulk d + 1
  | (_, d) => uptoBulk d + 1
 end
def uptoSmall : (H : Type) → List (DataW H) → Bool := fun _ ds => decide (uptoBulkAll ds ≤ 1048576)
def OpenSpec.upto (s : _root_.Go.ChangeSpec) : _root_.Go.OpenSpec := { _root_.Go.OpenSpec.ofChange s with cond := some uptoSmall }

/-- 'sluicegatelaw7.ReportAll', WHERE WHAT IT READS IS OF BULK AT MOST 1048576: true; the input reads as it did. -/
def reportAllUptoRow : OpenClaim := { program := "ytnkclbaeamcplaa", sum := "82a530bc9821cef2112fd3ed1f2fcff2aabc353fa67d60c85ca19f987ea73095", func := "sluicegate/sluicegatelaw7.ReportAll", spec := "reportAll", apart := false, narrowed := true }
def ReportAllUptoSaid : Prop := reportAllUptoRow.holds Try.pinned (OpenSpec.upto reportAllSpec)

/-- 'sluicegatelaw7.ReportGets', WHERE WHAT IT READS IS OF BULK AT MOST 1048576: true; the input reads as it did. -/
def reportGetsUptoRow : OpenClaim := { program := "ytnkclbaeamcplaa", sum := "82a530bc9821cef2112fd3ed1f2fcff2aabc353fa67d60c85ca19f987ea73095", func := "sluicegate/sluicegatelaw7.ReportGets", spec := "reportGets", apart := false, narrowed := true }
def ReportGetsUptoSaid : Prop := reportGetsUptoRow.holds Try.pinned (OpenSpec.upto reportGetsSpec)

/-- 'sluicegatelaw7.ReportTurn', WHERE WHAT IT READS IS OF BULK AT MOST 1048576: true; the input reads as it did. -/
def reportTurnUptoRow : OpenClaim := { program := "ytnkclbaeamcplaa", sum := "82a530bc9821cef2112fd3ed1f2fcff2aabc353fa67d60c85ca19f987ea73095", func := "sluicegate/sluicegatelaw7.ReportTurn", spec := "reportTurn", apart := false, narrowed := true }
def ReportTurnUptoSaid : Prop := reportTurnUptoRow.holds Try.pinned (OpenSpec.upto reportTurnSpec)

/-- 'sluicegatelaw7.ReportCut', WHERE WHAT IT READS IS OF BULK AT MOST 1048576: true; the input reads as it did. -/
def reportCutUptoRow : OpenClaim := { program := "ytnkclbaeamcplaa", sum := "82a530bc9821cef2112fd3ed1f2fcff2aabc353fa67d60c85ca19f987ea73095", func := "sluicegate/sluicegatelaw7.ReportCut", spec := "reportCut", apart := false, narrowed := true }
def ReportCutUptoSaid : Prop := reportCutUptoRow.holds Try.pinned (OpenSpec.upto reportCutSpec)

/-- 'sluicegatelaw5.RtpAll', WHERE WHAT IT READS IS OF BULK AT MOST 1048576: true; the input reads as it did. -/
def rtpAllUptoRow : OpenClaim := { program := "ytnkclbaeamcplaa", sum := "82a530bc9821cef2112fd3ed1f2fcff2aabc353fa67d60c85ca19f987ea73095", func := "sluicegate/sluicegatelaw5.RtpAll", spec := "rtpAll", apart := false, narrowed := true }
def RtpAllUptoSaid : Prop := rtpAllUptoRow.holds Try.pinned (OpenSpec.upto rtpAllSpec)

/-- 'sluicegatelaw5.RtpTurn', WHERE WHAT IT READS IS OF BULK AT MOST 1048576: true; the input reads as it did. -/
def rtpTurnUptoRow : OpenClaim := { program := "ytnkclbaeamcplaa", sum := "82a530bc9821cef2112fd3ed1f2fcff2aabc353fa67d60c85ca19f987ea73095", func := "sluicegate/sluicegatelaw5.RtpTurn", spec := "rtpTurn", apart := false, narrowed := true }
def RtpTurnUptoSaid : Prop := rtpTurnUptoRow.holds Try.pinned (OpenSpec.upto rtpTurnSpec)

/-- 'sluicegatelaw5.RtpBack', WHERE WHAT IT READS IS OF BULK AT MOST 1048576: true; the input reads as it did. -/
def rtpBackUptoRow : OpenClaim := { program := "ytnkclbaeamcplaa", sum := "82a530bc9821cef2112fd3ed1f2fcff2aabc353fa67d60c85ca19f987ea73095", func := "sluicegate/sluicegatelaw5.RtpBack", spec := "rtpBack", apart := false, narrowed := true }
def RtpBackUptoSaid : Prop := rtpBackUptoRow.holds Try.pinned (OpenSpec.upto rtpBackSpec)

/-- 'sluicegatelaw5.RtpCut', WHERE WHAT IT READS IS OF BULK AT MOST 1048576: true; the input reads as it did. -/
def rtpCutUptoRow : OpenClaim := { program := "ytnkclbaeamcplaa", sum := "82a530bc9821cef2112fd3ed1f2fcff2aabc353fa67d60c85ca19f987ea73095", func := "sluicegate/sluicegatelaw5.RtpCut", spec := "rtpCut", apart := false, narrowed := true }
def RtpCutUptoSaid : Prop := rtpCutUptoRow.holds Try.pinned (OpenSpec.upto rtpCutSpec)

/-- 'sluicegatelaw5.RtpPad', WHERE WHAT IT READS IS OF BULK AT MOST 1048576: true; the input reads as it did. -/
def rtpPadUptoRow : OpenClaim := { program := "ytnkclbaeamcplaa", sum := "82a530bc9821cef2112fd3ed1f2fcff2aabc353fa67d60c85ca19f987ea73095", func := "sluicegate/sluicegatelaw5.RtpPad", spec := "rtpPad", apart := false, narrowed := true }
def RtpPadUptoSaid : Prop := rtpPadUptoRow.holds Try.pinned (OpenSpec.upto rtpPadSpec)

/-- 'sluicegatelaw5.RtpGets', WHERE WHAT IT READS IS OF BULK AT MOST 1048576: true; the input reads as it did. -/
def rtpGetsUptoRow : OpenClaim := { program := "ytnkclbaeamcplaa", sum := "82a530bc9821cef2112fd3ed1f2fcff2aabc353fa67d60c85ca19f987ea73095", func := "sluicegate/sluicegatelaw5.RtpGets", spec := "rtpGets", apart := false, narrowed := true }
def RtpGetsUptoSaid : Prop := rtpGetsUptoRow.holds Try.pinned (OpenSpec.upto rtpGetsSpec)

/-- 'sluicegatelaw5.RtpOffset', WHERE WHAT IT READS IS OF BULK AT MOST 1048576: true; the input reads as it did. -/
def rtpOffsetUptoRow : OpenClaim := { program := "ytnkclbaeamcplaa", sum := "82a530bc9821cef2112fd3ed1f2fcff2aabc353fa67d60c85ca19f987ea73095", func := "sluicegate/sluicegatelaw5.RtpOffset", spec := "rtpOffset", apart := false, narrowed := true }
def RtpOffsetUptoSaid : Prop := rtpOffsetUptoRow.holds Try.pinned (OpenSpec.upto rtpOffsetSpec)

end Rows
end Go.Proofs.Ytnkclbaeamcplaa
