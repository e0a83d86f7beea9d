/-
  No cell of these rows narrows 'for every input' (looked for: loops, veiled, ifaces, maps, wideKeys, modest, calm, conditions, laid).
  DERIVED. THE GIVEN ROWS OF THIS SEAT. 9 by the template 'for every input the law returns true; each argument reads behind the call as it read before'; 0 by the template 'total and deterministic' (their statements: YtgmgjblekejgnaaTotals.lean).
  GIVEN WITH THE SEED: the statements are not yours to turn. If you find one false, say at which input.
  Laid BY PROGRAM, IN A SANDBOX (cutbox-rows.mjs): the forced cells as the released guide's own fill.sh prints them over the translation c209efc8a7165851… (all of the seat's roots in one cut). By AI agents, Wed Nov 11 2026. No macro, syntax, notation, axiom, sorry.
-/
import Derived.Test.YtgmgjblekejgnaaChecked
import GoSem.Claim
import GoSem.ClaimJoined
import GoSem.ClaimMapViews
import Derived.JoinedTies
import Derived.KernelRfl
namespace Go.Proofs.Ytgmgjblekejgnaa
/- THE CELL 'sum', in the pinned program and in every row, IS THE sha256 OF THE DUMP (.gsa) THAT YtgmgjblekejgnaaProg.lean LOADS. Nothing in Lean hashes anything: it is a label: what it is worth is what the hold of that sum in a sandbox is worth. -/
noncomputable def Try.pinned : Pinned := { name := "ytgmgjblekejgnaa", sum := "c209efc8a7165851270a6a4a26d261d0d10b64b63936a3ca3201f9f55f7ec777", checked := Try.checked }
namespace Rows
def none {H : Type} : Left H := { results := [], args := [] }

/-- 'sluicegatelaw1.FieldAll': WHATEVER THE INPUT: true; the input reads as it did. -/
def fieldAllSpec : ChangeSpec := { name := "fieldAll", fn := fun _ => fun
  | [d1, d2, d3, d4] => { results := [.lit (.bool true)], args := [d1, d2, d3, d4] }
  | _ => none }
def fieldAllRow : OpenClaim := { program := "ytgmgjblekejgnaa", sum := "c209efc8a7165851270a6a4a26d261d0d10b64b63936a3ca3201f9f55f7ec777", func := "sluicegate/sluicegatelaw1.FieldAll", spec := "fieldAll", apart := false }
def FieldAllSaid : Prop := fieldAllRow.holds Try.pinned (OpenSpec.ofChange fieldAllSpec)

/-- ITS FALSE NEIGHBOUR: 'it returns false'. Refute it at one input. -/
def fieldAllWrong : ChangeSpec := { name := "fieldAll", fn := fun _ => fun
  | [d1, d2, d3, d4] => { results := [.lit (.bool false)], args := [d1, d2, d3, d4] }
  | _ => none }
def FieldAllWrongFalsely : Prop := fieldAllRow.holds Try.pinned (OpenSpec.ofChange fieldAllWrong)

/-- 'sluicegatelaw1.FieldTurn': WHATEVER THE INPUT: true; the input reads as it did. -/
def fieldTurnSpec : ChangeSpec := { name := "fieldTurn", fn := fun _ => fun
  | [d1, d2, d3, d4] => { results := [.lit (.bool true)], args := [d1, d2, d3, d4] }
  | _ => none }
def fieldTurnRow : OpenClaim := { program := "ytgmgjblekejgnaa", sum := "c209efc8a7165851270a6a4a26d261d0d10b64b63936a3ca3201f9f55f7ec777", func := "sluicegate/sluicegatelaw1.FieldTurn", spec := "fieldTurn", apart := false }
def FieldTurnSaid : Prop := fieldTurnRow.holds Try.pinned (OpenSpec.ofChange fieldTurnSpec)

/-- ITS FALSE NEIGHBOUR: 'it returns false'. Refute it at one input. -/
def fieldTurnWrong : ChangeSpec := { name := "fieldTurn", fn := fun _ => fun
  | [d1, d2, d3, d4] => { results := [.lit (.bool false)], args := [d1, d2, d3, d4] }
  | _ => none }
def FieldTurnWrongFalsely : Prop := fieldTurnRow.holds Try.pinned (OpenSpec.ofChange fieldTurnWrong)

/-- 'sluicegatelaw1.FieldParts': WHATEVER THE INPUT: true; the input reads as it did. -/
def fieldPartsSpec : ChangeSpec := { name := "fieldParts", fn := fun _ => fun
  | [d1, d2, d3, d4] => { results := [.lit (.bool true)], args := [d1, d2, d3, d4] }
  | _ => none }
def fieldPartsRow : OpenClaim := { program := "ytgmgjblekejgnaa", sum := "c209efc8a7165851270a6a4a26d261d0d10b64b63936a3ca3201f9f55f7ec777", func := "sluicegate/sluicegatelaw1.FieldParts", spec := "fieldParts", apart := false }
def FieldPartsSaid : Prop := fieldPartsRow.holds Try.pinned (OpenSpec.ofChange fieldPartsSpec)

/-- ITS FALSE NEIGHBOUR: 'it returns false'. Refute it at one input. -/
def fieldPartsWrong : ChangeSpec := { name := "fieldParts", fn := fun _ => fun
  | [d1, d2, d3, d4] => { results := [.lit (.bool false)], args := [d1, d2, d3, d4] }
  | _ => none }
def FieldPartsWrongFalsely : Prop := fieldPartsRow.holds Try.pinned (OpenSpec.ofChange fieldPartsWrong)

/-- 'sluicegatelaw1.FieldOrder': WHATEVER THE INPUT: true; the input reads as it did. -/
def fieldOrderSpec : ChangeSpec := { name := "fieldOrder", fn := fun _ => fun
  | [d1, d2, d3] => { results := [.lit (.bool true)], args := [d1, d2, d3] }
  | _ => none }
def fieldOrderRow : OpenClaim := { program := "ytgmgjblekejgnaa", sum := "c209efc8a7165851270a6a4a26d261d0d10b64b63936a3ca3201f9f55f7ec777", func := "sluicegate/sluicegatelaw1.FieldOrder", spec := "fieldOrder", apart := false }
def FieldOrderSaid : Prop := fieldOrderRow.holds Try.pinned (OpenSpec.ofChange fieldOrderSpec)

/-- ITS FALSE NEIGHBOUR: 'it returns false'. Refute it at one input. -/
def fieldOrderWrong : ChangeSpec := { name := "fieldOrder", fn := fun _ => fun
  | [d1, d2, d3] => { results := [.lit (.bool false)], args := [d1, d2, d3] }
  | _ => none }
def FieldOrderWrongFalsely : Prop := fieldOrderRow.holds Try.pinned (OpenSpec.ofChange fieldOrderWrong)

/-- 'sluicegatelaw1.FieldRow': WHATEVER THE INPUT: true; the input reads as it did. -/
def fieldRowSpec : ChangeSpec := { name := "fieldRow", fn := fun _ => fun
  | [d1, d2] => { results := [.lit (.bool true)], args := [d1, d2] }
  | _ => none }
def fieldRowRow : OpenClaim := { program := "ytgmgjblekejgnaa", sum := "c209efc8a7165851270a6a4a26d261d0d10b64b63936a3ca3201f9f55f7ec777", func := "sluicegate/sluicegatelaw1.FieldRow", spec := "fieldRow", apart := false }
def FieldRowSaid : Prop := fieldRowRow.holds Try.pinned (OpenSpec.ofChange fieldRowSpec)

/-- ITS FALSE NEIGHBOUR: 'it returns false'. Refute it at one input. -/
def fieldRowWrong : ChangeSpec := { name := "fieldRow", fn := fun _ => fun
  | [d1, d2] => { results := [.lit (.bool false)], args := [d1, d2] }
  | _ => none }
def FieldRowWrongFalsely : Prop := fieldRowRow.holds Try.pinned (OpenSpec.ofChange fieldRowWrong)

/-- 'sluicegatelaw4.DescAll': WHATEVER THE INPUT: true; the input reads as it did. -/
def descAllSpec : ChangeSpec := { name := "descAll", fn := fun _ => fun
  | [d1, d2] => { results := [.lit (.bool true)], args := [d1, d2] }
  | _ => none }
def descAllRow : OpenClaim := { program := "ytgmgjblekejgnaa", sum := "c209efc8a7165851270a6a4a26d261d0d10b64b63936a3ca3201f9f55f7ec777", func := "sluicegate/sluicegatelaw4.DescAll", spec := "descAll", apart := false }
def DescAllSaid : Prop := descAllRow.holds Try.pinned (OpenSpec.ofChange descAllSpec)

/-- ITS FALSE NEIGHBOUR: 'it returns false'. Refute it at one input. -/
def descAllWrong : ChangeSpec := { name := "descAll", fn := fun _ => fun
  | [d1, d2] => { results := [.lit (.bool false)], args := [d1, d2] }
  | _ => none }
def DescAllWrongFalsely : Prop := descAllRow.holds Try.pinned (OpenSpec.ofChange descAllWrong)

/-- 'sluicegatelaw4.DescTurn': WHATEVER THE INPUT: true; the input reads as it did. -/
def descTurnSpec : ChangeSpec := { name := "descTurn", fn := fun _ => fun
  | [d1, d2] => { results := [.lit (.bool true)], args := [d1, d2] }
  | _ => none }
def descTurnRow : OpenClaim := { program := "ytgmgjblekejgnaa", sum := "c209efc8a7165851270a6a4a26d261d0d10b64b63936a3ca3201f9f55f7ec777", func := "sluicegate/sluicegatelaw4.DescTurn", spec := "descTurn", apart := false }
def DescTurnSaid : Prop := descTurnRow.holds Try.pinned (OpenSpec.ofChange descTurnSpec)

/-- ITS FALSE NEIGHBOUR: 'it returns false'. Refute it at one input. -/
def descTurnWrong : ChangeSpec := { name := "descTurn", fn := fun _ => fun
  | [d1, d2] => { results := [.lit (.bool false)], args := [d1, d2] }
  | _ => none }
def DescTurnWrongFalsely : Prop := descTurnRow.holds Try.pinned (OpenSpec.ofChange descTurnWrong)

/-- 'sluicegatelaw4.DescBack': WHATEVER THE INPUT: true; the input reads as it did. -/
def descBackSpec : ChangeSpec := { name := "descBack", fn := fun _ => fun
  | [d1, d2, d3, d4] => { results := [.lit (.bool true)], args := [d1, d2, d3, d4] }
  | _ => none }
def descBackRow : OpenClaim := { program := "ytgmgjblekejgnaa", sum := "c209efc8a7165851270a6a4a26d261d0d10b64b63936a3ca3201f9f55f7ec777", func := "sluicegate/sluicegatelaw4.DescBack", spec := "descBack", apart := false }
def DescBackSaid : Prop := descBackRow.holds Try.pinned (OpenSpec.ofChange descBackSpec)

/-- ITS FALSE NEIGHBOUR: 'it returns false'. Refute it at one input. -/
def descBackWrong : ChangeSpec := { name := "descBack", fn := fun _ => fun
  | [d1, d2, d3, d4] => { results := [.lit (.bool false)], args := [d1, d2, d3, d4] }
  | _ => none }
def DescBackWrongFalsely : Prop := descBackRow.holds Try.pinned (OpenSpec.ofChange descBackWrong)

/-- 'sluicegatelaw4.DescShort': WHATEVER THE INPUT: true; the input reads as it did. -/
def descShortSpec : ChangeSpec := { name := "descShort", fn := fun _ => fun
  | [d1, d2] => { results := [.lit (.bool true)], args := [d1, d2] }
  | _ => none }
def descShortRow : OpenClaim := { program := "ytgmgjblekejgnaa", sum := "c209efc8a7165851270a6a4a26d261d0d10b64b63936a3ca3201f9f55f7ec777", func := "sluicegate/sluicegatelaw4.DescShort", spec := "descShort", apart := false }
def DescShortSaid : Prop := descShortRow.holds Try.pinned (OpenSpec.ofChange descShortSpec)

/-- ITS FALSE NEIGHBOUR: 'it returns false'. Refute it at one input. -/
def descShortWrong : ChangeSpec := { name := "descShort", fn := fun _ => fun
  | [d1, d2] => { results := [.lit (.bool false)], args := [d1, d2] }
  | _ => none }
def DescShortWrongFalsely : Prop := descShortRow.holds Try.pinned (OpenSpec.ofChange descShortWrong)

/- THE SECOND FORM. 'bulk': how many values and letters a reading holds, each counted each time it is reached (what is shared counts as often as it is met; a slice's spare places count too). A statement '..UptoSaid' is the law's where the arguments, and the package variables that the reading takes, are together of bulk at most 1048576: NARROWER than '..Said'. Prove '..Said' where nothing that the law and all that it calls make is longer than what came in: it says more and counts as full. Else prove '..UptoSaid'. A law counts once. -/
mutual
def uptoBulk {H : Type} : DataW H → Nat
  | .lit (.string bytes) => bytes.length + 1
  | .lit _ => 1
  | .nil => 1
  | .ptr d => uptoBulk d + 1
  | .slice elems spare => uptoBulkAll elems + uptoBulkAll spare + 1
  | .agg parts => uptoBulkAll parts + 1
  | .iface _ d => uptoBulk d + 1
  | .map entries => uptoBulkEntries entries + 1
  | .held _ => 1
def uptoBulkAll {H : Type} : List (DataW H) → Nat
  | [] => 0
  | d :: r => uptoBulk d + uptoBulkAll r
def uptoBulkEntries {H : Type} : List (Lit × DataW H) → Nat
  | [] => 0
  | x :: r => uptoBulkEntry x + uptoBulkEntries r
def uptoBulkEntry {H : Type} : Lit × DataW H → Nat
  | (.string bytes, d) => bytes.length + uptoBulk d + 1
  | (_, d) => uptoBulk d + 1
 end
def uptoSmall : (H : Type) → List (DataW H) → Bool := fun _ ds => decide (uptoBulkAll ds ≤ 1048576)
def OpenSpec.upto (s : _root_.Go.ChangeSpec) : _root_.Go.OpenSpec := { _root_.Go.OpenSpec.ofChange s with cond := some uptoSmall }

/-- 'sluicegatelaw1.FieldAll', WHERE WHAT IT READS IS OF BULK AT MOST 1048576: true; the input reads as it did. -/
def fieldAllUptoRow : OpenClaim := { program := "ytgmgjblekejgnaa", sum := "c209efc8a7165851270a6a4a26d261d0d10b64b63936a3ca3201f9f55f7ec777", func := "sluicegate/sluicegatelaw1.FieldAll", spec := "fieldAll", apart := false, narrowed := true }
def FieldAllUptoSaid : Prop := fieldAllUptoRow.holds Try.pinned (OpenSpec.upto fieldAllSpec)

/-- 'sluicegatelaw1.FieldTurn', WHERE WHAT IT READS IS OF BULK AT MOST 1048576: true; the input reads as it did. -/
def fieldTurnUptoRow : OpenClaim := { program := "ytgmgjblekejgnaa", sum := "c209efc8a7165851270a6a4a26d261d0d10b64b63936a3ca3201f9f55f7ec777", func := "sluicegate/sluicegatelaw1.FieldTurn", spec := "fieldTurn", apart := false, narrowed := true }
def FieldTurnUptoSaid : Prop := fieldTurnUptoRow.holds Try.pinned (OpenSpec.upto fieldTurnSpec)

/-- 'sluicegatelaw1.FieldParts', WHERE WHAT IT READS IS OF BULK AT MOST 1048576: true; the input reads as it did. -/
def fieldPartsUptoRow : OpenClaim := { program := "ytgmgjblekejgnaa", sum := "c209efc8a7165851270a6a4a26d261d0d10b64b63936a3ca3201f9f55f7ec777", func := "sluicegate/sluicegatelaw1.FieldParts", spec := "fieldParts", apart := false, narrowed := true }
def FieldPartsUptoSaid : Prop := fieldPartsUptoRow.holds Try.pinned (OpenSpec.upto fieldPartsSpec)

/-- 'sluicegatelaw1.FieldOrder', WHERE WHAT IT READS IS OF BULK AT MOST 1048576: true; the input reads as it did. -/
def fieldOrderUptoRow : OpenClaim := { program := "ytgmgjblekejgnaa", sum := "c209efc8a7165851270a6a4a26d261d0d10b64b63936a3ca3201f9f55f7ec777", func := "sluicegate/sluicegatelaw1.FieldOrder", spec := "fieldOrder", apart := false, narrowed := true }
def FieldOrderUptoSaid : Prop := fieldOrderUptoRow.holds Try.pinned (OpenSpec.upto fieldOrderSpec)

/-- 'sluicegatelaw1.FieldRow', WHERE WHAT IT READS IS OF BULK AT MOST 1048576: true; the input reads as it did. -/
def fieldRowUptoRow : OpenClaim := { program := "ytgmgjblekejgnaa", sum := "c209efc8a7165851270a6a4a26d261d0d10b64b63936a3ca3201f9f55f7ec777", func := "sluicegate/sluicegatelaw1.FieldRow", spec := "fieldRow", apart := false, narrowed := true }
def FieldRowUptoSaid : Prop := fieldRowUptoRow.holds Try.pinned (OpenSpec.upto fieldRowSpec)

/-- 'sluicegatelaw4.DescAll', WHERE WHAT IT READS IS OF BULK AT MOST 1048576: true; the input reads as it did. -/
def descAllUptoRow : OpenClaim := { program := "ytgmgjblekejgnaa", sum := "c209efc8a7165851270a6a4a26d261d0d10b64b63936a3ca3201f9f55f7ec777", func := "sluicegate/sluicegatelaw4.DescAll", spec := "descAll", apart := false, narrowed := true }
def DescAllUptoSaid : Prop := descAllUptoRow.holds Try.pinned (OpenSpec.upto descAllSpec)

/-- 'sluicegatelaw4.DescTurn', WHERE WHAT IT READS IS OF BULK AT MOST 1048576: true; the input reads as it did. -/
def descTurnUptoRow : OpenClaim := { program := "ytgmgjblekejgnaa", sum := "c209efc8a7165851270a6a4a26d261d0d10b64b63936a3ca3201f9f55f7ec777", func := "sluicegate/sluicegatelaw4.DescTurn", spec := "descTurn", apart := false, narrowed := true }
def DescTurnUptoSaid : Prop := descTurnUptoRow.holds Try.pinned (OpenSpec.upto descTurnSpec)

/-- 'sluicegatelaw4.DescBack', WHERE WHAT IT READS IS OF BULK AT MOST 1048576: true; the input reads as it did. -/
def descBackUptoRow : OpenClaim := { program := "ytgmgjblekejgnaa", sum := "c209efc8a7165851270a6a4a26d261d0d10b64b63936a3ca3201f9f55f7ec777", func := "sluicegate/sluicegatelaw4.DescBack", spec := "descBack", apart := false, narrowed := true }
def DescBackUptoSaid : Prop := descBackUptoRow.holds Try.pinned (OpenSpec.upto descBackSpec)

/-- 'sluicegatelaw4.DescShort', WHERE WHAT IT READS IS OF BULK AT MOST 1048576: true; the input reads as it did. -/
def descShortUptoRow : OpenClaim := { program := "ytgmgjblekejgnaa", sum := "c209efc8a7165851270a6a4a26d261d0d10b64b63936a3ca3201f9f55f7ec777", func := "sluicegate/sluicegatelaw4.DescShort", spec := "descShort", apart := false, narrowed := true }
def DescShortUptoSaid : Prop := descShortUptoRow.holds Try.pinned (OpenSpec.upto descShortSpec)

end Rows
end Go.Proofs.Ytgmgjblekejgnaa
