/-
  DERIVED. GIVEN WITH THE SEED: THE CARDS: each row of YtaghecgjmkhpcaaDoorRows.lean that lists a variable, with what it lists TIED to the program's text (the seventh form; the later family's looks); each row that meets fmt, with fmt's text TOLD by the authors' own Lean function (tested against real Go, not proved from fmt's source: count such statements apart). THE CARD IS WHAT COUNTS. Prove the row's statement (the work); the ties are given (YtaghecgjmkhpcaaDoorTie.lean); close each card by the builder's one call (the guide's Derived/Test/ToyasCard.lean, 'card_holds'). Laid BY PROGRAM, IN A SANDBOX (cutbox-door.mjs). By AI agents, Wed Nov 11 2026. No macro, syntax, notation, axiom, sorry.
-/
import Derived.Test.YtaghecgjmkhpcaaDoorRows
import GoSem.ClaimSeven
namespace Go.Proofs.YtaghecgjmkhpcaaDoor
namespace Rows

/-- THE TIED CARD OF 'sluicegatelaw30.TextTurn'. -/
def textTurnCard : Claim7 := { stood := { row := textTurnRow, standIns := [], harness := (true, "6c8b02b3351fd1744572ad9fd52c73bb4efdfcff7af06f223fe0ec2df6713544"), looks := true }, kinds := [], alts := [], laidByText := true, laidKinds := [.data, .data, .data, .data, .sentinel, .sentinel, .pinned], laidTests := true, laidLooks := .later }
def TextTurnCardSaid : Prop := Claim7.holds Tryd.pinned (.plain (OpenSpec.ofChange textTurnSpec)) textTurnCard

/-- THE TIED CARD OF 'sluicegatelaw30.TextBack'. -/
def textBackCard : Claim7 := { stood := { row := textBackRow, standIns := [], harness := (true, "6c8b02b3351fd1744572ad9fd52c73bb4efdfcff7af06f223fe0ec2df6713544"), looks := true }, kinds := [], alts := [], laidByText := true, laidKinds := [.data, .data, .data, .data, .sentinel, .sentinel, .pinned], laidTests := true, laidLooks := .later }
def TextBackCardSaid : Prop := Claim7.holds Tryd.pinned (.plain (OpenSpec.ofChange textBackSpec)) textBackCard

/-- THE TIED CARD OF 'sluicegatelaw30.TextJoin'. -/
def textJoinCard : Claim7 := { stood := { row := textJoinRow, standIns := [], harness := (true, "6c8b02b3351fd1744572ad9fd52c73bb4efdfcff7af06f223fe0ec2df6713544"), looks := true }, kinds := [], alts := [], laidByText := true, laidKinds := [.data, .data, .data, .data, .sentinel, .sentinel, .pinned], laidTests := true, laidLooks := .later }
def TextJoinCardSaid : Prop := Claim7.holds Tryd.pinned (.plain (OpenSpec.ofChange textJoinSpec)) textJoinCard

/-- THE TIED CARD OF 'sluicegatelaw30.TextCut'. -/
def textCutCard : Claim7 := { stood := { row := textCutRow, standIns := [], harness := (true, "6c8b02b3351fd1744572ad9fd52c73bb4efdfcff7af06f223fe0ec2df6713544"), looks := true }, kinds := [], alts := [], laidByText := true, laidKinds := [.data, .data, .data, .data, .sentinel, .sentinel, .pinned], laidTests := true, laidLooks := .later }
def TextCutCardSaid : Prop := Claim7.holds Tryd.pinned (.plain (OpenSpec.ofChange textCutSpec)) textCutCard

/-- THE TIED CARD OF 'sluicegatelaw30.TextKey'. -/
def textKeyCard : Claim7 := { stood := { row := textKeyRow, standIns := [], harness := (true, "6c8b02b3351fd1744572ad9fd52c73bb4efdfcff7af06f223fe0ec2df6713544"), looks := true }, kinds := [], alts := [], laidByText := true, laidKinds := [.data, .data, .data, .data, .sentinel, .sentinel, .pinned], laidTests := true, laidLooks := .later }
def TextKeyCardSaid : Prop := Claim7.holds Tryd.pinned (.plain (OpenSpec.ofChange textKeySpec)) textKeyCard

/-- THE SECOND FORM's CARD OF 'sluicegatelaw30.TextTurn'. -/
def textTurnUptoCard : Claim7 := { stood := { row := textTurnUptoRow, standIns := [], harness := (true, "6c8b02b3351fd1744572ad9fd52c73bb4efdfcff7af06f223fe0ec2df6713544"), looks := true }, kinds := [], alts := [], laidByText := true, laidKinds := [.data, .data, .data, .data, .sentinel, .sentinel, .pinned], laidTests := true, laidLooks := .later }
def TextTurnUptoCardSaid : Prop := Claim7.holds Tryd.pinned (.plain (OpenSpec.upto textTurnSpec)) textTurnUptoCard

/-- THE SECOND FORM's CARD OF 'sluicegatelaw30.TextBack'. -/
def textBackUptoCard : Claim7 := { stood := { row := textBackUptoRow, standIns := [], harness := (true, "6c8b02b3351fd1744572ad9fd52c73bb4efdfcff7af06f223fe0ec2df6713544"), looks := true }, kinds := [], alts := [], laidByText := true, laidKinds := [.data, .data, .data, .data, .sentinel, .sentinel, .pinned], laidTests := true, laidLooks := .later }
def TextBackUptoCardSaid : Prop := Claim7.holds Tryd.pinned (.plain (OpenSpec.upto textBackSpec)) textBackUptoCard

/-- THE SECOND FORM's CARD OF 'sluicegatelaw30.TextJoin'. -/
def textJoinUptoCard : Claim7 := { stood := { row := textJoinUptoRow, standIns := [], harness := (true, "6c8b02b3351fd1744572ad9fd52c73bb4efdfcff7af06f223fe0ec2df6713544"), looks := true }, kinds := [], alts := [], laidByText := true, laidKinds := [.data, .data, .data, .data, .sentinel, .sentinel, .pinned], laidTests := true, laidLooks := .later }
def TextJoinUptoCardSaid : Prop := Claim7.holds Tryd.pinned (.plain (OpenSpec.upto textJoinSpec)) textJoinUptoCard

/-- THE SECOND FORM's CARD OF 'sluicegatelaw30.TextCut'. -/
def textCutUptoCard : Claim7 := { stood := { row := textCutUptoRow, standIns := [], harness := (true, "6c8b02b3351fd1744572ad9fd52c73bb4efdfcff7af06f223fe0ec2df6713544"), looks := true }, kinds := [], alts := [], laidByText := true, laidKinds := [.data, .data, .data, .data, .sentinel, .sentinel, .pinned], laidTests := true, laidLooks := .later }
def TextCutUptoCardSaid : Prop := Claim7.holds Tryd.pinned (.plain (OpenSpec.upto textCutSpec)) textCutUptoCard

/-- THE SECOND FORM's CARD OF 'sluicegatelaw30.TextKey'. -/
def textKeyUptoCard : Claim7 := { stood := { row := textKeyUptoRow, standIns := [], harness := (true, "6c8b02b3351fd1744572ad9fd52c73bb4efdfcff7af06f223fe0ec2df6713544"), looks := true }, kinds := [], alts := [], laidByText := true, laidKinds := [.data, .data, .data, .data, .sentinel, .sentinel, .pinned], laidTests := true, laidLooks := .later }
def TextKeyUptoCardSaid : Prop := Claim7.holds Tryd.pinned (.plain (OpenSpec.upto textKeySpec)) textKeyUptoCard
end Rows
end Go.Proofs.YtaghecgjmkhpcaaDoor
