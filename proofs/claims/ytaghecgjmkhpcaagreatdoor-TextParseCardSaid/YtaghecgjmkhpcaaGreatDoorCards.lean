/-
  DERIVED. GIVEN WITH THE SEED: THE CARDS: each row of YtaghecgjmkhpcaaGreatDoorRows.lean that lists a variable, with what it lists TIED to the program's text (the seventh form; the later family's looks); each row that meets fmt, with fmt's text TOLD by the authors' own Lean function (tested against real Go, not proved from fmt's source: count such statements apart). THE CARD IS WHAT COUNTS. Prove the row's statement (the work); the ties are given (YtaghecgjmkhpcaaGreatDoorTie.lean); close each card by the builder's one call (the guide's Derived/Test/ToyasCard.lean, 'card_holds'). Laid BY PROGRAM, IN A SANDBOX (cutbox-door.mjs). By AI agents, Wed Nov 11 2026. No macro, syntax, notation, axiom, sorry.
-/
import Derived.Test.YtaghecgjmkhpcaaGreatDoorRows
import GoSem.ClaimSeven
namespace Go.Proofs.YtaghecgjmkhpcaaGreatDoor
namespace Rows

/-- THE TIED CARD OF 'sluicegatelaw30.TextAll'. -/
def textAllCard : Claim7 := { stood := { row := textAllRow, standIns := [], harness := (true, "2954939ad9f21ec01c5e3852f5851dd4aa42ebdaf3620058d6238f994959d70a"), looks := true }, kinds := [], alts := [], laidByText := true, laidKinds := [.data, .data, .data, .data, .sentinel, .sentinel, .pinned], laidTests := true, laidLooks := .later }
def TextAllCardSaid : Prop := Claim7.holds Tryz.pinned (.plain (OpenSpec.ofChange textAllSpec)) textAllCard

/-- THE TIED CARD OF 'sluicegatelaw30.TextParse'. -/
def textParseCard : Claim7 := { stood := { row := textParseRow, standIns := [], harness := (true, "2954939ad9f21ec01c5e3852f5851dd4aa42ebdaf3620058d6238f994959d70a"), looks := true }, kinds := [], alts := [], laidByText := true, laidKinds := [.data, .data, .data, .data, .sentinel, .sentinel, .pinned], laidTests := true, laidLooks := .later }
def TextParseCardSaid : Prop := Claim7.holds Tryz.pinned (.plain (OpenSpec.ofChange textParseSpec)) textParseCard

/-- THE SECOND FORM's CARD OF 'sluicegatelaw30.TextAll'. -/
def textAllUptoCard : Claim7 := { stood := { row := textAllUptoRow, standIns := [], harness := (true, "2954939ad9f21ec01c5e3852f5851dd4aa42ebdaf3620058d6238f994959d70a"), looks := true }, kinds := [], alts := [], laidByText := true, laidKinds := [.data, .data, .data, .data, .sentinel, .sentinel, .pinned], laidTests := true, laidLooks := .later }
def TextAllUptoCardSaid : Prop := Claim7.holds Tryz.pinned (.plain (OpenSpec.upto textAllSpec)) textAllUptoCard

/-- THE SECOND FORM's CARD OF 'sluicegatelaw30.TextParse'. -/
def textParseUptoCard : Claim7 := { stood := { row := textParseUptoRow, standIns := [], harness := (true, "2954939ad9f21ec01c5e3852f5851dd4aa42ebdaf3620058d6238f994959d70a"), looks := true }, kinds := [], alts := [], laidByText := true, laidKinds := [.data, .data, .data, .data, .sentinel, .sentinel, .pinned], laidTests := true, laidLooks := .later }
def TextParseUptoCardSaid : Prop := Claim7.holds Tryz.pinned (.plain (OpenSpec.upto textParseSpec)) textParseUptoCard
end Rows
end Go.Proofs.YtaghecgjmkhpcaaGreatDoor
