/-
  DERIVED. GIVEN WITH THE SEED: THE CARDS: each row of YtmimmnjdgpdjlaaGreatDoorRows.lean that lists a variable, with what it lists TIED to the program's text (the seventh form; the later family's looks); each row that meets fmt, with fmt's text TOLD by the authors' own Lean function (tested against real Go, not proved from fmt's source: count such statements apart). THE CARD IS WHAT COUNTS. Prove the row's statement (the work); the ties are given (YtmimmnjdgpdjlaaGreatDoorTie.lean); close each card by the builder's one call (the guide's Derived/Test/ToyasCard.lean, 'card_holds'). Laid BY PROGRAM, IN A SANDBOX (cutbox-door.mjs). By AI agents, Wed Nov 11 2026. No macro, syntax, notation, axiom, sorry.
-/
import Derived.Test.YtmimmnjdgpdjlaaGreatDoorRows
import GoSem.ClaimSeven
namespace Go.Proofs.YtmimmnjdgpdjlaaGreatDoor
namespace Rows

/-- THE TIED CARD OF 'mufflelaw21.AsmUnlines'. -/
def asmUnlinesCard : Claim7 := { stood := { row := asmUnlinesRow, standIns := [], harness := (true, "a88107302f6e72c19bc682157e5229a29375b17e2d61a90bda46afa3a1c7a20c"), looks := true }, kinds := [], alts := [], laidByText := true, laidKinds := [.data, .data, .data, .data, .sentinel, .sentinel, .listed, .data, .pinned], laidTests := true, laidLooks := .later }
def AsmUnlinesCardSaid : Prop := Claim7.holds Tryz.pinned (.plain (OpenSpec.ofChange asmUnlinesSpec)) asmUnlinesCard

/-- THE TIED CARD OF 'mufflelaw21.AsmReads'. -/
def asmReadsCard : Claim7 := { stood := { row := asmReadsRow, standIns := [], harness := (true, "a88107302f6e72c19bc682157e5229a29375b17e2d61a90bda46afa3a1c7a20c"), looks := true }, kinds := [], alts := [], laidByText := true, laidKinds := [.data, .data, .data, .data, .sentinel, .sentinel, .listed, .data, .pinned], laidTests := true, laidLooks := .later }
def AsmReadsCardSaid : Prop := Claim7.holds Tryz.pinned (.plain (OpenSpec.ofChange asmReadsSpec)) asmReadsCard

/-- THE TIED CARD OF 'mufflelaw21.AsmLines'. -/
def asmLinesCard : Claim7 := { stood := { row := asmLinesRow, standIns := [], harness := (true, "a88107302f6e72c19bc682157e5229a29375b17e2d61a90bda46afa3a1c7a20c"), looks := true }, kinds := [], alts := [], laidByText := true, laidKinds := [.data, .data, .data, .data, .sentinel, .sentinel, .listed, .data, .pinned], laidTests := true, laidLooks := .later }
def AsmLinesCardSaid : Prop := Claim7.holds Tryz.pinned (.plain (OpenSpec.ofChange asmLinesSpec)) asmLinesCard

/-- THE TIED CARD OF 'mufflelaw21.AsmOperands'. -/
def asmOperandsCard : Claim7 := { stood := { row := asmOperandsRow, standIns := [], harness := (true, "a88107302f6e72c19bc682157e5229a29375b17e2d61a90bda46afa3a1c7a20c"), looks := true }, kinds := [], alts := [], laidByText := true, laidKinds := [.data, .data, .data, .data, .sentinel, .sentinel, .listed, .data, .pinned], laidTests := true, laidLooks := .later }
def AsmOperandsCardSaid : Prop := Claim7.holds Tryz.pinned (.plain (OpenSpec.ofChange asmOperandsSpec)) asmOperandsCard

/-- THE TIED CARD OF 'mufflelaw21.AsmPrints'. -/
def asmPrintsCard : Claim7 := { stood := { row := asmPrintsRow, standIns := [], harness := (true, "a88107302f6e72c19bc682157e5229a29375b17e2d61a90bda46afa3a1c7a20c"), looks := true }, kinds := [], alts := [], laidByText := true, laidKinds := [.data, .data, .data, .data, .sentinel, .sentinel, .listed, .data, .pinned], laidTests := true, laidLooks := .later }
def AsmPrintsCardSaid : Prop := Claim7.holds Tryz.pinned (.plain (OpenSpec.ofChange asmPrintsSpec)) asmPrintsCard

/-- THE TIED CARD OF 'mufflelaw21.AsmBack'. -/
def asmBackCard : Claim7 := { stood := { row := asmBackRow, standIns := [], harness := (true, "a88107302f6e72c19bc682157e5229a29375b17e2d61a90bda46afa3a1c7a20c"), looks := true }, kinds := [], alts := [], laidByText := true, laidKinds := [.data, .data, .data, .data, .sentinel, .sentinel, .listed, .data, .pinned], laidTests := true, laidLooks := .later }
def AsmBackCardSaid : Prop := Claim7.holds Tryz.pinned (.plain (OpenSpec.ofChange asmBackSpec)) asmBackCard

/-- THE TIED CARD OF 'mufflelaw21.AsmBounds'. -/
def asmBoundsCard : Claim7 := { stood := { row := asmBoundsRow, standIns := [], harness := (true, "a88107302f6e72c19bc682157e5229a29375b17e2d61a90bda46afa3a1c7a20c"), looks := true }, kinds := [], alts := [], laidByText := true, laidKinds := [.data, .data, .data, .data, .sentinel, .sentinel, .listed, .data, .pinned], laidTests := true, laidLooks := .later }
def AsmBoundsCardSaid : Prop := Claim7.holds Tryz.pinned (.plain (OpenSpec.ofChange asmBoundsSpec)) asmBoundsCard

/-- THE SECOND FORM's CARD OF 'mufflelaw21.AsmUnlines'. -/
def asmUnlinesUptoCard : Claim7 := { stood := { row := asmUnlinesUptoRow, standIns := [], harness := (true, "a88107302f6e72c19bc682157e5229a29375b17e2d61a90bda46afa3a1c7a20c"), looks := true }, kinds := [], alts := [], laidByText := true, laidKinds := [.data, .data, .data, .data, .sentinel, .sentinel, .listed, .data, .pinned], laidTests := true, laidLooks := .later }
def AsmUnlinesUptoCardSaid : Prop := Claim7.holds Tryz.pinned (.plain (OpenSpec.upto asmUnlinesSpec)) asmUnlinesUptoCard

/-- THE SECOND FORM's CARD OF 'mufflelaw21.AsmReads'. -/
def asmReadsUptoCard : Claim7 := { stood := { row := asmReadsUptoRow, standIns := [], harness := (true, "a88107302f6e72c19bc682157e5229a29375b17e2d61a90bda46afa3a1c7a20c"), looks := true }, kinds := [], alts := [], laidByText := true, laidKinds := [.data, .data, .data, .data, .sentinel, .sentinel, .listed, .data, .pinned], laidTests := true, laidLooks := .later }
def AsmReadsUptoCardSaid : Prop := Claim7.holds Tryz.pinned (.plain (OpenSpec.upto asmReadsSpec)) asmReadsUptoCard

/-- THE SECOND FORM's CARD OF 'mufflelaw21.AsmLines'. -/
def asmLinesUptoCard : Claim7 := { stood := { row := asmLinesUptoRow, standIns := [], harness := (true, "a88107302f6e72c19bc682157e5229a29375b17e2d61a90bda46afa3a1c7a20c"), looks := true }, kinds := [], alts := [], laidByText := true, laidKinds := [.data, .data, .data, .data, .sentinel, .sentinel, .listed, .data, .pinned], laidTests := true, laidLooks := .later }
def AsmLinesUptoCardSaid : Prop := Claim7.holds Tryz.pinned (.plain (OpenSpec.upto asmLinesSpec)) asmLinesUptoCard

/-- THE SECOND FORM's CARD OF 'mufflelaw21.AsmOperands'. -/
def asmOperandsUptoCard : Claim7 := { stood := { row := asmOperandsUptoRow, standIns := [], harness := (true, "a88107302f6e72c19bc682157e5229a29375b17e2d61a90bda46afa3a1c7a20c"), looks := true }, kinds := [], alts := [], laidByText := true, laidKinds := [.data, .data, .data, .data, .sentinel, .sentinel, .listed, .data, .pinned], laidTests := true, laidLooks := .later }
def AsmOperandsUptoCardSaid : Prop := Claim7.holds Tryz.pinned (.plain (OpenSpec.upto asmOperandsSpec)) asmOperandsUptoCard

/-- THE SECOND FORM's CARD OF 'mufflelaw21.AsmPrints'. -/
def asmPrintsUptoCard : Claim7 := { stood := { row := asmPrintsUptoRow, standIns := [], harness := (true, "a88107302f6e72c19bc682157e5229a29375b17e2d61a90bda46afa3a1c7a20c"), looks := true }, kinds := [], alts := [], laidByText := true, laidKinds := [.data, .data, .data, .data, .sentinel, .sentinel, .listed, .data, .pinned], laidTests := true, laidLooks := .later }
def AsmPrintsUptoCardSaid : Prop := Claim7.holds Tryz.pinned (.plain (OpenSpec.upto asmPrintsSpec)) asmPrintsUptoCard

/-- THE SECOND FORM's CARD OF 'mufflelaw21.AsmBack'. -/
def asmBackUptoCard : Claim7 := { stood := { row := asmBackUptoRow, standIns := [], harness := (true, "a88107302f6e72c19bc682157e5229a29375b17e2d61a90bda46afa3a1c7a20c"), looks := true }, kinds := [], alts := [], laidByText := true, laidKinds := [.data, .data, .data, .data, .sentinel, .sentinel, .listed, .data, .pinned], laidTests := true, laidLooks := .later }
def AsmBackUptoCardSaid : Prop := Claim7.holds Tryz.pinned (.plain (OpenSpec.upto asmBackSpec)) asmBackUptoCard

/-- THE SECOND FORM's CARD OF 'mufflelaw21.AsmBounds'. -/
def asmBoundsUptoCard : Claim7 := { stood := { row := asmBoundsUptoRow, standIns := [], harness := (true, "a88107302f6e72c19bc682157e5229a29375b17e2d61a90bda46afa3a1c7a20c"), looks := true }, kinds := [], alts := [], laidByText := true, laidKinds := [.data, .data, .data, .data, .sentinel, .sentinel, .listed, .data, .pinned], laidTests := true, laidLooks := .later }
def AsmBoundsUptoCardSaid : Prop := Claim7.holds Tryz.pinned (.plain (OpenSpec.upto asmBoundsSpec)) asmBoundsUptoCard
end Rows
end Go.Proofs.YtmimmnjdgpdjlaaGreatDoor
