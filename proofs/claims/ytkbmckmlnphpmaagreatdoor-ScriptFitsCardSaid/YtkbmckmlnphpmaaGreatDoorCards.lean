/-
  DERIVED. GIVEN WITH THE SEED: THE CARDS: each row of YtkbmckmlnphpmaaGreatDoorRows.lean that lists a variable, with what it lists TIED to the program's text (the seventh form; the later family's looks); each row that meets fmt, with fmt's text TOLD by the authors' own Lean function (tested against real Go, not proved from fmt's source: count such statements apart). THE CARD IS WHAT COUNTS. Prove the row's statement (the work); the ties are given (YtkbmckmlnphpmaaGreatDoorTie.lean); close each card by the builder's one call (the guide's Derived/Test/ToyasCard.lean, 'card_holds'). Laid BY PROGRAM, IN A SANDBOX (cutbox-door.mjs). By AI agents, Wed Nov 11 2026. No macro, syntax, notation, axiom, sorry.
-/
import Derived.Test.YtkbmckmlnphpmaaGreatDoorRows
import GoSem.ClaimSeven
namespace Go.Proofs.YtkbmckmlnphpmaaGreatDoor
namespace Rows

/-- THE TIED CARD OF 'mufflelaw23.ScriptWords'. -/
def scriptWordsCard : Claim7 := { stood := { row := scriptWordsRow, standIns := [], harness := (true, "87dc81d793cb0df3cc1761c0120f28aa4845b6b6dcdb7a714ba1e8e6507ed96c"), looks := true }, kinds := [], alts := [], laidByText := true, laidKinds := [.data, .data, .data, .data, .sentinel, .sentinel, .pinned], laidTests := true, laidLooks := .later }
def ScriptWordsCardSaid : Prop := Claim7.holds Tryz.pinned (.plain (OpenSpec.ofChange scriptWordsSpec)) scriptWordsCard

/-- THE TIED CARD OF 'mufflelaw23.ScriptUnlines'. -/
def scriptUnlinesCard : Claim7 := { stood := { row := scriptUnlinesRow, standIns := [], harness := (true, "87dc81d793cb0df3cc1761c0120f28aa4845b6b6dcdb7a714ba1e8e6507ed96c"), looks := true }, kinds := [], alts := [], laidByText := true, laidKinds := [.data, .data, .data, .data, .sentinel, .sentinel, .pinned], laidTests := true, laidLooks := .later }
def ScriptUnlinesCardSaid : Prop := Claim7.holds Tryz.pinned (.plain (OpenSpec.ofChange scriptUnlinesSpec)) scriptUnlinesCard

/-- THE TIED CARD OF 'mufflelaw23.ScriptParses'. -/
def scriptParsesCard : Claim7 := { stood := { row := scriptParsesRow, standIns := [], harness := (true, "87dc81d793cb0df3cc1761c0120f28aa4845b6b6dcdb7a714ba1e8e6507ed96c"), looks := true }, kinds := [], alts := [], laidByText := true, laidKinds := [.data, .data, .data, .data, .sentinel, .sentinel, .pinned], laidTests := true, laidLooks := .later }
def ScriptParsesCardSaid : Prop := Claim7.holds Tryz.pinned (.plain (OpenSpec.ofChange scriptParsesSpec)) scriptParsesCard

/-- THE TIED CARD OF 'mufflelaw23.ScriptSeen'. -/
def scriptSeenCard : Claim7 := { stood := { row := scriptSeenRow, standIns := [], harness := (true, "87dc81d793cb0df3cc1761c0120f28aa4845b6b6dcdb7a714ba1e8e6507ed96c"), looks := true }, kinds := [], alts := [], laidByText := true, laidKinds := [.data, .data, .data, .data, .sentinel, .sentinel, .pinned], laidTests := true, laidLooks := .later }
def ScriptSeenCardSaid : Prop := Claim7.holds Tryz.pinned (.plain (OpenSpec.ofChange scriptSeenSpec)) scriptSeenCard

/-- THE TIED CARD OF 'mufflelaw23.ScriptLines'. -/
def scriptLinesCard : Claim7 := { stood := { row := scriptLinesRow, standIns := [], harness := (true, "87dc81d793cb0df3cc1761c0120f28aa4845b6b6dcdb7a714ba1e8e6507ed96c"), looks := true }, kinds := [], alts := [], laidByText := true, laidKinds := [.data, .data, .data, .data, .sentinel, .sentinel, .pinned], laidTests := true, laidLooks := .later }
def ScriptLinesCardSaid : Prop := Claim7.holds Tryz.pinned (.plain (OpenSpec.ofChange scriptLinesSpec)) scriptLinesCard

/-- THE TIED CARD OF 'mufflelaw23.ScriptTexts'. -/
def scriptTextsCard : Claim7 := { stood := { row := scriptTextsRow, standIns := [], harness := (true, "87dc81d793cb0df3cc1761c0120f28aa4845b6b6dcdb7a714ba1e8e6507ed96c"), looks := true }, kinds := [], alts := [], laidByText := true, laidKinds := [.data, .data, .data, .data, .sentinel, .sentinel, .pinned], laidTests := true, laidLooks := .later }
def ScriptTextsCardSaid : Prop := Claim7.holds Tryz.pinned (.plain (OpenSpec.ofChange scriptTextsSpec)) scriptTextsCard

/-- THE TIED CARD OF 'mufflelaw23.ScriptBounds'. -/
def scriptBoundsCard : Claim7 := { stood := { row := scriptBoundsRow, standIns := [], harness := (true, "87dc81d793cb0df3cc1761c0120f28aa4845b6b6dcdb7a714ba1e8e6507ed96c"), looks := true }, kinds := [], alts := [], laidByText := true, laidKinds := [.data, .data, .data, .data, .sentinel, .sentinel, .pinned], laidTests := true, laidLooks := .later }
def ScriptBoundsCardSaid : Prop := Claim7.holds Tryz.pinned (.plain (OpenSpec.ofChange scriptBoundsSpec)) scriptBoundsCard

/-- THE TIED CARD OF 'mufflelaw23.ScriptAlone'. -/
def scriptAloneCard : Claim7 := { stood := { row := scriptAloneRow, standIns := [], harness := (true, "87dc81d793cb0df3cc1761c0120f28aa4845b6b6dcdb7a714ba1e8e6507ed96c"), looks := true }, kinds := [], alts := [], laidByText := true, laidKinds := [.data, .data, .data, .data, .sentinel, .sentinel, .pinned], laidTests := true, laidLooks := .later }
def ScriptAloneCardSaid : Prop := Claim7.holds Tryz.pinned (.plain (OpenSpec.ofChange scriptAloneSpec)) scriptAloneCard

/-- THE TIED CARD OF 'mufflelaw23.ScriptBack'. -/
def scriptBackCard : Claim7 := { stood := { row := scriptBackRow, standIns := [], harness := (true, "87dc81d793cb0df3cc1761c0120f28aa4845b6b6dcdb7a714ba1e8e6507ed96c"), looks := true }, kinds := [], alts := [], laidByText := true, laidKinds := [.data, .data, .data, .data, .sentinel, .sentinel, .pinned], laidTests := true, laidLooks := .later }
def ScriptBackCardSaid : Prop := Claim7.holds Tryz.pinned (.plain (OpenSpec.ofChange scriptBackSpec)) scriptBackCard

/-- THE TIED CARD OF 'mufflelaw23.ScriptFits'. -/
def scriptFitsCard : Claim7 := { stood := { row := scriptFitsRow, standIns := [], harness := (true, "87dc81d793cb0df3cc1761c0120f28aa4845b6b6dcdb7a714ba1e8e6507ed96c"), looks := true }, kinds := [], alts := [], laidByText := true, laidKinds := [.data, .data, .data, .data, .sentinel, .sentinel, .pinned], laidTests := true, laidLooks := .later }
def ScriptFitsCardSaid : Prop := Claim7.holds Tryz.pinned (.plain (OpenSpec.ofChange scriptFitsSpec)) scriptFitsCard

/-- THE SECOND FORM's CARD OF 'mufflelaw23.ScriptWords'. -/
def scriptWordsUptoCard : Claim7 := { stood := { row := scriptWordsUptoRow, standIns := [], harness := (true, "87dc81d793cb0df3cc1761c0120f28aa4845b6b6dcdb7a714ba1e8e6507ed96c"), looks := true }, kinds := [], alts := [], laidByText := true, laidKinds := [.data, .data, .data, .data, .sentinel, .sentinel, .pinned], laidTests := true, laidLooks := .later }
def ScriptWordsUptoCardSaid : Prop := Claim7.holds Tryz.pinned (.plain (OpenSpec.upto scriptWordsSpec)) scriptWordsUptoCard

/-- THE SECOND FORM's CARD OF 'mufflelaw23.ScriptUnlines'. -/
def scriptUnlinesUptoCard : Claim7 := { stood := { row := scriptUnlinesUptoRow, standIns := [], harness := (true, "87dc81d793cb0df3cc1761c0120f28aa4845b6b6dcdb7a714ba1e8e6507ed96c"), looks := true }, kinds := [], alts := [], laidByText := true, laidKinds := [.data, .data, .data, .data, .sentinel, .sentinel, .pinned], laidTests := true, laidLooks := .later }
def ScriptUnlinesUptoCardSaid : Prop := Claim7.holds Tryz.pinned (.plain (OpenSpec.upto scriptUnlinesSpec)) scriptUnlinesUptoCard

/-- THE SECOND FORM's CARD OF 'mufflelaw23.ScriptParses'. -/
def scriptParsesUptoCard : Claim7 := { stood := { row := scriptParsesUptoRow, standIns := [], harness := (true, "87dc81d793cb0df3cc1761c0120f28aa4845b6b6dcdb7a714ba1e8e6507ed96c"), looks := true }, kinds := [], alts := [], laidByText := true, laidKinds := [.data, .data, .data, .data, .sentinel, .sentinel, .pinned], laidTests := true, laidLooks := .later }
def ScriptParsesUptoCardSaid : Prop := Claim7.holds Tryz.pinned (.plain (OpenSpec.upto scriptParsesSpec)) scriptParsesUptoCard

/-- THE SECOND FORM's CARD OF 'mufflelaw23.ScriptSeen'. -/
def scriptSeenUptoCard : Claim7 := { stood := { row := scriptSeenUptoRow, standIns := [], harness := (true, "87dc81d793cb0df3cc1761c0120f28aa4845b6b6dcdb7a714ba1e8e6507ed96c"), looks := true }, kinds := [], alts := [], laidByText := true, laidKinds := [.data, .data, .data, .data, .sentinel, .sentinel, .pinned], laidTests := true, laidLooks := .later }
def ScriptSeenUptoCardSaid : Prop := Claim7.holds Tryz.pinned (.plain (OpenSpec.upto scriptSeenSpec)) scriptSeenUptoCard

/-- THE SECOND FORM's CARD OF 'mufflelaw23.ScriptLines'. -/
def scriptLinesUptoCard : Claim7 := { stood := { row := scriptLinesUptoRow, standIns := [], harness := (true, "87dc81d793cb0df3cc1761c0120f28aa4845b6b6dcdb7a714ba1e8e6507ed96c"), looks := true }, kinds := [], alts := [], laidByText := true, laidKinds := [.data, .data, .data, .data, .sentinel, .sentinel, .pinned], laidTests := true, laidLooks := .later }
def ScriptLinesUptoCardSaid : Prop := Claim7.holds Tryz.pinned (.plain (OpenSpec.upto scriptLinesSpec)) scriptLinesUptoCard

/-- THE SECOND FORM's CARD OF 'mufflelaw23.ScriptTexts'. -/
def scriptTextsUptoCard : Claim7 := { stood := { row := scriptTextsUptoRow, standIns := [], harness := (true, "87dc81d793cb0df3cc1761c0120f28aa4845b6b6dcdb7a714ba1e8e6507ed96c"), looks := true }, kinds := [], alts := [], laidByText := true, laidKinds := [.data, .data, .data, .data, .sentinel, .sentinel, .pinned], laidTests := true, laidLooks := .later }
def ScriptTextsUptoCardSaid : Prop := Claim7.holds Tryz.pinned (.plain (OpenSpec.upto scriptTextsSpec)) scriptTextsUptoCard

/-- THE SECOND FORM's CARD OF 'mufflelaw23.ScriptBounds'. -/
def scriptBoundsUptoCard : Claim7 := { stood := { row := scriptBoundsUptoRow, standIns := [], harness := (true, "87dc81d793cb0df3cc1761c0120f28aa4845b6b6dcdb7a714ba1e8e6507ed96c"), looks := true }, kinds := [], alts := [], laidByText := true, laidKinds := [.data, .data, .data, .data, .sentinel, .sentinel, .pinned], laidTests := true, laidLooks := .later }
def ScriptBoundsUptoCardSaid : Prop := Claim7.holds Tryz.pinned (.plain (OpenSpec.upto scriptBoundsSpec)) scriptBoundsUptoCard

/-- THE SECOND FORM's CARD OF 'mufflelaw23.ScriptAlone'. -/
def scriptAloneUptoCard : Claim7 := { stood := { row := scriptAloneUptoRow, standIns := [], harness := (true, "87dc81d793cb0df3cc1761c0120f28aa4845b6b6dcdb7a714ba1e8e6507ed96c"), looks := true }, kinds := [], alts := [], laidByText := true, laidKinds := [.data, .data, .data, .data, .sentinel, .sentinel, .pinned], laidTests := true, laidLooks := .later }
def ScriptAloneUptoCardSaid : Prop := Claim7.holds Tryz.pinned (.plain (OpenSpec.upto scriptAloneSpec)) scriptAloneUptoCard

/-- THE SECOND FORM's CARD OF 'mufflelaw23.ScriptBack'. -/
def scriptBackUptoCard : Claim7 := { stood := { row := scriptBackUptoRow, standIns := [], harness := (true, "87dc81d793cb0df3cc1761c0120f28aa4845b6b6dcdb7a714ba1e8e6507ed96c"), looks := true }, kinds := [], alts := [], laidByText := true, laidKinds := [.data, .data, .data, .data, .sentinel, .sentinel, .pinned], laidTests := true, laidLooks := .later }
def ScriptBackUptoCardSaid : Prop := Claim7.holds Tryz.pinned (.plain (OpenSpec.upto scriptBackSpec)) scriptBackUptoCard

/-- THE SECOND FORM's CARD OF 'mufflelaw23.ScriptFits'. -/
def scriptFitsUptoCard : Claim7 := { stood := { row := scriptFitsUptoRow, standIns := [], harness := (true, "87dc81d793cb0df3cc1761c0120f28aa4845b6b6dcdb7a714ba1e8e6507ed96c"), looks := true }, kinds := [], alts := [], laidByText := true, laidKinds := [.data, .data, .data, .data, .sentinel, .sentinel, .pinned], laidTests := true, laidLooks := .later }
def ScriptFitsUptoCardSaid : Prop := Claim7.holds Tryz.pinned (.plain (OpenSpec.upto scriptFitsSpec)) scriptFitsUptoCard
end Rows
end Go.Proofs.YtkbmckmlnphpmaaGreatDoor
