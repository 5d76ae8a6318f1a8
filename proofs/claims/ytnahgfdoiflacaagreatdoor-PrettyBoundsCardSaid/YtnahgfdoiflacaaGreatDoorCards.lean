/-
  DERIVED. GIVEN WITH THE SEED: THE CARDS: each row of YtnahgfdoiflacaaGreatDoorRows.lean that lists a variable, with what it lists TIED to the program's text (the seventh form; the later family's looks); each row that meets fmt, with fmt's text TOLD by the authors' own Lean function (tested against real Go, not proved from fmt's source: count such statements apart). THE CARD IS WHAT COUNTS. Prove the row's statement (the work); the ties are given (YtnahgfdoiflacaaGreatDoorTie.lean); close each card by the builder's one call (the guide's Derived/Test/ToyasCard.lean, 'card_holds'). Laid BY PROGRAM, IN A SANDBOX (cutbox-door.mjs). By AI agents, Wed Nov 11 2026. No macro, syntax, notation, axiom, sorry.
-/
import Derived.Test.YtnahgfdoiflacaaGreatDoorRows
import GoSem.ClaimSeven
namespace Go.Proofs.YtnahgfdoiflacaaGreatDoor
namespace Rows

/-- THE TIED CARD OF 'mufflelaw05.PrettyExprs'. -/
def prettyExprsCard : Claim7 := { stood := { row := prettyExprsRow, standIns := [], harness := (true, "ccf3abf70eb679520edc52dee3479235e292cf86e3113251757b563014fcedb9"), looks := false }, kinds := [], alts := [], laidByText := true, laidKinds := [.data, .data, .data, .listed, .data], laidTests := true, laidLooks := .later }
def PrettyExprsCardSaid : Prop := Claim7.holds Tryz.pinned (.plain (OpenSpec.ofChange prettyExprsSpec)) prettyExprsCard

/-- THE TIED CARD OF 'mufflelaw05.PrettyTexts'. -/
def prettyTextsCard : Claim7 := { stood := { row := prettyTextsRow, standIns := [], harness := (true, "ccf3abf70eb679520edc52dee3479235e292cf86e3113251757b563014fcedb9"), looks := false }, kinds := [], alts := [], laidByText := true, laidKinds := [.data, .data, .data, .listed, .data], laidTests := true, laidLooks := .later }
def PrettyTextsCardSaid : Prop := Claim7.holds Tryz.pinned (.plain (OpenSpec.ofChange prettyTextsSpec)) prettyTextsCard

/-- THE TIED CARD OF 'mufflelaw05.PrettyApart'. -/
def prettyApartCard : Claim7 := { stood := { row := prettyApartRow, standIns := [], harness := (true, "ccf3abf70eb679520edc52dee3479235e292cf86e3113251757b563014fcedb9"), looks := false }, kinds := [], alts := [], laidByText := true, laidKinds := [.data, .data, .data, .listed, .data], laidTests := true, laidLooks := .later }
def PrettyApartCardSaid : Prop := Claim7.holds Tryz.pinned (.plain (OpenSpec.ofChange prettyApartSpec)) prettyApartCard

/-- THE TIED CARD OF 'mufflelaw05.PrettyBounds'. -/
def prettyBoundsCard : Claim7 := { stood := { row := prettyBoundsRow, standIns := [], harness := (true, "ccf3abf70eb679520edc52dee3479235e292cf86e3113251757b563014fcedb9"), looks := false }, kinds := [], alts := [], laidByText := true, laidKinds := [.data, .data, .data, .listed, .data], laidTests := true, laidLooks := .later }
def PrettyBoundsCardSaid : Prop := Claim7.holds Tryz.pinned (.plain (OpenSpec.ofChange prettyBoundsSpec)) prettyBoundsCard

/-- THE TIED CARD OF 'mufflelaw05.PrettyTabs'. -/
def prettyTabsCard : Claim7 := { stood := { row := prettyTabsRow, standIns := [], harness := (true, "ccf3abf70eb679520edc52dee3479235e292cf86e3113251757b563014fcedb9"), looks := false }, kinds := [], alts := [], laidByText := true, laidKinds := [.data, .data, .data, .listed, .data], laidTests := true, laidLooks := .later }
def PrettyTabsCardSaid : Prop := Claim7.holds Tryz.pinned (.plain (OpenSpec.ofChange prettyTabsSpec)) prettyTabsCard

/-- THE TIED CARD OF 'mufflelaw05.PrettySigns'. -/
def prettySignsCard : Claim7 := { stood := { row := prettySignsRow, standIns := [], harness := (true, "ccf3abf70eb679520edc52dee3479235e292cf86e3113251757b563014fcedb9"), looks := false }, kinds := [], alts := [], laidByText := true, laidKinds := [.data, .data, .data, .listed, .data], laidTests := true, laidLooks := .later }
def PrettySignsCardSaid : Prop := Claim7.holds Tryz.pinned (.plain (OpenSpec.ofChange prettySignsSpec)) prettySignsCard

/-- THE TIED CARD OF 'mufflelaw05.PrettySame'. -/
def prettySameCard : Claim7 := { stood := { row := prettySameRow, standIns := [], harness := (true, "ccf3abf70eb679520edc52dee3479235e292cf86e3113251757b563014fcedb9"), looks := false }, kinds := [], alts := [], laidByText := true, laidKinds := [.data, .data, .data, .listed, .data], laidTests := true, laidLooks := .later }
def PrettySameCardSaid : Prop := Claim7.holds Tryz.pinned (.plain (OpenSpec.ofChange prettySameSpec)) prettySameCard

/-- THE SECOND FORM's CARD OF 'mufflelaw05.PrettyExprs'. -/
def prettyExprsUptoCard : Claim7 := { stood := { row := prettyExprsUptoRow, standIns := [], harness := (true, "ccf3abf70eb679520edc52dee3479235e292cf86e3113251757b563014fcedb9"), looks := false }, kinds := [], alts := [], laidByText := true, laidKinds := [.data, .data, .data, .listed, .data], laidTests := true, laidLooks := .later }
def PrettyExprsUptoCardSaid : Prop := Claim7.holds Tryz.pinned (.plain (OpenSpec.upto prettyExprsSpec)) prettyExprsUptoCard

/-- THE SECOND FORM's CARD OF 'mufflelaw05.PrettyTexts'. -/
def prettyTextsUptoCard : Claim7 := { stood := { row := prettyTextsUptoRow, standIns := [], harness := (true, "ccf3abf70eb679520edc52dee3479235e292cf86e3113251757b563014fcedb9"), looks := false }, kinds := [], alts := [], laidByText := true, laidKinds := [.data, .data, .data, .listed, .data], laidTests := true, laidLooks := .later }
def PrettyTextsUptoCardSaid : Prop := Claim7.holds Tryz.pinned (.plain (OpenSpec.upto prettyTextsSpec)) prettyTextsUptoCard

/-- THE SECOND FORM's CARD OF 'mufflelaw05.PrettyApart'. -/
def prettyApartUptoCard : Claim7 := { stood := { row := prettyApartUptoRow, standIns := [], harness := (true, "ccf3abf70eb679520edc52dee3479235e292cf86e3113251757b563014fcedb9"), looks := false }, kinds := [], alts := [], laidByText := true, laidKinds := [.data, .data, .data, .listed, .data], laidTests := true, laidLooks := .later }
def PrettyApartUptoCardSaid : Prop := Claim7.holds Tryz.pinned (.plain (OpenSpec.upto prettyApartSpec)) prettyApartUptoCard

/-- THE SECOND FORM's CARD OF 'mufflelaw05.PrettyBounds'. -/
def prettyBoundsUptoCard : Claim7 := { stood := { row := prettyBoundsUptoRow, standIns := [], harness := (true, "ccf3abf70eb679520edc52dee3479235e292cf86e3113251757b563014fcedb9"), looks := false }, kinds := [], alts := [], laidByText := true, laidKinds := [.data, .data, .data, .listed, .data], laidTests := true, laidLooks := .later }
def PrettyBoundsUptoCardSaid : Prop := Claim7.holds Tryz.pinned (.plain (OpenSpec.upto prettyBoundsSpec)) prettyBoundsUptoCard

/-- THE SECOND FORM's CARD OF 'mufflelaw05.PrettyTabs'. -/
def prettyTabsUptoCard : Claim7 := { stood := { row := prettyTabsUptoRow, standIns := [], harness := (true, "ccf3abf70eb679520edc52dee3479235e292cf86e3113251757b563014fcedb9"), looks := false }, kinds := [], alts := [], laidByText := true, laidKinds := [.data, .data, .data, .listed, .data], laidTests := true, laidLooks := .later }
def PrettyTabsUptoCardSaid : Prop := Claim7.holds Tryz.pinned (.plain (OpenSpec.upto prettyTabsSpec)) prettyTabsUptoCard

/-- THE SECOND FORM's CARD OF 'mufflelaw05.PrettySigns'. -/
def prettySignsUptoCard : Claim7 := { stood := { row := prettySignsUptoRow, standIns := [], harness := (true, "ccf3abf70eb679520edc52dee3479235e292cf86e3113251757b563014fcedb9"), looks := false }, kinds := [], alts := [], laidByText := true, laidKinds := [.data, .data, .data, .listed, .data], laidTests := true, laidLooks := .later }
def PrettySignsUptoCardSaid : Prop := Claim7.holds Tryz.pinned (.plain (OpenSpec.upto prettySignsSpec)) prettySignsUptoCard

/-- THE SECOND FORM's CARD OF 'mufflelaw05.PrettySame'. -/
def prettySameUptoCard : Claim7 := { stood := { row := prettySameUptoRow, standIns := [], harness := (true, "ccf3abf70eb679520edc52dee3479235e292cf86e3113251757b563014fcedb9"), looks := false }, kinds := [], alts := [], laidByText := true, laidKinds := [.data, .data, .data, .listed, .data], laidTests := true, laidLooks := .later }
def PrettySameUptoCardSaid : Prop := Claim7.holds Tryz.pinned (.plain (OpenSpec.upto prettySameSpec)) prettySameUptoCard
end Rows
end Go.Proofs.YtnahgfdoiflacaaGreatDoor
