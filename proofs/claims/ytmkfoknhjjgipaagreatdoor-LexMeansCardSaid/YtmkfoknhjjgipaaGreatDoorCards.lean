/-
  DERIVED. GIVEN WITH THE SEED: THE CARDS: each row of YtmkfoknhjjgipaaGreatDoorRows.lean that lists a variable, with what it lists TIED to the program's text (the seventh form; the later family's looks); each row that meets fmt, with fmt's text TOLD by the authors' own Lean function (tested against real Go, not proved from fmt's source: count such statements apart). THE CARD IS WHAT COUNTS. Prove the row's statement (the work); the ties are given (YtmkfoknhjjgipaaGreatDoorTie.lean); close each card by the builder's one call (the guide's Derived/Test/ToyasCard.lean, 'card_holds'). Laid BY PROGRAM, IN A SANDBOX (cutbox-door.mjs). By AI agents, Wed Nov 11 2026. No macro, syntax, notation, axiom, sorry.
-/
import Derived.Test.YtmkfoknhjjgipaaGreatDoorRows
import GoSem.ClaimSeven
namespace Go.Proofs.YtmkfoknhjjgipaaGreatDoor
namespace Rows

/-- THE TIED CARD OF 'mufflelaw04.LexWords'. -/
def lexWordsCard : Claim7 := { stood := { row := lexWordsRow, standIns := [], harness := (true, "79b5071bb4c703527eefd17b197e477b98ebfddbd2a0b588c782ce46851bdd30"), looks := true }, kinds := [], alts := [], laidByText := true, laidKinds := [.data, .data, .data, .handle, .sentinel, .sentinel, .listed, .data], laidTests := true, laidLooks := .later }
def LexWordsCardSaid : Prop := Claim7.holds Tryz.pinned (.plain (OpenSpec.ofChange lexWordsSpec)) lexWordsCard

/-- THE TIED CARD OF 'mufflelaw04.LexTexts'. -/
def lexTextsCard : Claim7 := { stood := { row := lexTextsRow, standIns := [], harness := (true, "79b5071bb4c703527eefd17b197e477b98ebfddbd2a0b588c782ce46851bdd30"), looks := true }, kinds := [], alts := [], laidByText := true, laidKinds := [.data, .data, .data, .handle, .sentinel, .sentinel, .listed, .data], laidTests := true, laidLooks := .later }
def LexTextsCardSaid : Prop := Claim7.holds Tryz.pinned (.plain (OpenSpec.ofChange lexTextsSpec)) lexTextsCard

/-- THE TIED CARD OF 'mufflelaw04.LexLists'. -/
def lexListsCard : Claim7 := { stood := { row := lexListsRow, standIns := [], harness := (true, "79b5071bb4c703527eefd17b197e477b98ebfddbd2a0b588c782ce46851bdd30"), looks := true }, kinds := [], alts := [], laidByText := true, laidKinds := [.data, .data, .data, .handle, .sentinel, .sentinel, .listed, .data], laidTests := true, laidLooks := .later }
def LexListsCardSaid : Prop := Claim7.holds Tryz.pinned (.plain (OpenSpec.ofChange lexListsSpec)) lexListsCard

/-- THE TIED CARD OF 'mufflelaw04.LexSpaces'. -/
def lexSpacesCard : Claim7 := { stood := { row := lexSpacesRow, standIns := [], harness := (true, "79b5071bb4c703527eefd17b197e477b98ebfddbd2a0b588c782ce46851bdd30"), looks := true }, kinds := [], alts := [], laidByText := true, laidKinds := [.data, .data, .data, .handle, .sentinel, .sentinel, .listed, .data], laidTests := true, laidLooks := .later }
def LexSpacesCardSaid : Prop := Claim7.holds Tryz.pinned (.plain (OpenSpec.ofChange lexSpacesSpec)) lexSpacesCard

/-- THE TIED CARD OF 'mufflelaw04.LexMeans'. -/
def lexMeansCard : Claim7 := { stood := { row := lexMeansRow, standIns := [], harness := (true, "79b5071bb4c703527eefd17b197e477b98ebfddbd2a0b588c782ce46851bdd30"), looks := true }, kinds := [], alts := [], laidByText := true, laidKinds := [.data, .data, .data, .handle, .sentinel, .sentinel, .listed, .data], laidTests := true, laidLooks := .later }
def LexMeansCardSaid : Prop := Claim7.holds Tryz.pinned (.plain (OpenSpec.ofChange lexMeansSpec)) lexMeansCard

/-- THE SECOND FORM's CARD OF 'mufflelaw04.LexWords'. -/
def lexWordsUptoCard : Claim7 := { stood := { row := lexWordsUptoRow, standIns := [], harness := (true, "79b5071bb4c703527eefd17b197e477b98ebfddbd2a0b588c782ce46851bdd30"), looks := true }, kinds := [], alts := [], laidByText := true, laidKinds := [.data, .data, .data, .handle, .sentinel, .sentinel, .listed, .data], laidTests := true, laidLooks := .later }
def LexWordsUptoCardSaid : Prop := Claim7.holds Tryz.pinned (.plain (OpenSpec.upto lexWordsSpec)) lexWordsUptoCard

/-- THE SECOND FORM's CARD OF 'mufflelaw04.LexTexts'. -/
def lexTextsUptoCard : Claim7 := { stood := { row := lexTextsUptoRow, standIns := [], harness := (true, "79b5071bb4c703527eefd17b197e477b98ebfddbd2a0b588c782ce46851bdd30"), looks := true }, kinds := [], alts := [], laidByText := true, laidKinds := [.data, .data, .data, .handle, .sentinel, .sentinel, .listed, .data], laidTests := true, laidLooks := .later }
def LexTextsUptoCardSaid : Prop := Claim7.holds Tryz.pinned (.plain (OpenSpec.upto lexTextsSpec)) lexTextsUptoCard

/-- THE SECOND FORM's CARD OF 'mufflelaw04.LexLists'. -/
def lexListsUptoCard : Claim7 := { stood := { row := lexListsUptoRow, standIns := [], harness := (true, "79b5071bb4c703527eefd17b197e477b98ebfddbd2a0b588c782ce46851bdd30"), looks := true }, kinds := [], alts := [], laidByText := true, laidKinds := [.data, .data, .data, .handle, .sentinel, .sentinel, .listed, .data], laidTests := true, laidLooks := .later }
def LexListsUptoCardSaid : Prop := Claim7.holds Tryz.pinned (.plain (OpenSpec.upto lexListsSpec)) lexListsUptoCard

/-- THE SECOND FORM's CARD OF 'mufflelaw04.LexSpaces'. -/
def lexSpacesUptoCard : Claim7 := { stood := { row := lexSpacesUptoRow, standIns := [], harness := (true, "79b5071bb4c703527eefd17b197e477b98ebfddbd2a0b588c782ce46851bdd30"), looks := true }, kinds := [], alts := [], laidByText := true, laidKinds := [.data, .data, .data, .handle, .sentinel, .sentinel, .listed, .data], laidTests := true, laidLooks := .later }
def LexSpacesUptoCardSaid : Prop := Claim7.holds Tryz.pinned (.plain (OpenSpec.upto lexSpacesSpec)) lexSpacesUptoCard

/-- THE SECOND FORM's CARD OF 'mufflelaw04.LexMeans'. -/
def lexMeansUptoCard : Claim7 := { stood := { row := lexMeansUptoRow, standIns := [], harness := (true, "79b5071bb4c703527eefd17b197e477b98ebfddbd2a0b588c782ce46851bdd30"), looks := true }, kinds := [], alts := [], laidByText := true, laidKinds := [.data, .data, .data, .handle, .sentinel, .sentinel, .listed, .data], laidTests := true, laidLooks := .later }
def LexMeansUptoCardSaid : Prop := Claim7.holds Tryz.pinned (.plain (OpenSpec.upto lexMeansSpec)) lexMeansUptoCard
end Rows
end Go.Proofs.YtmkfoknhjjgipaaGreatDoor
