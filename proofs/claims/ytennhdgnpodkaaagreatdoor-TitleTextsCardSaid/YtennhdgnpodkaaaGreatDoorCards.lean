/-
  DERIVED. GIVEN WITH THE SEED: THE CARDS: each row of YtennhdgnpodkaaaGreatDoorRows.lean that lists a variable, with what it lists TIED to the program's text (the seventh form; the later family's looks); each row that meets fmt, with fmt's text TOLD by the authors' own Lean function (tested against real Go, not proved from fmt's source: count such statements apart). THE CARD IS WHAT COUNTS. Prove the row's statement (the work); the ties are given (YtennhdgnpodkaaaGreatDoorTie.lean); close each card by the builder's one call (the guide's Derived/Test/ToyasCard.lean, 'card_holds'). Laid BY PROGRAM, IN A SANDBOX (cutbox-door.mjs). By AI agents, Wed Nov 11 2026. No macro, syntax, notation, axiom, sorry.
-/
import Derived.Test.YtennhdgnpodkaaaGreatDoorRows
import GoSem.ClaimSeven
namespace Go.Proofs.YtennhdgnpodkaaaGreatDoor
namespace Rows

/-- THE TIED CARD OF 'foyerlaw30.TitleMatchesReference'. -/
def titleMatchesReferenceCard : Claim7 := { stood := { row := titleMatchesReferenceRow, standIns := [], harness := (true, "f4e67591b2d97bd78308e4d7a4f29fbb114975740a2b17f11f74ce4237aaf5cb"), looks := true }, kinds := [], alts := [], laidByText := true, laidKinds := [.data, .data, .data, .data, .sentinel, .sentinel, .data, .pinned], laidTests := true, laidLooks := .later }
def TitleMatchesReferenceCardSaid : Prop := Claim7.holds Tryz.pinned (.plain (OpenSpec.ofChange titleMatchesReferenceSpec)) titleMatchesReferenceCard

/-- THE TIED CARD OF 'foyerlaw30.TitlePasses'. -/
def titlePassesCard : Claim7 := { stood := { row := titlePassesRow, standIns := [], harness := (true, "f4e67591b2d97bd78308e4d7a4f29fbb114975740a2b17f11f74ce4237aaf5cb"), looks := true }, kinds := [], alts := [], laidByText := true, laidKinds := [.data, .data, .data, .data, .sentinel, .sentinel, .data, .pinned], laidTests := true, laidLooks := .later }
def TitlePassesCardSaid : Prop := Claim7.holds Tryz.pinned (.plain (OpenSpec.ofChange titlePassesSpec)) titlePassesCard

/-- THE TIED CARD OF 'foyerlaw30.TitleOwners'. -/
def titleOwnersCard : Claim7 := { stood := { row := titleOwnersRow, standIns := [], harness := (true, "f4e67591b2d97bd78308e4d7a4f29fbb114975740a2b17f11f74ce4237aaf5cb"), looks := true }, kinds := [], alts := [], laidByText := true, laidKinds := [.data, .data, .data, .data, .sentinel, .sentinel, .data, .pinned], laidTests := true, laidLooks := .later }
def TitleOwnersCardSaid : Prop := Claim7.holds Tryz.pinned (.plain (OpenSpec.ofChange titleOwnersSpec)) titleOwnersCard

/-- THE TIED CARD OF 'foyerlaw30.TitleExtends'. -/
def titleExtendsCard : Claim7 := { stood := { row := titleExtendsRow, standIns := [], harness := (true, "f4e67591b2d97bd78308e4d7a4f29fbb114975740a2b17f11f74ce4237aaf5cb"), looks := true }, kinds := [], alts := [], laidByText := true, laidKinds := [.data, .data, .data, .data, .sentinel, .sentinel, .data, .pinned], laidTests := true, laidLooks := .later }
def TitleExtendsCardSaid : Prop := Claim7.holds Tryz.pinned (.plain (OpenSpec.ofChange titleExtendsSpec)) titleExtendsCard

/-- THE TIED CARD OF 'foyerlaw30.TitleTexts'. -/
def titleTextsCard : Claim7 := { stood := { row := titleTextsRow, standIns := [], harness := (true, "f4e67591b2d97bd78308e4d7a4f29fbb114975740a2b17f11f74ce4237aaf5cb"), looks := true }, kinds := [], alts := [], laidByText := true, laidKinds := [.data, .data, .data, .data, .sentinel, .sentinel, .data, .pinned], laidTests := true, laidLooks := .later }
def TitleTextsCardSaid : Prop := Claim7.holds Tryz.pinned (.plain (OpenSpec.ofChange titleTextsSpec)) titleTextsCard

/-- THE TIED CARD OF 'foyerlaw30.TitlePlaces'. -/
def titlePlacesCard : Claim7 := { stood := { row := titlePlacesRow, standIns := [], harness := (true, "f4e67591b2d97bd78308e4d7a4f29fbb114975740a2b17f11f74ce4237aaf5cb"), looks := true }, kinds := [], alts := [], laidByText := true, laidKinds := [.data, .data, .data, .data, .sentinel, .sentinel, .data, .pinned], laidTests := true, laidLooks := .later }
def TitlePlacesCardSaid : Prop := Claim7.holds Tryz.pinned (.plain (OpenSpec.ofChange titlePlacesSpec)) titlePlacesCard

/-- THE SECOND FORM's CARD OF 'foyerlaw30.TitleMatchesReference'. -/
def titleMatchesReferenceUptoCard : Claim7 := { stood := { row := titleMatchesReferenceUptoRow, standIns := [], harness := (true, "f4e67591b2d97bd78308e4d7a4f29fbb114975740a2b17f11f74ce4237aaf5cb"), looks := true }, kinds := [], alts := [], laidByText := true, laidKinds := [.data, .data, .data, .data, .sentinel, .sentinel, .data, .pinned], laidTests := true, laidLooks := .later }
def TitleMatchesReferenceUptoCardSaid : Prop := Claim7.holds Tryz.pinned (.plain (OpenSpec.upto titleMatchesReferenceSpec)) titleMatchesReferenceUptoCard

/-- THE SECOND FORM's CARD OF 'foyerlaw30.TitlePasses'. -/
def titlePassesUptoCard : Claim7 := { stood := { row := titlePassesUptoRow, standIns := [], harness := (true, "f4e67591b2d97bd78308e4d7a4f29fbb114975740a2b17f11f74ce4237aaf5cb"), looks := true }, kinds := [], alts := [], laidByText := true, laidKinds := [.data, .data, .data, .data, .sentinel, .sentinel, .data, .pinned], laidTests := true, laidLooks := .later }
def TitlePassesUptoCardSaid : Prop := Claim7.holds Tryz.pinned (.plain (OpenSpec.upto titlePassesSpec)) titlePassesUptoCard

/-- THE SECOND FORM's CARD OF 'foyerlaw30.TitleOwners'. -/
def titleOwnersUptoCard : Claim7 := { stood := { row := titleOwnersUptoRow, standIns := [], harness := (true, "f4e67591b2d97bd78308e4d7a4f29fbb114975740a2b17f11f74ce4237aaf5cb"), looks := true }, kinds := [], alts := [], laidByText := true, laidKinds := [.data, .data, .data, .data, .sentinel, .sentinel, .data, .pinned], laidTests := true, laidLooks := .later }
def TitleOwnersUptoCardSaid : Prop := Claim7.holds Tryz.pinned (.plain (OpenSpec.upto titleOwnersSpec)) titleOwnersUptoCard

/-- THE SECOND FORM's CARD OF 'foyerlaw30.TitleExtends'. -/
def titleExtendsUptoCard : Claim7 := { stood := { row := titleExtendsUptoRow, standIns := [], harness := (true, "f4e67591b2d97bd78308e4d7a4f29fbb114975740a2b17f11f74ce4237aaf5cb"), looks := true }, kinds := [], alts := [], laidByText := true, laidKinds := [.data, .data, .data, .data, .sentinel, .sentinel, .data, .pinned], laidTests := true, laidLooks := .later }
def TitleExtendsUptoCardSaid : Prop := Claim7.holds Tryz.pinned (.plain (OpenSpec.upto titleExtendsSpec)) titleExtendsUptoCard

/-- THE SECOND FORM's CARD OF 'foyerlaw30.TitleTexts'. -/
def titleTextsUptoCard : Claim7 := { stood := { row := titleTextsUptoRow, standIns := [], harness := (true, "f4e67591b2d97bd78308e4d7a4f29fbb114975740a2b17f11f74ce4237aaf5cb"), looks := true }, kinds := [], alts := [], laidByText := true, laidKinds := [.data, .data, .data, .data, .sentinel, .sentinel, .data, .pinned], laidTests := true, laidLooks := .later }
def TitleTextsUptoCardSaid : Prop := Claim7.holds Tryz.pinned (.plain (OpenSpec.upto titleTextsSpec)) titleTextsUptoCard

/-- THE SECOND FORM's CARD OF 'foyerlaw30.TitlePlaces'. -/
def titlePlacesUptoCard : Claim7 := { stood := { row := titlePlacesUptoRow, standIns := [], harness := (true, "f4e67591b2d97bd78308e4d7a4f29fbb114975740a2b17f11f74ce4237aaf5cb"), looks := true }, kinds := [], alts := [], laidByText := true, laidKinds := [.data, .data, .data, .data, .sentinel, .sentinel, .data, .pinned], laidTests := true, laidLooks := .later }
def TitlePlacesUptoCardSaid : Prop := Claim7.holds Tryz.pinned (.plain (OpenSpec.upto titlePlacesSpec)) titlePlacesUptoCard
end Rows
end Go.Proofs.YtennhdgnpodkaaaGreatDoor
