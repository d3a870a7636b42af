/-
  DERIVED. GIVEN WITH THE SEED: THE CARDS: each row of YtcblpfepkkkilaaGreatDoorRows.lean that lists a variable, with what it lists TIED to the program's text (the seventh form; the later family's looks); each row that meets fmt, with fmt's text TOLD by the authors' own Lean function (tested against real Go, not proved from fmt's source: count such statements apart). THE CARD IS WHAT COUNTS. Prove the row's statement (the work); the ties are given (YtcblpfepkkkilaaGreatDoorTie.lean); close each card by the builder's one call (the guide's Derived/Test/ToyasCard.lean, 'card_holds'). Laid BY PROGRAM, IN A SANDBOX (cutbox-door.mjs). By AI agents, Wed Nov 11 2026. No macro, syntax, notation, axiom, sorry.
-/
import Derived.Test.YtcblpfepkkkilaaGreatDoorRows
import GoSem.ClaimSeven
namespace Go.Proofs.YtcblpfepkkkilaaGreatDoor
namespace Rows

/-- THE TIED CARD OF 'foyerlaw30.TitleMatchesReference'. -/
def titleMatchesReferenceCard : Claim7 := { stood := { row := titleMatchesReferenceRow, standIns := [], harness := (true, "9c4ecb57b8f61b11bf974c2587654d3a488d004768b5929545366934ceb5a225"), looks := true }, kinds := [], alts := [], laidByText := true, laidKinds := [.data, .data, .data, .data, .sentinel, .sentinel, .data, .pinned], laidTests := true, laidLooks := .later }
def TitleMatchesReferenceCardSaid : Prop := Claim7.holds Tryz.pinned (.plain (OpenSpec.ofChange titleMatchesReferenceSpec)) titleMatchesReferenceCard

/-- THE TIED CARD OF 'foyerlaw30.TitleOwners'. -/
def titleOwnersCard : Claim7 := { stood := { row := titleOwnersRow, standIns := [], harness := (true, "9c4ecb57b8f61b11bf974c2587654d3a488d004768b5929545366934ceb5a225"), looks := true }, kinds := [], alts := [], laidByText := true, laidKinds := [.data, .data, .data, .data, .sentinel, .sentinel, .data, .pinned], laidTests := true, laidLooks := .later }
def TitleOwnersCardSaid : Prop := Claim7.holds Tryz.pinned (.plain (OpenSpec.ofChange titleOwnersSpec)) titleOwnersCard

/-- THE SECOND FORM's CARD OF 'foyerlaw30.TitleMatchesReference'. -/
def titleMatchesReferenceUptoCard : Claim7 := { stood := { row := titleMatchesReferenceUptoRow, standIns := [], harness := (true, "9c4ecb57b8f61b11bf974c2587654d3a488d004768b5929545366934ceb5a225"), looks := true }, kinds := [], alts := [], laidByText := true, laidKinds := [.data, .data, .data, .data, .sentinel, .sentinel, .data, .pinned], laidTests := true, laidLooks := .later }
def TitleMatchesReferenceUptoCardSaid : Prop := Claim7.holds Tryz.pinned (.plain (OpenSpec.upto titleMatchesReferenceSpec)) titleMatchesReferenceUptoCard

/-- THE SECOND FORM's CARD OF 'foyerlaw30.TitleOwners'. -/
def titleOwnersUptoCard : Claim7 := { stood := { row := titleOwnersUptoRow, standIns := [], harness := (true, "9c4ecb57b8f61b11bf974c2587654d3a488d004768b5929545366934ceb5a225"), looks := true }, kinds := [], alts := [], laidByText := true, laidKinds := [.data, .data, .data, .data, .sentinel, .sentinel, .data, .pinned], laidTests := true, laidLooks := .later }
def TitleOwnersUptoCardSaid : Prop := Claim7.holds Tryz.pinned (.plain (OpenSpec.upto titleOwnersSpec)) titleOwnersUptoCard
end Rows
end Go.Proofs.YtcblpfepkkkilaaGreatDoor
