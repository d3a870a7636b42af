/-
  DERIVED. GIVEN WITH THE SEED: THE CARDS: each row of YtnmakpiddfhhnaaGreatDoorRows.lean that lists a variable, with what it lists TIED to the program's text (the seventh form; the later family's looks); each row that meets fmt, with fmt's text TOLD by the authors' own Lean function (tested against real Go, not proved from fmt's source: count such statements apart). THE CARD IS WHAT COUNTS. Prove the row's statement (the work); the ties are given (YtnmakpiddfhhnaaGreatDoorTie.lean); close each card by the builder's one call (the guide's Derived/Test/ToyasCard.lean, 'card_holds'). Laid BY PROGRAM, IN A SANDBOX (cutbox-door.mjs). By AI agents, Wed Nov 11 2026. No macro, syntax, notation, axiom, sorry.
-/
import Derived.Test.YtnmakpiddfhhnaaGreatDoorRows
import GoSem.ClaimSeven
namespace Go.Proofs.YtnmakpiddfhhnaaGreatDoor
namespace Rows

/-- THE TIED CARD OF 'foyerlaw36.FilterTexts'. -/
def filterTextsCard : Claim7 := { stood := { row := filterTextsRow, standIns := [], harness := (true, "2cdf8fd69777aec506b9aa64e6a64fee27cfd59dfc5ff089f0c9b6d0e50b4f39"), looks := true }, kinds := [], alts := [], laidByText := true, laidKinds := [.data, .data, .data, .data, .sentinel, .sentinel, .data, .pinned], laidTests := true, laidLooks := .later }
def FilterTextsCardSaid : Prop := Claim7.holds Tryz.pinned (.plain (OpenSpec.ofChange filterTextsSpec)) filterTextsCard

/-- THE TIED CARD OF 'foyerlaw36.FilterMatchesReference'. -/
def filterMatchesReferenceCard : Claim7 := { stood := { row := filterMatchesReferenceRow, standIns := [], harness := (true, "2cdf8fd69777aec506b9aa64e6a64fee27cfd59dfc5ff089f0c9b6d0e50b4f39"), looks := true }, kinds := [], alts := [], laidByText := true, laidKinds := [.data, .data, .data, .data, .sentinel, .sentinel, .data, .pinned], laidTests := true, laidLooks := .later }
def FilterMatchesReferenceCardSaid : Prop := Claim7.holds Tryz.pinned (.plain (OpenSpec.ofChange filterMatchesReferenceSpec)) filterMatchesReferenceCard

/-- THE TIED CARD OF 'foyerlaw36.FilterHas'. -/
def filterHasCard : Claim7 := { stood := { row := filterHasRow, standIns := [], harness := (true, "2cdf8fd69777aec506b9aa64e6a64fee27cfd59dfc5ff089f0c9b6d0e50b4f39"), looks := true }, kinds := [], alts := [], laidByText := true, laidKinds := [.data, .data, .data, .data, .sentinel, .sentinel, .data, .pinned], laidTests := true, laidLooks := .later }
def FilterHasCardSaid : Prop := Claim7.holds Tryz.pinned (.plain (OpenSpec.ofChange filterHasSpec)) filterHasCard

/-- THE TIED CARD OF 'foyerlaw36.FilterSets'. -/
def filterSetsCard : Claim7 := { stood := { row := filterSetsRow, standIns := [], harness := (true, "2cdf8fd69777aec506b9aa64e6a64fee27cfd59dfc5ff089f0c9b6d0e50b4f39"), looks := true }, kinds := [], alts := [], laidByText := true, laidKinds := [.data, .data, .data, .data, .sentinel, .sentinel, .data, .pinned], laidTests := true, laidLooks := .later }
def FilterSetsCardSaid : Prop := Claim7.holds Tryz.pinned (.plain (OpenSpec.ofChange filterSetsSpec)) filterSetsCard

/-- THE TIED CARD OF 'foyerlaw36.FilterJoins'. -/
def filterJoinsCard : Claim7 := { stood := { row := filterJoinsRow, standIns := [], harness := (true, "2cdf8fd69777aec506b9aa64e6a64fee27cfd59dfc5ff089f0c9b6d0e50b4f39"), looks := true }, kinds := [], alts := [], laidByText := true, laidKinds := [.data, .data, .data, .data, .sentinel, .sentinel, .data, .pinned], laidTests := true, laidLooks := .later }
def FilterJoinsCardSaid : Prop := Claim7.holds Tryz.pinned (.plain (OpenSpec.ofChange filterJoinsSpec)) filterJoinsCard

/-- THE SECOND FORM's CARD OF 'foyerlaw36.FilterTexts'. -/
def filterTextsUptoCard : Claim7 := { stood := { row := filterTextsUptoRow, standIns := [], harness := (true, "2cdf8fd69777aec506b9aa64e6a64fee27cfd59dfc5ff089f0c9b6d0e50b4f39"), looks := true }, kinds := [], alts := [], laidByText := true, laidKinds := [.data, .data, .data, .data, .sentinel, .sentinel, .data, .pinned], laidTests := true, laidLooks := .later }
def FilterTextsUptoCardSaid : Prop := Claim7.holds Tryz.pinned (.plain (OpenSpec.upto filterTextsSpec)) filterTextsUptoCard

/-- THE SECOND FORM's CARD OF 'foyerlaw36.FilterMatchesReference'. -/
def filterMatchesReferenceUptoCard : Claim7 := { stood := { row := filterMatchesReferenceUptoRow, standIns := [], harness := (true, "2cdf8fd69777aec506b9aa64e6a64fee27cfd59dfc5ff089f0c9b6d0e50b4f39"), looks := true }, kinds := [], alts := [], laidByText := true, laidKinds := [.data, .data, .data, .data, .sentinel, .sentinel, .data, .pinned], laidTests := true, laidLooks := .later }
def FilterMatchesReferenceUptoCardSaid : Prop := Claim7.holds Tryz.pinned (.plain (OpenSpec.upto filterMatchesReferenceSpec)) filterMatchesReferenceUptoCard

/-- THE SECOND FORM's CARD OF 'foyerlaw36.FilterHas'. -/
def filterHasUptoCard : Claim7 := { stood := { row := filterHasUptoRow, standIns := [], harness := (true, "2cdf8fd69777aec506b9aa64e6a64fee27cfd59dfc5ff089f0c9b6d0e50b4f39"), looks := true }, kinds := [], alts := [], laidByText := true, laidKinds := [.data, .data, .data, .data, .sentinel, .sentinel, .data, .pinned], laidTests := true, laidLooks := .later }
def FilterHasUptoCardSaid : Prop := Claim7.holds Tryz.pinned (.plain (OpenSpec.upto filterHasSpec)) filterHasUptoCard

/-- THE SECOND FORM's CARD OF 'foyerlaw36.FilterSets'. -/
def filterSetsUptoCard : Claim7 := { stood := { row := filterSetsUptoRow, standIns := [], harness := (true, "2cdf8fd69777aec506b9aa64e6a64fee27cfd59dfc5ff089f0c9b6d0e50b4f39"), looks := true }, kinds := [], alts := [], laidByText := true, laidKinds := [.data, .data, .data, .data, .sentinel, .sentinel, .data, .pinned], laidTests := true, laidLooks := .later }
def FilterSetsUptoCardSaid : Prop := Claim7.holds Tryz.pinned (.plain (OpenSpec.upto filterSetsSpec)) filterSetsUptoCard

/-- THE SECOND FORM's CARD OF 'foyerlaw36.FilterJoins'. -/
def filterJoinsUptoCard : Claim7 := { stood := { row := filterJoinsUptoRow, standIns := [], harness := (true, "2cdf8fd69777aec506b9aa64e6a64fee27cfd59dfc5ff089f0c9b6d0e50b4f39"), looks := true }, kinds := [], alts := [], laidByText := true, laidKinds := [.data, .data, .data, .data, .sentinel, .sentinel, .data, .pinned], laidTests := true, laidLooks := .later }
def FilterJoinsUptoCardSaid : Prop := Claim7.holds Tryz.pinned (.plain (OpenSpec.upto filterJoinsSpec)) filterJoinsUptoCard
end Rows
end Go.Proofs.YtnmakpiddfhhnaaGreatDoor
