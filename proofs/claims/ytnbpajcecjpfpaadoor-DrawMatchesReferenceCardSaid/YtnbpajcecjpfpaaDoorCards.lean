/-
  DERIVED. GIVEN WITH THE SEED: THE CARDS: each row of YtnbpajcecjpfpaaDoorRows.lean that lists a variable, with what it lists TIED to the program's text (the seventh form; the later family's looks); each row that meets fmt, with fmt's text TOLD by the authors' own Lean function (tested against real Go, not proved from fmt's source: count such statements apart). THE CARD IS WHAT COUNTS. Prove the row's statement (the work); the ties are given (YtnbpajcecjpfpaaDoorTie.lean); close each card by the builder's one call (the guide's Derived/Test/ToyasCard.lean, 'card_holds'). Laid BY PROGRAM, IN A SANDBOX (cutbox-door.mjs). By AI agents, Wed Nov 11 2026. No macro, syntax, notation, axiom, sorry.
-/
import Derived.Test.YtnbpajcecjpfpaaDoorRows
import GoSem.ClaimSeven
namespace Go.Proofs.YtnbpajcecjpfpaaDoor
namespace Rows

/-- THE TIED CARD OF 'foyerlaw19.DrawMatchesReference'. -/
def drawMatchesReferenceCard : Claim7 := { stood := { row := drawMatchesReferenceRow, standIns := [], harness := (true, "7cfc4f7050be8e898c0bc59b92851214f617cb6b65fcffbf9d59ff616aaff612"), looks := true }, kinds := [], alts := [], laidByText := true, laidKinds := [.data, .data, .data, .data, .sentinel, .sentinel, .data, .pinned], laidTests := true, laidLooks := .later }
def DrawMatchesReferenceCardSaid : Prop := Claim7.holds Tryd.pinned (.plain (OpenSpec.ofChange drawMatchesReferenceSpec)) drawMatchesReferenceCard

/-- THE TIED CARD OF 'foyerlaw19.DrawPermutes'. -/
def drawPermutesCard : Claim7 := { stood := { row := drawPermutesRow, standIns := [], harness := (true, "7cfc4f7050be8e898c0bc59b92851214f617cb6b65fcffbf9d59ff616aaff612"), looks := true }, kinds := [], alts := [], laidByText := true, laidKinds := [.data, .data, .data, .data, .sentinel, .sentinel, .data, .pinned], laidTests := true, laidLooks := .later }
def DrawPermutesCardSaid : Prop := Claim7.holds Tryd.pinned (.plain (OpenSpec.ofChange drawPermutesSpec)) drawPermutesCard

/-- THE TIED CARD OF 'foyerlaw19.DrawSeeds'. -/
def drawSeedsCard : Claim7 := { stood := { row := drawSeedsRow, standIns := [], harness := (true, "7cfc4f7050be8e898c0bc59b92851214f617cb6b65fcffbf9d59ff616aaff612"), looks := true }, kinds := [], alts := [], laidByText := true, laidKinds := [.data, .data, .data, .data, .sentinel, .sentinel, .data, .pinned], laidTests := true, laidLooks := .later }
def DrawSeedsCardSaid : Prop := Claim7.holds Tryd.pinned (.plain (OpenSpec.ofChange drawSeedsSpec)) drawSeedsCard

/-- THE TIED CARD OF 'foyerlaw19.DrawCommits'. -/
def drawCommitsCard : Claim7 := { stood := { row := drawCommitsRow, standIns := [], harness := (true, "7cfc4f7050be8e898c0bc59b92851214f617cb6b65fcffbf9d59ff616aaff612"), looks := true }, kinds := [], alts := [], laidByText := true, laidKinds := [.data, .data, .data, .data, .sentinel, .sentinel, .data, .pinned], laidTests := true, laidLooks := .later }
def DrawCommitsCardSaid : Prop := Claim7.holds Tryd.pinned (.plain (OpenSpec.ofChange drawCommitsSpec)) drawCommitsCard

/-- THE TIED CARD OF 'foyerlaw19.DrawSteps'. -/
def drawStepsCard : Claim7 := { stood := { row := drawStepsRow, standIns := [], harness := (true, "7cfc4f7050be8e898c0bc59b92851214f617cb6b65fcffbf9d59ff616aaff612"), looks := true }, kinds := [], alts := [], laidByText := true, laidKinds := [.data, .data, .data, .data, .sentinel, .sentinel, .data, .pinned], laidTests := true, laidLooks := .later }
def DrawStepsCardSaid : Prop := Claim7.holds Tryd.pinned (.plain (OpenSpec.ofChange drawStepsSpec)) drawStepsCard

/-- THE TIED CARD OF 'foyerlaw19.DrawErrors'. -/
def drawErrorsCard : Claim7 := { stood := { row := drawErrorsRow, standIns := [], harness := (true, "7cfc4f7050be8e898c0bc59b92851214f617cb6b65fcffbf9d59ff616aaff612"), looks := true }, kinds := [], alts := [], laidByText := true, laidKinds := [.data, .data, .data, .data, .sentinel, .sentinel, .data, .pinned], laidTests := true, laidLooks := .later }
def DrawErrorsCardSaid : Prop := Claim7.holds Tryd.pinned (.plain (OpenSpec.ofChange drawErrorsSpec)) drawErrorsCard

/-- THE SECOND FORM's CARD OF 'foyerlaw19.DrawMatchesReference'. -/
def drawMatchesReferenceUptoCard : Claim7 := { stood := { row := drawMatchesReferenceUptoRow, standIns := [], harness := (true, "7cfc4f7050be8e898c0bc59b92851214f617cb6b65fcffbf9d59ff616aaff612"), looks := true }, kinds := [], alts := [], laidByText := true, laidKinds := [.data, .data, .data, .data, .sentinel, .sentinel, .data, .pinned], laidTests := true, laidLooks := .later }
def DrawMatchesReferenceUptoCardSaid : Prop := Claim7.holds Tryd.pinned (.plain (OpenSpec.upto drawMatchesReferenceSpec)) drawMatchesReferenceUptoCard

/-- THE SECOND FORM's CARD OF 'foyerlaw19.DrawPermutes'. -/
def drawPermutesUptoCard : Claim7 := { stood := { row := drawPermutesUptoRow, standIns := [], harness := (true, "7cfc4f7050be8e898c0bc59b92851214f617cb6b65fcffbf9d59ff616aaff612"), looks := true }, kinds := [], alts := [], laidByText := true, laidKinds := [.data, .data, .data, .data, .sentinel, .sentinel, .data, .pinned], laidTests := true, laidLooks := .later }
def DrawPermutesUptoCardSaid : Prop := Claim7.holds Tryd.pinned (.plain (OpenSpec.upto drawPermutesSpec)) drawPermutesUptoCard

/-- THE SECOND FORM's CARD OF 'foyerlaw19.DrawSeeds'. -/
def drawSeedsUptoCard : Claim7 := { stood := { row := drawSeedsUptoRow, standIns := [], harness := (true, "7cfc4f7050be8e898c0bc59b92851214f617cb6b65fcffbf9d59ff616aaff612"), looks := true }, kinds := [], alts := [], laidByText := true, laidKinds := [.data, .data, .data, .data, .sentinel, .sentinel, .data, .pinned], laidTests := true, laidLooks := .later }
def DrawSeedsUptoCardSaid : Prop := Claim7.holds Tryd.pinned (.plain (OpenSpec.upto drawSeedsSpec)) drawSeedsUptoCard

/-- THE SECOND FORM's CARD OF 'foyerlaw19.DrawCommits'. -/
def drawCommitsUptoCard : Claim7 := { stood := { row := drawCommitsUptoRow, standIns := [], harness := (true, "7cfc4f7050be8e898c0bc59b92851214f617cb6b65fcffbf9d59ff616aaff612"), looks := true }, kinds := [], alts := [], laidByText := true, laidKinds := [.data, .data, .data, .data, .sentinel, .sentinel, .data, .pinned], laidTests := true, laidLooks := .later }
def DrawCommitsUptoCardSaid : Prop := Claim7.holds Tryd.pinned (.plain (OpenSpec.upto drawCommitsSpec)) drawCommitsUptoCard

/-- THE SECOND FORM's CARD OF 'foyerlaw19.DrawSteps'. -/
def drawStepsUptoCard : Claim7 := { stood := { row := drawStepsUptoRow, standIns := [], harness := (true, "7cfc4f7050be8e898c0bc59b92851214f617cb6b65fcffbf9d59ff616aaff612"), looks := true }, kinds := [], alts := [], laidByText := true, laidKinds := [.data, .data, .data, .data, .sentinel, .sentinel, .data, .pinned], laidTests := true, laidLooks := .later }
def DrawStepsUptoCardSaid : Prop := Claim7.holds Tryd.pinned (.plain (OpenSpec.upto drawStepsSpec)) drawStepsUptoCard

/-- THE SECOND FORM's CARD OF 'foyerlaw19.DrawErrors'. -/
def drawErrorsUptoCard : Claim7 := { stood := { row := drawErrorsUptoRow, standIns := [], harness := (true, "7cfc4f7050be8e898c0bc59b92851214f617cb6b65fcffbf9d59ff616aaff612"), looks := true }, kinds := [], alts := [], laidByText := true, laidKinds := [.data, .data, .data, .data, .sentinel, .sentinel, .data, .pinned], laidTests := true, laidLooks := .later }
def DrawErrorsUptoCardSaid : Prop := Claim7.holds Tryd.pinned (.plain (OpenSpec.upto drawErrorsSpec)) drawErrorsUptoCard
end Rows
end Go.Proofs.YtnbpajcecjpfpaaDoor
