/-
  DERIVED. GIVEN WITH THE SEED: THE CARDS: each row of YtmhejcndkplepaaDoorRows.lean that lists a variable, with what it lists TIED to the program's text (the seventh form; the later family's looks); each row that meets fmt, with fmt's text TOLD by the authors' own Lean function (tested against real Go, not proved from fmt's source: count such statements apart). THE CARD IS WHAT COUNTS. Prove the row's statement (the work); the ties are given (YtmhejcndkplepaaDoorTie.lean); close each card by the builder's one call (the guide's Derived/Test/ToyasCard.lean, 'card_holds'). Laid BY PROGRAM, IN A SANDBOX (cutbox-door.mjs). By AI agents, Wed Nov 11 2026. No macro, syntax, notation, axiom, sorry.
-/
import Derived.Test.YtmhejcndkplepaaDoorRows
import GoSem.ClaimSeven
namespace Go.Proofs.YtmhejcndkplepaaDoor
namespace Rows

/-- THE TIED CARD OF 'foyerlaw31.RevealMatchesReference'. -/
def revealMatchesReferenceCard : Claim7 := { stood := { row := revealMatchesReferenceRow, standIns := [], harness := (true, "74f8222a530a673d61c9896175fc9227464e4d2c61cfd43343a658b715b92ff3"), looks := false }, kinds := [], alts := [], laidByText := true, laidKinds := [.data, .data, .data, .data, .data, .pinned], laidTests := true, laidLooks := .later }
def RevealMatchesReferenceCardSaid : Prop := Claim7.holds Tryd.pinned (.plain (OpenSpec.ofChange revealMatchesReferenceSpec)) revealMatchesReferenceCard

/-- THE TIED CARD OF 'foyerlaw31.RevealComplete'. -/
def revealCompleteCard : Claim7 := { stood := { row := revealCompleteRow, standIns := [], harness := (true, "74f8222a530a673d61c9896175fc9227464e4d2c61cfd43343a658b715b92ff3"), looks := false }, kinds := [], alts := [], laidByText := true, laidKinds := [.data, .data, .data, .data, .data, .pinned], laidTests := true, laidLooks := .later }
def RevealCompleteCardSaid : Prop := Claim7.holds Tryd.pinned (.plain (OpenSpec.ofChange revealCompleteSpec)) revealCompleteCard

/-- THE TIED CARD OF 'foyerlaw31.RevealSound'. -/
def revealSoundCard : Claim7 := { stood := { row := revealSoundRow, standIns := [], harness := (true, "74f8222a530a673d61c9896175fc9227464e4d2c61cfd43343a658b715b92ff3"), looks := false }, kinds := [], alts := [], laidByText := true, laidKinds := [.data, .data, .data, .data, .data, .pinned], laidTests := true, laidLooks := .later }
def RevealSoundCardSaid : Prop := Claim7.holds Tryd.pinned (.plain (OpenSpec.ofChange revealSoundSpec)) revealSoundCard

/-- THE TIED CARD OF 'foyerlaw31.RevealHides'. -/
def revealHidesCard : Claim7 := { stood := { row := revealHidesRow, standIns := [], harness := (true, "74f8222a530a673d61c9896175fc9227464e4d2c61cfd43343a658b715b92ff3"), looks := false }, kinds := [], alts := [], laidByText := true, laidKinds := [.data, .data, .data, .data, .data, .pinned], laidTests := true, laidLooks := .later }
def RevealHidesCardSaid : Prop := Claim7.holds Tryd.pinned (.plain (OpenSpec.ofChange revealHidesSpec)) revealHidesCard

/-- THE TIED CARD OF 'foyerlaw31.RevealFewer'. -/
def revealFewerCard : Claim7 := { stood := { row := revealFewerRow, standIns := [], harness := (true, "74f8222a530a673d61c9896175fc9227464e4d2c61cfd43343a658b715b92ff3"), looks := false }, kinds := [], alts := [], laidByText := true, laidKinds := [.data, .data, .data, .data, .data, .pinned], laidTests := true, laidLooks := .later }
def RevealFewerCardSaid : Prop := Claim7.holds Tryd.pinned (.plain (OpenSpec.ofChange revealFewerSpec)) revealFewerCard

/-- THE TIED CARD OF 'foyerlaw31.RevealRefuses'. -/
def revealRefusesCard : Claim7 := { stood := { row := revealRefusesRow, standIns := [], harness := (true, "74f8222a530a673d61c9896175fc9227464e4d2c61cfd43343a658b715b92ff3"), looks := false }, kinds := [], alts := [], laidByText := true, laidKinds := [.data, .data, .data, .data, .data, .pinned], laidTests := true, laidLooks := .later }
def RevealRefusesCardSaid : Prop := Claim7.holds Tryd.pinned (.plain (OpenSpec.ofChange revealRefusesSpec)) revealRefusesCard

/-- THE TIED CARD OF 'foyerlaw31.RevealSalts'. -/
def revealSaltsCard : Claim7 := { stood := { row := revealSaltsRow, standIns := [], harness := (true, "74f8222a530a673d61c9896175fc9227464e4d2c61cfd43343a658b715b92ff3"), looks := false }, kinds := [], alts := [], laidByText := true, laidKinds := [.data, .data, .data, .data, .data, .pinned], laidTests := true, laidLooks := .later }
def RevealSaltsCardSaid : Prop := Claim7.holds Tryd.pinned (.plain (OpenSpec.ofChange revealSaltsSpec)) revealSaltsCard

/-- THE TIED CARD OF 'foyerlaw18.EntryMatchesReference'. -/
def entryMatchesReferenceCard : Claim7 := { stood := { row := entryMatchesReferenceRow, standIns := [], harness := (true, "74f8222a530a673d61c9896175fc9227464e4d2c61cfd43343a658b715b92ff3"), looks := false }, kinds := [], alts := [], laidByText := true, laidKinds := [.data, .data, .data, .data, .data, .pinned], laidTests := true, laidLooks := .later }
def EntryMatchesReferenceCardSaid : Prop := Claim7.holds Tryd.pinned (.plain (OpenSpec.ofChange entryMatchesReferenceSpec)) entryMatchesReferenceCard

/-- THE TIED CARD OF 'foyerlaw18.EntryTexts'. -/
def entryTextsCard : Claim7 := { stood := { row := entryTextsRow, standIns := [], harness := (true, "74f8222a530a673d61c9896175fc9227464e4d2c61cfd43343a658b715b92ff3"), looks := false }, kinds := [], alts := [], laidByText := true, laidKinds := [.data, .data, .data, .data, .data, .pinned], laidTests := true, laidLooks := .later }
def EntryTextsCardSaid : Prop := Claim7.holds Tryd.pinned (.plain (OpenSpec.ofChange entryTextsSpec)) entryTextsCard

/-- THE TIED CARD OF 'foyerlaw18.EntryClasses'. -/
def entryClassesCard : Claim7 := { stood := { row := entryClassesRow, standIns := [], harness := (true, "74f8222a530a673d61c9896175fc9227464e4d2c61cfd43343a658b715b92ff3"), looks := false }, kinds := [], alts := [], laidByText := true, laidKinds := [.data, .data, .data, .data, .data, .pinned], laidTests := true, laidLooks := .later }
def EntryClassesCardSaid : Prop := Claim7.holds Tryd.pinned (.plain (OpenSpec.ofChange entryClassesSpec)) entryClassesCard

/-- THE TIED CARD OF 'foyerlaw18.EntryConnects'. -/
def entryConnectsCard : Claim7 := { stood := { row := entryConnectsRow, standIns := [], harness := (true, "74f8222a530a673d61c9896175fc9227464e4d2c61cfd43343a658b715b92ff3"), looks := false }, kinds := [], alts := [], laidByText := true, laidKinds := [.data, .data, .data, .data, .data, .pinned], laidTests := true, laidLooks := .later }
def EntryConnectsCardSaid : Prop := Claim7.holds Tryd.pinned (.plain (OpenSpec.ofChange entryConnectsSpec)) entryConnectsCard

/-- THE TIED CARD OF 'foyerlaw18.EntryOrder'. -/
def entryOrderCard : Claim7 := { stood := { row := entryOrderRow, standIns := [], harness := (true, "74f8222a530a673d61c9896175fc9227464e4d2c61cfd43343a658b715b92ff3"), looks := false }, kinds := [], alts := [], laidByText := true, laidKinds := [.data, .data, .data, .data, .data, .pinned], laidTests := true, laidLooks := .later }
def EntryOrderCardSaid : Prop := Claim7.holds Tryd.pinned (.plain (OpenSpec.ofChange entryOrderSpec)) entryOrderCard

/-- THE TIED CARD OF 'foyerlaw18.EntryCommits'. -/
def entryCommitsCard : Claim7 := { stood := { row := entryCommitsRow, standIns := [], harness := (true, "74f8222a530a673d61c9896175fc9227464e4d2c61cfd43343a658b715b92ff3"), looks := false }, kinds := [], alts := [], laidByText := true, laidKinds := [.data, .data, .data, .data, .data, .pinned], laidTests := true, laidLooks := .later }
def EntryCommitsCardSaid : Prop := Claim7.holds Tryd.pinned (.plain (OpenSpec.ofChange entryCommitsSpec)) entryCommitsCard

/-- THE SECOND FORM's CARD OF 'foyerlaw31.RevealMatchesReference'. -/
def revealMatchesReferenceUptoCard : Claim7 := { stood := { row := revealMatchesReferenceUptoRow, standIns := [], harness := (true, "74f8222a530a673d61c9896175fc9227464e4d2c61cfd43343a658b715b92ff3"), looks := false }, kinds := [], alts := [], laidByText := true, laidKinds := [.data, .data, .data, .data, .data, .pinned], laidTests := true, laidLooks := .later }
def RevealMatchesReferenceUptoCardSaid : Prop := Claim7.holds Tryd.pinned (.plain (OpenSpec.upto revealMatchesReferenceSpec)) revealMatchesReferenceUptoCard

/-- THE SECOND FORM's CARD OF 'foyerlaw31.RevealComplete'. -/
def revealCompleteUptoCard : Claim7 := { stood := { row := revealCompleteUptoRow, standIns := [], harness := (true, "74f8222a530a673d61c9896175fc9227464e4d2c61cfd43343a658b715b92ff3"), looks := false }, kinds := [], alts := [], laidByText := true, laidKinds := [.data, .data, .data, .data, .data, .pinned], laidTests := true, laidLooks := .later }
def RevealCompleteUptoCardSaid : Prop := Claim7.holds Tryd.pinned (.plain (OpenSpec.upto revealCompleteSpec)) revealCompleteUptoCard

/-- THE SECOND FORM's CARD OF 'foyerlaw31.RevealSound'. -/
def revealSoundUptoCard : Claim7 := { stood := { row := revealSoundUptoRow, standIns := [], harness := (true, "74f8222a530a673d61c9896175fc9227464e4d2c61cfd43343a658b715b92ff3"), looks := false }, kinds := [], alts := [], laidByText := true, laidKinds := [.data, .data, .data, .data, .data, .pinned], laidTests := true, laidLooks := .later }
def RevealSoundUptoCardSaid : Prop := Claim7.holds Tryd.pinned (.plain (OpenSpec.upto revealSoundSpec)) revealSoundUptoCard

/-- THE SECOND FORM's CARD OF 'foyerlaw31.RevealHides'. -/
def revealHidesUptoCard : Claim7 := { stood := { row := revealHidesUptoRow, standIns := [], harness := (true, "74f8222a530a673d61c9896175fc9227464e4d2c61cfd43343a658b715b92ff3"), looks := false }, kinds := [], alts := [], laidByText := true, laidKinds := [.data, .data, .data, .data, .data, .pinned], laidTests := true, laidLooks := .later }
def RevealHidesUptoCardSaid : Prop := Claim7.holds Tryd.pinned (.plain (OpenSpec.upto revealHidesSpec)) revealHidesUptoCard

/-- THE SECOND FORM's CARD OF 'foyerlaw31.RevealFewer'. -/
def revealFewerUptoCard : Claim7 := { stood := { row := revealFewerUptoRow, standIns := [], harness := (true, "74f8222a530a673d61c9896175fc9227464e4d2c61cfd43343a658b715b92ff3"), looks := false }, kinds := [], alts := [], laidByText := true, laidKinds := [.data, .data, .data, .data, .data, .pinned], laidTests := true, laidLooks := .later }
def RevealFewerUptoCardSaid : Prop := Claim7.holds Tryd.pinned (.plain (OpenSpec.upto revealFewerSpec)) revealFewerUptoCard

/-- THE SECOND FORM's CARD OF 'foyerlaw31.RevealRefuses'. -/
def revealRefusesUptoCard : Claim7 := { stood := { row := revealRefusesUptoRow, standIns := [], harness := (true, "74f8222a530a673d61c9896175fc9227464e4d2c61cfd43343a658b715b92ff3"), looks := false }, kinds := [], alts := [], laidByText := true, laidKinds := [.data, .data, .data, .data, .data, .pinned], laidTests := true, laidLooks := .later }
def RevealRefusesUptoCardSaid : Prop := Claim7.holds Tryd.pinned (.plain (OpenSpec.upto revealRefusesSpec)) revealRefusesUptoCard

/-- THE SECOND FORM's CARD OF 'foyerlaw31.RevealSalts'. -/
def revealSaltsUptoCard : Claim7 := { stood := { row := revealSaltsUptoRow, standIns := [], harness := (true, "74f8222a530a673d61c9896175fc9227464e4d2c61cfd43343a658b715b92ff3"), looks := false }, kinds := [], alts := [], laidByText := true, laidKinds := [.data, .data, .data, .data, .data, .pinned], laidTests := true, laidLooks := .later }
def RevealSaltsUptoCardSaid : Prop := Claim7.holds Tryd.pinned (.plain (OpenSpec.upto revealSaltsSpec)) revealSaltsUptoCard

/-- THE SECOND FORM's CARD OF 'foyerlaw18.EntryMatchesReference'. -/
def entryMatchesReferenceUptoCard : Claim7 := { stood := { row := entryMatchesReferenceUptoRow, standIns := [], harness := (true, "74f8222a530a673d61c9896175fc9227464e4d2c61cfd43343a658b715b92ff3"), looks := false }, kinds := [], alts := [], laidByText := true, laidKinds := [.data, .data, .data, .data, .data, .pinned], laidTests := true, laidLooks := .later }
def EntryMatchesReferenceUptoCardSaid : Prop := Claim7.holds Tryd.pinned (.plain (OpenSpec.upto entryMatchesReferenceSpec)) entryMatchesReferenceUptoCard

/-- THE SECOND FORM's CARD OF 'foyerlaw18.EntryTexts'. -/
def entryTextsUptoCard : Claim7 := { stood := { row := entryTextsUptoRow, standIns := [], harness := (true, "74f8222a530a673d61c9896175fc9227464e4d2c61cfd43343a658b715b92ff3"), looks := false }, kinds := [], alts := [], laidByText := true, laidKinds := [.data, .data, .data, .data, .data, .pinned], laidTests := true, laidLooks := .later }
def EntryTextsUptoCardSaid : Prop := Claim7.holds Tryd.pinned (.plain (OpenSpec.upto entryTextsSpec)) entryTextsUptoCard

/-- THE SECOND FORM's CARD OF 'foyerlaw18.EntryClasses'. -/
def entryClassesUptoCard : Claim7 := { stood := { row := entryClassesUptoRow, standIns := [], harness := (true, "74f8222a530a673d61c9896175fc9227464e4d2c61cfd43343a658b715b92ff3"), looks := false }, kinds := [], alts := [], laidByText := true, laidKinds := [.data, .data, .data, .data, .data, .pinned], laidTests := true, laidLooks := .later }
def EntryClassesUptoCardSaid : Prop := Claim7.holds Tryd.pinned (.plain (OpenSpec.upto entryClassesSpec)) entryClassesUptoCard

/-- THE SECOND FORM's CARD OF 'foyerlaw18.EntryConnects'. -/
def entryConnectsUptoCard : Claim7 := { stood := { row := entryConnectsUptoRow, standIns := [], harness := (true, "74f8222a530a673d61c9896175fc9227464e4d2c61cfd43343a658b715b92ff3"), looks := false }, kinds := [], alts := [], laidByText := true, laidKinds := [.data, .data, .data, .data, .data, .pinned], laidTests := true, laidLooks := .later }
def EntryConnectsUptoCardSaid : Prop := Claim7.holds Tryd.pinned (.plain (OpenSpec.upto entryConnectsSpec)) entryConnectsUptoCard

/-- THE SECOND FORM's CARD OF 'foyerlaw18.EntryOrder'. -/
def entryOrderUptoCard : Claim7 := { stood := { row := entryOrderUptoRow, standIns := [], harness := (true, "74f8222a530a673d61c9896175fc9227464e4d2c61cfd43343a658b715b92ff3"), looks := false }, kinds := [], alts := [], laidByText := true, laidKinds := [.data, .data, .data, .data, .data, .pinned], laidTests := true, laidLooks := .later }
def EntryOrderUptoCardSaid : Prop := Claim7.holds Tryd.pinned (.plain (OpenSpec.upto entryOrderSpec)) entryOrderUptoCard

/-- THE SECOND FORM's CARD OF 'foyerlaw18.EntryCommits'. -/
def entryCommitsUptoCard : Claim7 := { stood := { row := entryCommitsUptoRow, standIns := [], harness := (true, "74f8222a530a673d61c9896175fc9227464e4d2c61cfd43343a658b715b92ff3"), looks := false }, kinds := [], alts := [], laidByText := true, laidKinds := [.data, .data, .data, .data, .data, .pinned], laidTests := true, laidLooks := .later }
def EntryCommitsUptoCardSaid : Prop := Claim7.holds Tryd.pinned (.plain (OpenSpec.upto entryCommitsSpec)) entryCommitsUptoCard
end Rows
end Go.Proofs.YtmhejcndkplepaaDoor
