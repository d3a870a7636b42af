/-
  DERIVED. GIVEN WITH THE SEED: THE CARDS: each row of YtglgkdbhdjkeaaaGreatDoorRows.lean that lists a variable, with what it lists TIED to the program's text (the seventh form; the later family's looks); each row that meets fmt, with fmt's text TOLD by the authors' own Lean function (tested against real Go, not proved from fmt's source: count such statements apart). THE CARD IS WHAT COUNTS. Prove the row's statement (the work); the ties are given (YtglgkdbhdjkeaaaGreatDoorTie.lean); close each card by the builder's one call (the guide's Derived/Test/ToyasCard.lean, 'card_holds'). Laid BY PROGRAM, IN A SANDBOX (cutbox-door.mjs). By AI agents, Wed Nov 11 2026. No macro, syntax, notation, axiom, sorry.
-/
import Derived.Test.YtglgkdbhdjkeaaaGreatDoorRows
import GoSem.ClaimSeven
namespace Go.Proofs.YtglgkdbhdjkeaaaGreatDoor
namespace Rows

/-- THE TIED CARD OF 'foyerlaw37.GateMatchesReference'. -/
def gateMatchesReferenceCard : Claim7 := { stood := { row := gateMatchesReferenceRow, standIns := [], harness := (true, "10b8192ff39291e6cfb0cb1b102859e884d553a2e5d0cfabb186b324f45677d4"), looks := true }, kinds := [], alts := [], laidByText := true, laidKinds := [.data, .data, .data, .data, .sentinel, .sentinel, .data, .pinned], laidTests := true, laidLooks := .later }
def GateMatchesReferenceCardSaid : Prop := Claim7.holds Tryz.pinned (.plain (OpenSpec.ofChange gateMatchesReferenceSpec)) gateMatchesReferenceCard

/-- THE TIED CARD OF 'foyerlaw37.GateAdmits'. -/
def gateAdmitsCard : Claim7 := { stood := { row := gateAdmitsRow, standIns := [], harness := (true, "10b8192ff39291e6cfb0cb1b102859e884d553a2e5d0cfabb186b324f45677d4"), looks := true }, kinds := [], alts := [], laidByText := true, laidKinds := [.data, .data, .data, .data, .sentinel, .sentinel, .data, .pinned], laidTests := true, laidLooks := .later }
def GateAdmitsCardSaid : Prop := Claim7.holds Tryz.pinned (.plain (OpenSpec.ofChange gateAdmitsSpec)) gateAdmitsCard

/-- THE TIED CARD OF 'foyerlaw37.GateAlternates'. -/
def gateAlternatesCard : Claim7 := { stood := { row := gateAlternatesRow, standIns := [], harness := (true, "10b8192ff39291e6cfb0cb1b102859e884d553a2e5d0cfabb186b324f45677d4"), looks := true }, kinds := [], alts := [], laidByText := true, laidKinds := [.data, .data, .data, .data, .sentinel, .sentinel, .data, .pinned], laidTests := true, laidLooks := .later }
def GateAlternatesCardSaid : Prop := Claim7.holds Tryz.pinned (.plain (OpenSpec.ofChange gateAlternatesSpec)) gateAlternatesCard

/-- THE TIED CARD OF 'foyerlaw37.GateStale'. -/
def gateStaleCard : Claim7 := { stood := { row := gateStaleRow, standIns := [], harness := (true, "10b8192ff39291e6cfb0cb1b102859e884d553a2e5d0cfabb186b324f45677d4"), looks := true }, kinds := [], alts := [], laidByText := true, laidKinds := [.data, .data, .data, .data, .sentinel, .sentinel, .data, .pinned], laidTests := true, laidLooks := .later }
def GateStaleCardSaid : Prop := Claim7.holds Tryz.pinned (.plain (OpenSpec.ofChange gateStaleSpec)) gateStaleCard

/-- THE TIED CARD OF 'foyerlaw37.GateSteps'. -/
def gateStepsCard : Claim7 := { stood := { row := gateStepsRow, standIns := [], harness := (true, "10b8192ff39291e6cfb0cb1b102859e884d553a2e5d0cfabb186b324f45677d4"), looks := true }, kinds := [], alts := [], laidByText := true, laidKinds := [.data, .data, .data, .data, .sentinel, .sentinel, .data, .pinned], laidTests := true, laidLooks := .later }
def GateStepsCardSaid : Prop := Claim7.holds Tryz.pinned (.plain (OpenSpec.ofChange gateStepsSpec)) gateStepsCard

/-- THE TIED CARD OF 'foyerlaw37.GateRefuses'. -/
def gateRefusesCard : Claim7 := { stood := { row := gateRefusesRow, standIns := [], harness := (true, "10b8192ff39291e6cfb0cb1b102859e884d553a2e5d0cfabb186b324f45677d4"), looks := true }, kinds := [], alts := [], laidByText := true, laidKinds := [.data, .data, .data, .data, .sentinel, .sentinel, .data, .pinned], laidTests := true, laidLooks := .later }
def GateRefusesCardSaid : Prop := Claim7.holds Tryz.pinned (.plain (OpenSpec.ofChange gateRefusesSpec)) gateRefusesCard

/-- THE TIED CARD OF 'foyerlaw37.GateArgs'. -/
def gateArgsCard : Claim7 := { stood := { row := gateArgsRow, standIns := [], harness := (true, "10b8192ff39291e6cfb0cb1b102859e884d553a2e5d0cfabb186b324f45677d4"), looks := true }, kinds := [], alts := [], laidByText := true, laidKinds := [.data, .data, .data, .data, .sentinel, .sentinel, .data, .pinned], laidTests := true, laidLooks := .later }
def GateArgsCardSaid : Prop := Claim7.holds Tryz.pinned (.plain (OpenSpec.ofChange gateArgsSpec)) gateArgsCard

/-- THE SECOND FORM's CARD OF 'foyerlaw37.GateMatchesReference'. -/
def gateMatchesReferenceUptoCard : Claim7 := { stood := { row := gateMatchesReferenceUptoRow, standIns := [], harness := (true, "10b8192ff39291e6cfb0cb1b102859e884d553a2e5d0cfabb186b324f45677d4"), looks := true }, kinds := [], alts := [], laidByText := true, laidKinds := [.data, .data, .data, .data, .sentinel, .sentinel, .data, .pinned], laidTests := true, laidLooks := .later }
def GateMatchesReferenceUptoCardSaid : Prop := Claim7.holds Tryz.pinned (.plain (OpenSpec.upto gateMatchesReferenceSpec)) gateMatchesReferenceUptoCard

/-- THE SECOND FORM's CARD OF 'foyerlaw37.GateAdmits'. -/
def gateAdmitsUptoCard : Claim7 := { stood := { row := gateAdmitsUptoRow, standIns := [], harness := (true, "10b8192ff39291e6cfb0cb1b102859e884d553a2e5d0cfabb186b324f45677d4"), looks := true }, kinds := [], alts := [], laidByText := true, laidKinds := [.data, .data, .data, .data, .sentinel, .sentinel, .data, .pinned], laidTests := true, laidLooks := .later }
def GateAdmitsUptoCardSaid : Prop := Claim7.holds Tryz.pinned (.plain (OpenSpec.upto gateAdmitsSpec)) gateAdmitsUptoCard

/-- THE SECOND FORM's CARD OF 'foyerlaw37.GateAlternates'. -/
def gateAlternatesUptoCard : Claim7 := { stood := { row := gateAlternatesUptoRow, standIns := [], harness := (true, "10b8192ff39291e6cfb0cb1b102859e884d553a2e5d0cfabb186b324f45677d4"), looks := true }, kinds := [], alts := [], laidByText := true, laidKinds := [.data, .data, .data, .data, .sentinel, .sentinel, .data, .pinned], laidTests := true, laidLooks := .later }
def GateAlternatesUptoCardSaid : Prop := Claim7.holds Tryz.pinned (.plain (OpenSpec.upto gateAlternatesSpec)) gateAlternatesUptoCard

/-- THE SECOND FORM's CARD OF 'foyerlaw37.GateStale'. -/
def gateStaleUptoCard : Claim7 := { stood := { row := gateStaleUptoRow, standIns := [], harness := (true, "10b8192ff39291e6cfb0cb1b102859e884d553a2e5d0cfabb186b324f45677d4"), looks := true }, kinds := [], alts := [], laidByText := true, laidKinds := [.data, .data, .data, .data, .sentinel, .sentinel, .data, .pinned], laidTests := true, laidLooks := .later }
def GateStaleUptoCardSaid : Prop := Claim7.holds Tryz.pinned (.plain (OpenSpec.upto gateStaleSpec)) gateStaleUptoCard

/-- THE SECOND FORM's CARD OF 'foyerlaw37.GateSteps'. -/
def gateStepsUptoCard : Claim7 := { stood := { row := gateStepsUptoRow, standIns := [], harness := (true, "10b8192ff39291e6cfb0cb1b102859e884d553a2e5d0cfabb186b324f45677d4"), looks := true }, kinds := [], alts := [], laidByText := true, laidKinds := [.data, .data, .data, .data, .sentinel, .sentinel, .data, .pinned], laidTests := true, laidLooks := .later }
def GateStepsUptoCardSaid : Prop := Claim7.holds Tryz.pinned (.plain (OpenSpec.upto gateStepsSpec)) gateStepsUptoCard

/-- THE SECOND FORM's CARD OF 'foyerlaw37.GateRefuses'. -/
def gateRefusesUptoCard : Claim7 := { stood := { row := gateRefusesUptoRow, standIns := [], harness := (true, "10b8192ff39291e6cfb0cb1b102859e884d553a2e5d0cfabb186b324f45677d4"), looks := true }, kinds := [], alts := [], laidByText := true, laidKinds := [.data, .data, .data, .data, .sentinel, .sentinel, .data, .pinned], laidTests := true, laidLooks := .later }
def GateRefusesUptoCardSaid : Prop := Claim7.holds Tryz.pinned (.plain (OpenSpec.upto gateRefusesSpec)) gateRefusesUptoCard

/-- THE SECOND FORM's CARD OF 'foyerlaw37.GateArgs'. -/
def gateArgsUptoCard : Claim7 := { stood := { row := gateArgsUptoRow, standIns := [], harness := (true, "10b8192ff39291e6cfb0cb1b102859e884d553a2e5d0cfabb186b324f45677d4"), looks := true }, kinds := [], alts := [], laidByText := true, laidKinds := [.data, .data, .data, .data, .sentinel, .sentinel, .data, .pinned], laidTests := true, laidLooks := .later }
def GateArgsUptoCardSaid : Prop := Claim7.holds Tryz.pinned (.plain (OpenSpec.upto gateArgsSpec)) gateArgsUptoCard
end Rows
end Go.Proofs.YtglgkdbhdjkeaaaGreatDoor
