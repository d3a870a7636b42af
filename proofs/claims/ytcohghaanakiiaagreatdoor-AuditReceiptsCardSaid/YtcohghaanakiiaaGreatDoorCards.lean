/-
  DERIVED. GIVEN WITH THE SEED: THE CARDS: each row of YtcohghaanakiiaaGreatDoorRows.lean that lists a variable, with what it lists TIED to the program's text (the seventh form; the later family's looks); each row that meets fmt, with fmt's text TOLD by the authors' own Lean function (tested against real Go, not proved from fmt's source: count such statements apart). THE CARD IS WHAT COUNTS. Prove the row's statement (the work); the ties are given (YtcohghaanakiiaaGreatDoorTie.lean); close each card by the builder's one call (the guide's Derived/Test/ToyasCard.lean, 'card_holds'). Laid BY PROGRAM, IN A SANDBOX (cutbox-door.mjs). By AI agents, Wed Nov 11 2026. No macro, syntax, notation, axiom, sorry.
-/
import Derived.Test.YtcohghaanakiiaaGreatDoorRows
import GoSem.ClaimSeven
namespace Go.Proofs.YtcohghaanakiiaaGreatDoor
namespace Rows

/-- THE TIED CARD OF 'foyerlaw20.AuditMatchesReference'. -/
def auditMatchesReferenceCard : Claim7 := { stood := { row := auditMatchesReferenceRow, standIns := [], harness := (true, "6017298b67794b3d2308151430f02b046887fca40b0659ffcfdb8bff1de6800c"), looks := true }, kinds := [], alts := [], laidByText := true, laidKinds := [.data, .data, .data, .data, .sentinel, .sentinel, .data, .pinned], laidTests := true, laidLooks := .later }
def AuditMatchesReferenceCardSaid : Prop := Claim7.holds Tryz.pinned (.plain (OpenSpec.ofChange auditMatchesReferenceSpec)) auditMatchesReferenceCard

/-- THE TIED CARD OF 'foyerlaw20.AuditHonest'. -/
def auditHonestCard : Claim7 := { stood := { row := auditHonestRow, standIns := [], harness := (true, "6017298b67794b3d2308151430f02b046887fca40b0659ffcfdb8bff1de6800c"), looks := true }, kinds := [], alts := [], laidByText := true, laidKinds := [.data, .data, .data, .data, .sentinel, .sentinel, .data, .pinned], laidTests := true, laidLooks := .later }
def AuditHonestCardSaid : Prop := Claim7.holds Tryz.pinned (.plain (OpenSpec.ofChange auditHonestSpec)) auditHonestCard

/-- THE TIED CARD OF 'foyerlaw20.AuditOrders'. -/
def auditOrdersCard : Claim7 := { stood := { row := auditOrdersRow, standIns := [], harness := (true, "6017298b67794b3d2308151430f02b046887fca40b0659ffcfdb8bff1de6800c"), looks := true }, kinds := [], alts := [], laidByText := true, laidKinds := [.data, .data, .data, .data, .sentinel, .sentinel, .data, .pinned], laidTests := true, laidLooks := .later }
def AuditOrdersCardSaid : Prop := Claim7.holds Tryz.pinned (.plain (OpenSpec.ofChange auditOrdersSpec)) auditOrdersCard

/-- THE TIED CARD OF 'foyerlaw20.AuditReceipts'. -/
def auditReceiptsCard : Claim7 := { stood := { row := auditReceiptsRow, standIns := [], harness := (true, "6017298b67794b3d2308151430f02b046887fca40b0659ffcfdb8bff1de6800c"), looks := true }, kinds := [], alts := [], laidByText := true, laidKinds := [.data, .data, .data, .data, .sentinel, .sentinel, .data, .pinned], laidTests := true, laidLooks := .later }
def AuditReceiptsCardSaid : Prop := Claim7.holds Tryz.pinned (.plain (OpenSpec.ofChange auditReceiptsSpec)) auditReceiptsCard

/-- THE TIED CARD OF 'foyerlaw20.AuditBinding'. -/
def auditBindingCard : Claim7 := { stood := { row := auditBindingRow, standIns := [], harness := (true, "6017298b67794b3d2308151430f02b046887fca40b0659ffcfdb8bff1de6800c"), looks := true }, kinds := [], alts := [], laidByText := true, laidKinds := [.data, .data, .data, .data, .sentinel, .sentinel, .data, .pinned], laidTests := true, laidLooks := .later }
def AuditBindingCardSaid : Prop := Claim7.holds Tryz.pinned (.plain (OpenSpec.ofChange auditBindingSpec)) auditBindingCard

/-- THE TIED CARD OF 'foyerlaw20.AuditServes'. -/
def auditServesCard : Claim7 := { stood := { row := auditServesRow, standIns := [], harness := (true, "6017298b67794b3d2308151430f02b046887fca40b0659ffcfdb8bff1de6800c"), looks := true }, kinds := [], alts := [], laidByText := true, laidKinds := [.data, .data, .data, .data, .sentinel, .sentinel, .data, .pinned], laidTests := true, laidLooks := .later }
def AuditServesCardSaid : Prop := Claim7.holds Tryz.pinned (.plain (OpenSpec.ofChange auditServesSpec)) auditServesCard

/-- THE TIED CARD OF 'foyerlaw20.AuditParties'. -/
def auditPartiesCard : Claim7 := { stood := { row := auditPartiesRow, standIns := [], harness := (true, "6017298b67794b3d2308151430f02b046887fca40b0659ffcfdb8bff1de6800c"), looks := true }, kinds := [], alts := [], laidByText := true, laidKinds := [.data, .data, .data, .data, .sentinel, .sentinel, .data, .pinned], laidTests := true, laidLooks := .later }
def AuditPartiesCardSaid : Prop := Claim7.holds Tryz.pinned (.plain (OpenSpec.ofChange auditPartiesSpec)) auditPartiesCard

/-- THE SECOND FORM's CARD OF 'foyerlaw20.AuditMatchesReference'. -/
def auditMatchesReferenceUptoCard : Claim7 := { stood := { row := auditMatchesReferenceUptoRow, standIns := [], harness := (true, "6017298b67794b3d2308151430f02b046887fca40b0659ffcfdb8bff1de6800c"), looks := true }, kinds := [], alts := [], laidByText := true, laidKinds := [.data, .data, .data, .data, .sentinel, .sentinel, .data, .pinned], laidTests := true, laidLooks := .later }
def AuditMatchesReferenceUptoCardSaid : Prop := Claim7.holds Tryz.pinned (.plain (OpenSpec.upto auditMatchesReferenceSpec)) auditMatchesReferenceUptoCard

/-- THE SECOND FORM's CARD OF 'foyerlaw20.AuditHonest'. -/
def auditHonestUptoCard : Claim7 := { stood := { row := auditHonestUptoRow, standIns := [], harness := (true, "6017298b67794b3d2308151430f02b046887fca40b0659ffcfdb8bff1de6800c"), looks := true }, kinds := [], alts := [], laidByText := true, laidKinds := [.data, .data, .data, .data, .sentinel, .sentinel, .data, .pinned], laidTests := true, laidLooks := .later }
def AuditHonestUptoCardSaid : Prop := Claim7.holds Tryz.pinned (.plain (OpenSpec.upto auditHonestSpec)) auditHonestUptoCard

/-- THE SECOND FORM's CARD OF 'foyerlaw20.AuditOrders'. -/
def auditOrdersUptoCard : Claim7 := { stood := { row := auditOrdersUptoRow, standIns := [], harness := (true, "6017298b67794b3d2308151430f02b046887fca40b0659ffcfdb8bff1de6800c"), looks := true }, kinds := [], alts := [], laidByText := true, laidKinds := [.data, .data, .data, .data, .sentinel, .sentinel, .data, .pinned], laidTests := true, laidLooks := .later }
def AuditOrdersUptoCardSaid : Prop := Claim7.holds Tryz.pinned (.plain (OpenSpec.upto auditOrdersSpec)) auditOrdersUptoCard

/-- THE SECOND FORM's CARD OF 'foyerlaw20.AuditReceipts'. -/
def auditReceiptsUptoCard : Claim7 := { stood := { row := auditReceiptsUptoRow, standIns := [], harness := (true, "6017298b67794b3d2308151430f02b046887fca40b0659ffcfdb8bff1de6800c"), looks := true }, kinds := [], alts := [], laidByText := true, laidKinds := [.data, .data, .data, .data, .sentinel, .sentinel, .data, .pinned], laidTests := true, laidLooks := .later }
def AuditReceiptsUptoCardSaid : Prop := Claim7.holds Tryz.pinned (.plain (OpenSpec.upto auditReceiptsSpec)) auditReceiptsUptoCard

/-- THE SECOND FORM's CARD OF 'foyerlaw20.AuditBinding'. -/
def auditBindingUptoCard : Claim7 := { stood := { row := auditBindingUptoRow, standIns := [], harness := (true, "6017298b67794b3d2308151430f02b046887fca40b0659ffcfdb8bff1de6800c"), looks := true }, kinds := [], alts := [], laidByText := true, laidKinds := [.data, .data, .data, .data, .sentinel, .sentinel, .data, .pinned], laidTests := true, laidLooks := .later }
def AuditBindingUptoCardSaid : Prop := Claim7.holds Tryz.pinned (.plain (OpenSpec.upto auditBindingSpec)) auditBindingUptoCard

/-- THE SECOND FORM's CARD OF 'foyerlaw20.AuditServes'. -/
def auditServesUptoCard : Claim7 := { stood := { row := auditServesUptoRow, standIns := [], harness := (true, "6017298b67794b3d2308151430f02b046887fca40b0659ffcfdb8bff1de6800c"), looks := true }, kinds := [], alts := [], laidByText := true, laidKinds := [.data, .data, .data, .data, .sentinel, .sentinel, .data, .pinned], laidTests := true, laidLooks := .later }
def AuditServesUptoCardSaid : Prop := Claim7.holds Tryz.pinned (.plain (OpenSpec.upto auditServesSpec)) auditServesUptoCard

/-- THE SECOND FORM's CARD OF 'foyerlaw20.AuditParties'. -/
def auditPartiesUptoCard : Claim7 := { stood := { row := auditPartiesUptoRow, standIns := [], harness := (true, "6017298b67794b3d2308151430f02b046887fca40b0659ffcfdb8bff1de6800c"), looks := true }, kinds := [], alts := [], laidByText := true, laidKinds := [.data, .data, .data, .data, .sentinel, .sentinel, .data, .pinned], laidTests := true, laidLooks := .later }
def AuditPartiesUptoCardSaid : Prop := Claim7.holds Tryz.pinned (.plain (OpenSpec.upto auditPartiesSpec)) auditPartiesUptoCard
end Rows
end Go.Proofs.YtcohghaanakiiaaGreatDoor
