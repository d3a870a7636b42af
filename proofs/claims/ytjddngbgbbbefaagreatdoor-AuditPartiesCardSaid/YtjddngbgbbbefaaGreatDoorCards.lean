/-
  DERIVED. GIVEN WITH THE SEED: THE CARDS: each row of YtjddngbgbbbefaaGreatDoorRows.lean that lists a variable, with what it lists TIED to the program's text (the seventh form; the later family's looks); each row that meets fmt, with fmt's text TOLD by the authors' own Lean function (tested against real Go, not proved from fmt's source: count such statements apart). THE CARD IS WHAT COUNTS. Prove the row's statement (the work); the ties are given (YtjddngbgbbbefaaGreatDoorTie.lean); close each card by the builder's one call (the guide's Derived/Test/ToyasCard.lean, 'card_holds'). Laid BY PROGRAM, IN A SANDBOX (cutbox-door.mjs). By AI agents, Wed Nov 11 2026. No macro, syntax, notation, axiom, sorry.
-/
import Derived.Test.YtjddngbgbbbefaaGreatDoorRows
import GoSem.ClaimSeven
namespace Go.Proofs.YtjddngbgbbbefaaGreatDoor
namespace Rows

/-- THE TIED CARD OF 'foyerlaw20.AuditMatchesReference'. -/
def auditMatchesReferenceCard : Claim7 := { stood := { row := auditMatchesReferenceRow, standIns := [], harness := (true, "f860fa01c7ef49ec3d499e99a1a44eb565c6da940bc60d8305d292039d1929be"), looks := true }, kinds := [], alts := [], laidByText := true, laidKinds := [.data, .data, .data, .data, .sentinel, .sentinel, .data, .pinned], laidTests := true, laidLooks := .later }
def AuditMatchesReferenceCardSaid : Prop := Claim7.holds Tryz.pinned (.plain (OpenSpec.ofChange auditMatchesReferenceSpec)) auditMatchesReferenceCard

/-- THE TIED CARD OF 'foyerlaw20.AuditParties'. -/
def auditPartiesCard : Claim7 := { stood := { row := auditPartiesRow, standIns := [], harness := (true, "f860fa01c7ef49ec3d499e99a1a44eb565c6da940bc60d8305d292039d1929be"), looks := true }, kinds := [], alts := [], laidByText := true, laidKinds := [.data, .data, .data, .data, .sentinel, .sentinel, .data, .pinned], laidTests := true, laidLooks := .later }
def AuditPartiesCardSaid : Prop := Claim7.holds Tryz.pinned (.plain (OpenSpec.ofChange auditPartiesSpec)) auditPartiesCard

/-- THE SECOND FORM's CARD OF 'foyerlaw20.AuditMatchesReference'. -/
def auditMatchesReferenceUptoCard : Claim7 := { stood := { row := auditMatchesReferenceUptoRow, standIns := [], harness := (true, "f860fa01c7ef49ec3d499e99a1a44eb565c6da940bc60d8305d292039d1929be"), looks := true }, kinds := [], alts := [], laidByText := true, laidKinds := [.data, .data, .data, .data, .sentinel, .sentinel, .data, .pinned], laidTests := true, laidLooks := .later }
def AuditMatchesReferenceUptoCardSaid : Prop := Claim7.holds Tryz.pinned (.plain (OpenSpec.upto auditMatchesReferenceSpec)) auditMatchesReferenceUptoCard

/-- THE SECOND FORM's CARD OF 'foyerlaw20.AuditParties'. -/
def auditPartiesUptoCard : Claim7 := { stood := { row := auditPartiesUptoRow, standIns := [], harness := (true, "f860fa01c7ef49ec3d499e99a1a44eb565c6da940bc60d8305d292039d1929be"), looks := true }, kinds := [], alts := [], laidByText := true, laidKinds := [.data, .data, .data, .data, .sentinel, .sentinel, .data, .pinned], laidTests := true, laidLooks := .later }
def AuditPartiesUptoCardSaid : Prop := Claim7.holds Tryz.pinned (.plain (OpenSpec.upto auditPartiesSpec)) auditPartiesUptoCard
end Rows
end Go.Proofs.YtjddngbgbbbefaaGreatDoor
