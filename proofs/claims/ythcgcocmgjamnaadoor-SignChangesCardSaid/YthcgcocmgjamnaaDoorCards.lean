/-
  DERIVED. GIVEN WITH THE SEED: THE CARDS: each row of YthcgcocmgjamnaaDoorRows.lean that lists a variable, with what it lists TIED to the program's text (the seventh form; the later family's looks); each row that meets fmt, with fmt's text TOLD by the authors' own Lean function (tested against real Go, not proved from fmt's source: count such statements apart). THE CARD IS WHAT COUNTS. Prove the row's statement (the work); the ties are given (YthcgcocmgjamnaaDoorTie.lean); close each card by the builder's one call (the guide's Derived/Test/ToyasCard.lean, 'card_holds'). Laid BY PROGRAM, IN A SANDBOX (cutbox-door.mjs). By AI agents, Wed Nov 11 2026. No macro, syntax, notation, axiom, sorry.
-/
import Derived.Test.YthcgcocmgjamnaaDoorRows
import GoSem.ClaimSeven
namespace Go.Proofs.YthcgcocmgjamnaaDoor
namespace Rows

/-- THE TIED CARD OF 'foyerlaw03.SignMatchesReference'. -/
def signMatchesReferenceCard : Claim7 := { stood := { row := signMatchesReferenceRow, standIns := [], harness := (true, "d09a7669677baa603b4db90f453e00898d609e312c517e5c28ba134bb4e7ec60"), looks := false }, kinds := [], alts := [], laidByText := true, laidKinds := [.data, .data, .data, .data, .data, .pinned], laidTests := true, laidLooks := .later }
def SignMatchesReferenceCardSaid : Prop := Claim7.holds Tryd.pinned (.plain (OpenSpec.ofChange signMatchesReferenceSpec)) signMatchesReferenceCard

/-- THE TIED CARD OF 'foyerlaw03.SignVerifies'. -/
def signVerifiesCard : Claim7 := { stood := { row := signVerifiesRow, standIns := [], harness := (true, "d09a7669677baa603b4db90f453e00898d609e312c517e5c28ba134bb4e7ec60"), looks := false }, kinds := [], alts := [], laidByText := true, laidKinds := [.data, .data, .data, .data, .data, .pinned], laidTests := true, laidLooks := .later }
def SignVerifiesCardSaid : Prop := Claim7.holds Tryd.pinned (.plain (OpenSpec.ofChange signVerifiesSpec)) signVerifiesCard

/-- THE TIED CARD OF 'foyerlaw03.SignBinds'. -/
def signBindsCard : Claim7 := { stood := { row := signBindsRow, standIns := [], harness := (true, "d09a7669677baa603b4db90f453e00898d609e312c517e5c28ba134bb4e7ec60"), looks := false }, kinds := [], alts := [], laidByText := true, laidKinds := [.data, .data, .data, .data, .data, .pinned], laidTests := true, laidLooks := .later }
def SignBindsCardSaid : Prop := Claim7.holds Tryd.pinned (.plain (OpenSpec.ofChange signBindsSpec)) signBindsCard

/-- THE TIED CARD OF 'foyerlaw03.SignChanges'. -/
def signChangesCard : Claim7 := { stood := { row := signChangesRow, standIns := [], harness := (true, "d09a7669677baa603b4db90f453e00898d609e312c517e5c28ba134bb4e7ec60"), looks := false }, kinds := [], alts := [], laidByText := true, laidKinds := [.data, .data, .data, .data, .data, .pinned], laidTests := true, laidLooks := .later }
def SignChangesCardSaid : Prop := Claim7.holds Tryd.pinned (.plain (OpenSpec.ofChange signChangesSpec)) signChangesCard

/-- THE TIED CARD OF 'foyerlaw03.SignKeys'. -/
def signKeysCard : Claim7 := { stood := { row := signKeysRow, standIns := [], harness := (true, "d09a7669677baa603b4db90f453e00898d609e312c517e5c28ba134bb4e7ec60"), looks := false }, kinds := [], alts := [], laidByText := true, laidKinds := [.data, .data, .data, .data, .data, .pinned], laidTests := true, laidLooks := .later }
def SignKeysCardSaid : Prop := Claim7.holds Tryd.pinned (.plain (OpenSpec.ofChange signKeysSpec)) signKeysCard

/-- THE TIED CARD OF 'foyerlaw03.SignForm'. -/
def signFormCard : Claim7 := { stood := { row := signFormRow, standIns := [], harness := (true, "d09a7669677baa603b4db90f453e00898d609e312c517e5c28ba134bb4e7ec60"), looks := false }, kinds := [], alts := [], laidByText := true, laidKinds := [.data, .data, .data, .data, .data, .pinned], laidTests := true, laidLooks := .later }
def SignFormCardSaid : Prop := Claim7.holds Tryd.pinned (.plain (OpenSpec.ofChange signFormSpec)) signFormCard

/-- THE SECOND FORM's CARD OF 'foyerlaw03.SignMatchesReference'. -/
def signMatchesReferenceUptoCard : Claim7 := { stood := { row := signMatchesReferenceUptoRow, standIns := [], harness := (true, "d09a7669677baa603b4db90f453e00898d609e312c517e5c28ba134bb4e7ec60"), looks := false }, kinds := [], alts := [], laidByText := true, laidKinds := [.data, .data, .data, .data, .data, .pinned], laidTests := true, laidLooks := .later }
def SignMatchesReferenceUptoCardSaid : Prop := Claim7.holds Tryd.pinned (.plain (OpenSpec.upto signMatchesReferenceSpec)) signMatchesReferenceUptoCard

/-- THE SECOND FORM's CARD OF 'foyerlaw03.SignVerifies'. -/
def signVerifiesUptoCard : Claim7 := { stood := { row := signVerifiesUptoRow, standIns := [], harness := (true, "d09a7669677baa603b4db90f453e00898d609e312c517e5c28ba134bb4e7ec60"), looks := false }, kinds := [], alts := [], laidByText := true, laidKinds := [.data, .data, .data, .data, .data, .pinned], laidTests := true, laidLooks := .later }
def SignVerifiesUptoCardSaid : Prop := Claim7.holds Tryd.pinned (.plain (OpenSpec.upto signVerifiesSpec)) signVerifiesUptoCard

/-- THE SECOND FORM's CARD OF 'foyerlaw03.SignBinds'. -/
def signBindsUptoCard : Claim7 := { stood := { row := signBindsUptoRow, standIns := [], harness := (true, "d09a7669677baa603b4db90f453e00898d609e312c517e5c28ba134bb4e7ec60"), looks := false }, kinds := [], alts := [], laidByText := true, laidKinds := [.data, .data, .data, .data, .data, .pinned], laidTests := true, laidLooks := .later }
def SignBindsUptoCardSaid : Prop := Claim7.holds Tryd.pinned (.plain (OpenSpec.upto signBindsSpec)) signBindsUptoCard

/-- THE SECOND FORM's CARD OF 'foyerlaw03.SignChanges'. -/
def signChangesUptoCard : Claim7 := { stood := { row := signChangesUptoRow, standIns := [], harness := (true, "d09a7669677baa603b4db90f453e00898d609e312c517e5c28ba134bb4e7ec60"), looks := false }, kinds := [], alts := [], laidByText := true, laidKinds := [.data, .data, .data, .data, .data, .pinned], laidTests := true, laidLooks := .later }
def SignChangesUptoCardSaid : Prop := Claim7.holds Tryd.pinned (.plain (OpenSpec.upto signChangesSpec)) signChangesUptoCard

/-- THE SECOND FORM's CARD OF 'foyerlaw03.SignKeys'. -/
def signKeysUptoCard : Claim7 := { stood := { row := signKeysUptoRow, standIns := [], harness := (true, "d09a7669677baa603b4db90f453e00898d609e312c517e5c28ba134bb4e7ec60"), looks := false }, kinds := [], alts := [], laidByText := true, laidKinds := [.data, .data, .data, .data, .data, .pinned], laidTests := true, laidLooks := .later }
def SignKeysUptoCardSaid : Prop := Claim7.holds Tryd.pinned (.plain (OpenSpec.upto signKeysSpec)) signKeysUptoCard

/-- THE SECOND FORM's CARD OF 'foyerlaw03.SignForm'. -/
def signFormUptoCard : Claim7 := { stood := { row := signFormUptoRow, standIns := [], harness := (true, "d09a7669677baa603b4db90f453e00898d609e312c517e5c28ba134bb4e7ec60"), looks := false }, kinds := [], alts := [], laidByText := true, laidKinds := [.data, .data, .data, .data, .data, .pinned], laidTests := true, laidLooks := .later }
def SignFormUptoCardSaid : Prop := Claim7.holds Tryd.pinned (.plain (OpenSpec.upto signFormSpec)) signFormUptoCard
end Rows
end Go.Proofs.YthcgcocmgjamnaaDoor
