/-
  DERIVED. GIVEN WITH THE SEED: THE CARDS: each row of YtnnenokgjkpkiaaGreatDoorRows.lean that lists a variable, with what it lists TIED to the program's text (the seventh form; the later family's looks); each row that meets fmt, with fmt's text TOLD by the authors' own Lean function (tested against real Go, not proved from fmt's source: count such statements apart). THE CARD IS WHAT COUNTS. Prove the row's statement (the work); the ties are given (YtnnenokgjkpkiaaGreatDoorTie.lean); close each card by the builder's one call (the guide's Derived/Test/ToyasCard.lean, 'card_holds'). Laid BY PROGRAM, IN A SANDBOX (cutbox-door.mjs). By AI agents, Wed Nov 11 2026. No macro, syntax, notation, axiom, sorry.
-/
import Derived.Test.YtnnenokgjkpkiaaGreatDoorRows
import GoSem.ClaimSeven
namespace Go.Proofs.YtnnenokgjkpkiaaGreatDoor
namespace Rows

/-- THE TIED CARD OF 'interchangelaw6.FlatColumnsMatchSpec'. -/
def flatColumnsMatchSpecCard : Claim7 := { stood := { row := flatColumnsMatchSpecRow, standIns := [], harness := (true, "1d47ab63bbb5fff4f9d0ef2b1355e088acb574fa572dbe5b37963be87087d6d6"), looks := true }, kinds := [], alts := [], laidByText := true, laidKinds := [.data, .data, .data, .data, .sentinel, .sentinel, .pinned], laidTests := true, laidLooks := .later }
def FlatColumnsMatchSpecCardSaid : Prop := Claim7.holds Tryz.pinned (.plain (OpenSpec.ofChange flatColumnsMatchSpecSpec)) flatColumnsMatchSpecCard

/-- THE TIED CARD OF 'interchangelaw6.FlatTurnsMatchSpec'. -/
def flatTurnsMatchSpecCard : Claim7 := { stood := { row := flatTurnsMatchSpecRow, standIns := [], harness := (true, "1d47ab63bbb5fff4f9d0ef2b1355e088acb574fa572dbe5b37963be87087d6d6"), looks := true }, kinds := [], alts := [], laidByText := true, laidKinds := [.data, .data, .data, .data, .sentinel, .sentinel, .pinned], laidTests := true, laidLooks := .later }
def FlatTurnsMatchSpecCardSaid : Prop := Claim7.holds Tryz.pinned (.plain (OpenSpec.ofChange flatTurnsMatchSpecSpec)) flatTurnsMatchSpecCard

/-- THE TIED CARD OF 'interchangelaw6.FlatTurnedToItselfStays'. -/
def flatTurnedToItselfStaysCard : Claim7 := { stood := { row := flatTurnedToItselfStaysRow, standIns := [], harness := (true, "1d47ab63bbb5fff4f9d0ef2b1355e088acb574fa572dbe5b37963be87087d6d6"), looks := true }, kinds := [], alts := [], laidByText := true, laidKinds := [.data, .data, .data, .data, .sentinel, .sentinel, .pinned], laidTests := true, laidLooks := .later }
def FlatTurnedToItselfStaysCardSaid : Prop := Claim7.holds Tryz.pinned (.plain (OpenSpec.ofChange flatTurnedToItselfStaysSpec)) flatTurnedToItselfStaysCard

/-- THE TIED CARD OF 'interchangelaw6.FlatLineReadsMatchSpec'. -/
def flatLineReadsMatchSpecCard : Claim7 := { stood := { row := flatLineReadsMatchSpecRow, standIns := [], harness := (true, "1d47ab63bbb5fff4f9d0ef2b1355e088acb574fa572dbe5b37963be87087d6d6"), looks := true }, kinds := [], alts := [], laidByText := true, laidKinds := [.data, .data, .data, .data, .sentinel, .sentinel, .pinned], laidTests := true, laidLooks := .later }
def FlatLineReadsMatchSpecCardSaid : Prop := Claim7.holds Tryz.pinned (.plain (OpenSpec.ofChange flatLineReadsMatchSpecSpec)) flatLineReadsMatchSpecCard

/-- THE TIED CARD OF 'interchangelaw6.FlatLinesComeBack'. -/
def flatLinesComeBackCard : Claim7 := { stood := { row := flatLinesComeBackRow, standIns := [], harness := (true, "1d47ab63bbb5fff4f9d0ef2b1355e088acb574fa572dbe5b37963be87087d6d6"), looks := true }, kinds := [], alts := [], laidByText := true, laidKinds := [.data, .data, .data, .data, .sentinel, .sentinel, .pinned], laidTests := true, laidLooks := .later }
def FlatLinesComeBackCardSaid : Prop := Claim7.holds Tryz.pinned (.plain (OpenSpec.ofChange flatLinesComeBackSpec)) flatLinesComeBackCard

/-- THE TIED CARD OF 'interchangelaw6.FlatFilesMatchSpec'. -/
def flatFilesMatchSpecCard : Claim7 := { stood := { row := flatFilesMatchSpecRow, standIns := [], harness := (true, "1d47ab63bbb5fff4f9d0ef2b1355e088acb574fa572dbe5b37963be87087d6d6"), looks := true }, kinds := [], alts := [], laidByText := true, laidKinds := [.data, .data, .data, .data, .sentinel, .sentinel, .pinned], laidTests := true, laidLooks := .later }
def FlatFilesMatchSpecCardSaid : Prop := Claim7.holds Tryz.pinned (.plain (OpenSpec.ofChange flatFilesMatchSpecSpec)) flatFilesMatchSpecCard

/-- THE SECOND FORM's CARD OF 'interchangelaw6.FlatColumnsMatchSpec'. -/
def flatColumnsMatchSpecUptoCard : Claim7 := { stood := { row := flatColumnsMatchSpecUptoRow, standIns := [], harness := (true, "1d47ab63bbb5fff4f9d0ef2b1355e088acb574fa572dbe5b37963be87087d6d6"), looks := true }, kinds := [], alts := [], laidByText := true, laidKinds := [.data, .data, .data, .data, .sentinel, .sentinel, .pinned], laidTests := true, laidLooks := .later }
def FlatColumnsMatchSpecUptoCardSaid : Prop := Claim7.holds Tryz.pinned (.plain (OpenSpec.upto flatColumnsMatchSpecSpec)) flatColumnsMatchSpecUptoCard

/-- THE SECOND FORM's CARD OF 'interchangelaw6.FlatTurnsMatchSpec'. -/
def flatTurnsMatchSpecUptoCard : Claim7 := { stood := { row := flatTurnsMatchSpecUptoRow, standIns := [], harness := (true, "1d47ab63bbb5fff4f9d0ef2b1355e088acb574fa572dbe5b37963be87087d6d6"), looks := true }, kinds := [], alts := [], laidByText := true, laidKinds := [.data, .data, .data, .data, .sentinel, .sentinel, .pinned], laidTests := true, laidLooks := .later }
def FlatTurnsMatchSpecUptoCardSaid : Prop := Claim7.holds Tryz.pinned (.plain (OpenSpec.upto flatTurnsMatchSpecSpec)) flatTurnsMatchSpecUptoCard

/-- THE SECOND FORM's CARD OF 'interchangelaw6.FlatTurnedToItselfStays'. -/
def flatTurnedToItselfStaysUptoCard : Claim7 := { stood := { row := flatTurnedToItselfStaysUptoRow, standIns := [], harness := (true, "1d47ab63bbb5fff4f9d0ef2b1355e088acb574fa572dbe5b37963be87087d6d6"), looks := true }, kinds := [], alts := [], laidByText := true, laidKinds := [.data, .data, .data, .data, .sentinel, .sentinel, .pinned], laidTests := true, laidLooks := .later }
def FlatTurnedToItselfStaysUptoCardSaid : Prop := Claim7.holds Tryz.pinned (.plain (OpenSpec.upto flatTurnedToItselfStaysSpec)) flatTurnedToItselfStaysUptoCard

/-- THE SECOND FORM's CARD OF 'interchangelaw6.FlatLineReadsMatchSpec'. -/
def flatLineReadsMatchSpecUptoCard : Claim7 := { stood := { row := flatLineReadsMatchSpecUptoRow, standIns := [], harness := (true, "1d47ab63bbb5fff4f9d0ef2b1355e088acb574fa572dbe5b37963be87087d6d6"), looks := true }, kinds := [], alts := [], laidByText := true, laidKinds := [.data, .data, .data, .data, .sentinel, .sentinel, .pinned], laidTests := true, laidLooks := .later }
def FlatLineReadsMatchSpecUptoCardSaid : Prop := Claim7.holds Tryz.pinned (.plain (OpenSpec.upto flatLineReadsMatchSpecSpec)) flatLineReadsMatchSpecUptoCard

/-- THE SECOND FORM's CARD OF 'interchangelaw6.FlatLinesComeBack'. -/
def flatLinesComeBackUptoCard : Claim7 := { stood := { row := flatLinesComeBackUptoRow, standIns := [], harness := (true, "1d47ab63bbb5fff4f9d0ef2b1355e088acb574fa572dbe5b37963be87087d6d6"), looks := true }, kinds := [], alts := [], laidByText := true, laidKinds := [.data, .data, .data, .data, .sentinel, .sentinel, .pinned], laidTests := true, laidLooks := .later }
def FlatLinesComeBackUptoCardSaid : Prop := Claim7.holds Tryz.pinned (.plain (OpenSpec.upto flatLinesComeBackSpec)) flatLinesComeBackUptoCard

/-- THE SECOND FORM's CARD OF 'interchangelaw6.FlatFilesMatchSpec'. -/
def flatFilesMatchSpecUptoCard : Claim7 := { stood := { row := flatFilesMatchSpecUptoRow, standIns := [], harness := (true, "1d47ab63bbb5fff4f9d0ef2b1355e088acb574fa572dbe5b37963be87087d6d6"), looks := true }, kinds := [], alts := [], laidByText := true, laidKinds := [.data, .data, .data, .data, .sentinel, .sentinel, .pinned], laidTests := true, laidLooks := .later }
def FlatFilesMatchSpecUptoCardSaid : Prop := Claim7.holds Tryz.pinned (.plain (OpenSpec.upto flatFilesMatchSpecSpec)) flatFilesMatchSpecUptoCard
end Rows
end Go.Proofs.YtnnenokgjkpkiaaGreatDoor
