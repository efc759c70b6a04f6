/-
  DERIVED. GIVEN WITH THE SEED: THE CARDS: each row of YtlabejjgnnlalaaGreatDoorRows.lean that lists a variable, with what it lists TIED to the program's text (the seventh form; the later family's looks); each row that meets fmt, with fmt's text TOLD by the authors' own Lean function (tested against real Go, not proved from fmt's source: count such statements apart). THE CARD IS WHAT COUNTS. Prove the row's statement (the work); the ties are given (YtlabejjgnnlalaaGreatDoorTie.lean); close each card by the builder's one call (the guide's Derived/Test/ToyasCard.lean, 'card_holds'). Laid BY PROGRAM, IN A SANDBOX (cutbox-door.mjs). By AI agents, Wed Nov 11 2026. No macro, syntax, notation, axiom, sorry.
-/
import Derived.Test.YtlabejjgnnlalaaGreatDoorRows
import GoSem.ClaimSeven
namespace Go.Proofs.YtlabejjgnnlalaaGreatDoor
namespace Rows

/-- THE TIED CARD OF 'interchangelaw6.FlatFitsLosesNothing'. -/
def flatFitsLosesNothingCard : Claim7 := { stood := { row := flatFitsLosesNothingRow, standIns := [], harness := (true, "4a3a15ffd0c00bc737dcb29ace2ea115c705805e9a61dca7a8837b1d371a3ce8"), looks := true }, kinds := [], alts := [], laidByText := true, laidKinds := [.data, .data, .data, .data, .sentinel, .sentinel, .pinned], laidTests := true, laidLooks := .later }
def FlatFitsLosesNothingCardSaid : Prop := Claim7.holds Tryz.pinned (.plain (OpenSpec.ofChange flatFitsLosesNothingSpec)) flatFitsLosesNothingCard

/-- THE TIED CARD OF 'interchangelaw6.FlatTurnsMatchSpec'. -/
def flatTurnsMatchSpecCard : Claim7 := { stood := { row := flatTurnsMatchSpecRow, standIns := [], harness := (true, "4a3a15ffd0c00bc737dcb29ace2ea115c705805e9a61dca7a8837b1d371a3ce8"), looks := true }, kinds := [], alts := [], laidByText := true, laidKinds := [.data, .data, .data, .data, .sentinel, .sentinel, .pinned], laidTests := true, laidLooks := .later }
def FlatTurnsMatchSpecCardSaid : Prop := Claim7.holds Tryz.pinned (.plain (OpenSpec.ofChange flatTurnsMatchSpecSpec)) flatTurnsMatchSpecCard

/-- THE TIED CARD OF 'interchangelaw6.FlatClosedIsRight'. -/
def flatClosedIsRightCard : Claim7 := { stood := { row := flatClosedIsRightRow, standIns := [], harness := (true, "4a3a15ffd0c00bc737dcb29ace2ea115c705805e9a61dca7a8837b1d371a3ce8"), looks := true }, kinds := [], alts := [], laidByText := true, laidKinds := [.data, .data, .data, .data, .sentinel, .sentinel, .pinned], laidTests := true, laidLooks := .later }
def FlatClosedIsRightCardSaid : Prop := Claim7.holds Tryz.pinned (.plain (OpenSpec.ofChange flatClosedIsRightSpec)) flatClosedIsRightCard

/-- THE TIED CARD OF 'interchangelaw6.FlatOrdersMatchSpec'. -/
def flatOrdersMatchSpecCard : Claim7 := { stood := { row := flatOrdersMatchSpecRow, standIns := [], harness := (true, "4a3a15ffd0c00bc737dcb29ace2ea115c705805e9a61dca7a8837b1d371a3ce8"), looks := true }, kinds := [], alts := [], laidByText := true, laidKinds := [.data, .data, .data, .data, .sentinel, .sentinel, .pinned], laidTests := true, laidLooks := .later }
def FlatOrdersMatchSpecCardSaid : Prop := Claim7.holds Tryz.pinned (.plain (OpenSpec.ofChange flatOrdersMatchSpecSpec)) flatOrdersMatchSpecCard

/-- THE SECOND FORM's CARD OF 'interchangelaw6.FlatFitsLosesNothing'. -/
def flatFitsLosesNothingUptoCard : Claim7 := { stood := { row := flatFitsLosesNothingUptoRow, standIns := [], harness := (true, "4a3a15ffd0c00bc737dcb29ace2ea115c705805e9a61dca7a8837b1d371a3ce8"), looks := true }, kinds := [], alts := [], laidByText := true, laidKinds := [.data, .data, .data, .data, .sentinel, .sentinel, .pinned], laidTests := true, laidLooks := .later }
def FlatFitsLosesNothingUptoCardSaid : Prop := Claim7.holds Tryz.pinned (.plain (OpenSpec.upto flatFitsLosesNothingSpec)) flatFitsLosesNothingUptoCard

/-- THE SECOND FORM's CARD OF 'interchangelaw6.FlatTurnsMatchSpec'. -/
def flatTurnsMatchSpecUptoCard : Claim7 := { stood := { row := flatTurnsMatchSpecUptoRow, standIns := [], harness := (true, "4a3a15ffd0c00bc737dcb29ace2ea115c705805e9a61dca7a8837b1d371a3ce8"), looks := true }, kinds := [], alts := [], laidByText := true, laidKinds := [.data, .data, .data, .data, .sentinel, .sentinel, .pinned], laidTests := true, laidLooks := .later }
def FlatTurnsMatchSpecUptoCardSaid : Prop := Claim7.holds Tryz.pinned (.plain (OpenSpec.upto flatTurnsMatchSpecSpec)) flatTurnsMatchSpecUptoCard

/-- THE SECOND FORM's CARD OF 'interchangelaw6.FlatClosedIsRight'. -/
def flatClosedIsRightUptoCard : Claim7 := { stood := { row := flatClosedIsRightUptoRow, standIns := [], harness := (true, "4a3a15ffd0c00bc737dcb29ace2ea115c705805e9a61dca7a8837b1d371a3ce8"), looks := true }, kinds := [], alts := [], laidByText := true, laidKinds := [.data, .data, .data, .data, .sentinel, .sentinel, .pinned], laidTests := true, laidLooks := .later }
def FlatClosedIsRightUptoCardSaid : Prop := Claim7.holds Tryz.pinned (.plain (OpenSpec.upto flatClosedIsRightSpec)) flatClosedIsRightUptoCard

/-- THE SECOND FORM's CARD OF 'interchangelaw6.FlatOrdersMatchSpec'. -/
def flatOrdersMatchSpecUptoCard : Claim7 := { stood := { row := flatOrdersMatchSpecUptoRow, standIns := [], harness := (true, "4a3a15ffd0c00bc737dcb29ace2ea115c705805e9a61dca7a8837b1d371a3ce8"), looks := true }, kinds := [], alts := [], laidByText := true, laidKinds := [.data, .data, .data, .data, .sentinel, .sentinel, .pinned], laidTests := true, laidLooks := .later }
def FlatOrdersMatchSpecUptoCardSaid : Prop := Claim7.holds Tryz.pinned (.plain (OpenSpec.upto flatOrdersMatchSpecSpec)) flatOrdersMatchSpecUptoCard
end Rows
end Go.Proofs.YtlabejjgnnlalaaGreatDoor
