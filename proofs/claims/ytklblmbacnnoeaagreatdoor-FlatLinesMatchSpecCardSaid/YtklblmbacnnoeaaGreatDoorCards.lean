/-
  DERIVED. GIVEN WITH THE SEED: THE CARDS: each row of YtklblmbacnnoeaaGreatDoorRows.lean that lists a variable, with what it lists TIED to the program's text (the seventh form; the later family's looks); each row that meets fmt, with fmt's text TOLD by the authors' own Lean function (tested against real Go, not proved from fmt's source: count such statements apart). THE CARD IS WHAT COUNTS. Prove the row's statement (the work); the ties are given (YtklblmbacnnoeaaGreatDoorTie.lean); close each card by the builder's one call (the guide's Derived/Test/ToyasCard.lean, 'card_holds'). Laid BY PROGRAM, IN A SANDBOX (cutbox-door.mjs). By AI agents, Wed Nov 11 2026. No macro, syntax, notation, axiom, sorry.
-/
import Derived.Test.YtklblmbacnnoeaaGreatDoorRows
import GoSem.ClaimSeven
namespace Go.Proofs.YtklblmbacnnoeaaGreatDoor
namespace Rows

/-- THE TIED CARD OF 'interchangelaw6.FlatLinesMatchSpec'. -/
def flatLinesMatchSpecCard : Claim7 := { stood := { row := flatLinesMatchSpecRow, standIns := [], harness := (true, "f540e1663ced8cbb9521b61005d260481421c005b51cba231c3e0aa028ac83d5"), looks := true }, kinds := [], alts := [], laidByText := true, laidKinds := [.data, .data, .data, .data, .sentinel, .sentinel, .pinned], laidTests := true, laidLooks := .later }
def FlatLinesMatchSpecCardSaid : Prop := Claim7.holds Tryz.pinned (.plain (OpenSpec.ofChange flatLinesMatchSpecSpec)) flatLinesMatchSpecCard

/-- THE TIED CARD OF 'interchangelaw6.FlatColumnsMatchSpec'. -/
def flatColumnsMatchSpecCard : Claim7 := { stood := { row := flatColumnsMatchSpecRow, standIns := [], harness := (true, "f540e1663ced8cbb9521b61005d260481421c005b51cba231c3e0aa028ac83d5"), looks := true }, kinds := [], alts := [], laidByText := true, laidKinds := [.data, .data, .data, .data, .sentinel, .sentinel, .pinned], laidTests := true, laidLooks := .later }
def FlatColumnsMatchSpecCardSaid : Prop := Claim7.holds Tryz.pinned (.plain (OpenSpec.ofChange flatColumnsMatchSpecSpec)) flatColumnsMatchSpecCard

/-- THE TIED CARD OF 'interchangelaw6.FlatTurnedToItselfStays'. -/
def flatTurnedToItselfStaysCard : Claim7 := { stood := { row := flatTurnedToItselfStaysRow, standIns := [], harness := (true, "f540e1663ced8cbb9521b61005d260481421c005b51cba231c3e0aa028ac83d5"), looks := true }, kinds := [], alts := [], laidByText := true, laidKinds := [.data, .data, .data, .data, .sentinel, .sentinel, .pinned], laidTests := true, laidLooks := .later }
def FlatTurnedToItselfStaysCardSaid : Prop := Claim7.holds Tryz.pinned (.plain (OpenSpec.ofChange flatTurnedToItselfStaysSpec)) flatTurnedToItselfStaysCard

/-- THE SECOND FORM's CARD OF 'interchangelaw6.FlatLinesMatchSpec'. -/
def flatLinesMatchSpecUptoCard : Claim7 := { stood := { row := flatLinesMatchSpecUptoRow, standIns := [], harness := (true, "f540e1663ced8cbb9521b61005d260481421c005b51cba231c3e0aa028ac83d5"), looks := true }, kinds := [], alts := [], laidByText := true, laidKinds := [.data, .data, .data, .data, .sentinel, .sentinel, .pinned], laidTests := true, laidLooks := .later }
def FlatLinesMatchSpecUptoCardSaid : Prop := Claim7.holds Tryz.pinned (.plain (OpenSpec.upto flatLinesMatchSpecSpec)) flatLinesMatchSpecUptoCard

/-- THE SECOND FORM's CARD OF 'interchangelaw6.FlatColumnsMatchSpec'. -/
def flatColumnsMatchSpecUptoCard : Claim7 := { stood := { row := flatColumnsMatchSpecUptoRow, standIns := [], harness := (true, "f540e1663ced8cbb9521b61005d260481421c005b51cba231c3e0aa028ac83d5"), looks := true }, kinds := [], alts := [], laidByText := true, laidKinds := [.data, .data, .data, .data, .sentinel, .sentinel, .pinned], laidTests := true, laidLooks := .later }
def FlatColumnsMatchSpecUptoCardSaid : Prop := Claim7.holds Tryz.pinned (.plain (OpenSpec.upto flatColumnsMatchSpecSpec)) flatColumnsMatchSpecUptoCard

/-- THE SECOND FORM's CARD OF 'interchangelaw6.FlatTurnedToItselfStays'. -/
def flatTurnedToItselfStaysUptoCard : Claim7 := { stood := { row := flatTurnedToItselfStaysUptoRow, standIns := [], harness := (true, "f540e1663ced8cbb9521b61005d260481421c005b51cba231c3e0aa028ac83d5"), looks := true }, kinds := [], alts := [], laidByText := true, laidKinds := [.data, .data, .data, .data, .sentinel, .sentinel, .pinned], laidTests := true, laidLooks := .later }
def FlatTurnedToItselfStaysUptoCardSaid : Prop := Claim7.holds Tryz.pinned (.plain (OpenSpec.upto flatTurnedToItselfStaysSpec)) flatTurnedToItselfStaysUptoCard
end Rows
end Go.Proofs.YtklblmbacnnoeaaGreatDoor
