/-
  DERIVED. GIVEN WITH THE SEED: THE CARDS: each row of YtaiabjiehpcaoaaGreatDoorRows.lean that lists a variable, with what it lists TIED to the program's text (the seventh form; the later family's looks); each row that meets fmt, with fmt's text TOLD by the authors' own Lean function (tested against real Go, not proved from fmt's source: count such statements apart). THE CARD IS WHAT COUNTS. Prove the row's statement (the work); the ties are given (YtaiabjiehpcaoaaGreatDoorTie.lean); close each card by the builder's one call (the guide's Derived/Test/ToyasCard.lean, 'card_holds'). Laid BY PROGRAM, IN A SANDBOX (cutbox-door.mjs). By AI agents, Wed Nov 11 2026. No macro, syntax, notation, axiom, sorry.
-/
import Derived.Test.YtaiabjiehpcaoaaGreatDoorRows
import GoSem.ClaimSeven
namespace Go.Proofs.YtaiabjiehpcaoaaGreatDoor
namespace Rows

/-- THE TIED CARD OF 'interchangelaw6.FlatTurnsMatchSpec'. -/
def flatTurnsMatchSpecCard : Claim7 := { stood := { row := flatTurnsMatchSpecRow, standIns := [], harness := (true, "3906c7cf8db34c2d1fe948a22e157649e1512a891f0b3c7b55db1668447fa345"), looks := true }, kinds := [], alts := [], laidByText := true, laidKinds := [.data, .data, .data, .data, .sentinel, .sentinel, .pinned], laidTests := true, laidLooks := .later }
def FlatTurnsMatchSpecCardSaid : Prop := Claim7.holds Tryz.pinned (.plain (OpenSpec.ofChange flatTurnsMatchSpecSpec)) flatTurnsMatchSpecCard

/-- THE TIED CARD OF 'interchangelaw6.FlatOrdersMatchSpec'. -/
def flatOrdersMatchSpecCard : Claim7 := { stood := { row := flatOrdersMatchSpecRow, standIns := [], harness := (true, "3906c7cf8db34c2d1fe948a22e157649e1512a891f0b3c7b55db1668447fa345"), looks := true }, kinds := [], alts := [], laidByText := true, laidKinds := [.data, .data, .data, .data, .sentinel, .sentinel, .pinned], laidTests := true, laidLooks := .later }
def FlatOrdersMatchSpecCardSaid : Prop := Claim7.holds Tryz.pinned (.plain (OpenSpec.ofChange flatOrdersMatchSpecSpec)) flatOrdersMatchSpecCard

/-- THE SECOND FORM's CARD OF 'interchangelaw6.FlatTurnsMatchSpec'. -/
def flatTurnsMatchSpecUptoCard : Claim7 := { stood := { row := flatTurnsMatchSpecUptoRow, standIns := [], harness := (true, "3906c7cf8db34c2d1fe948a22e157649e1512a891f0b3c7b55db1668447fa345"), looks := true }, kinds := [], alts := [], laidByText := true, laidKinds := [.data, .data, .data, .data, .sentinel, .sentinel, .pinned], laidTests := true, laidLooks := .later }
def FlatTurnsMatchSpecUptoCardSaid : Prop := Claim7.holds Tryz.pinned (.plain (OpenSpec.upto flatTurnsMatchSpecSpec)) flatTurnsMatchSpecUptoCard

/-- THE SECOND FORM's CARD OF 'interchangelaw6.FlatOrdersMatchSpec'. -/
def flatOrdersMatchSpecUptoCard : Claim7 := { stood := { row := flatOrdersMatchSpecUptoRow, standIns := [], harness := (true, "3906c7cf8db34c2d1fe948a22e157649e1512a891f0b3c7b55db1668447fa345"), looks := true }, kinds := [], alts := [], laidByText := true, laidKinds := [.data, .data, .data, .data, .sentinel, .sentinel, .pinned], laidTests := true, laidLooks := .later }
def FlatOrdersMatchSpecUptoCardSaid : Prop := Claim7.holds Tryz.pinned (.plain (OpenSpec.upto flatOrdersMatchSpecSpec)) flatOrdersMatchSpecUptoCard
end Rows
end Go.Proofs.YtaiabjiehpcaoaaGreatDoor
