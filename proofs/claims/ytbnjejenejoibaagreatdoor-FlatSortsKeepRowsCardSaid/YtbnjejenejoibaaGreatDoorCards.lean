/-
  DERIVED. GIVEN WITH THE SEED: THE CARDS: each row of YtbnjejenejoibaaGreatDoorRows.lean that lists a variable, with what it lists TIED to the program's text (the seventh form; the later family's looks); each row that meets fmt, with fmt's text TOLD by the authors' own Lean function (tested against real Go, not proved from fmt's source: count such statements apart). THE CARD IS WHAT COUNTS. Prove the row's statement (the work); the ties are given (YtbnjejenejoibaaGreatDoorTie.lean); close each card by the builder's one call (the guide's Derived/Test/ToyasCard.lean, 'card_holds'). Laid BY PROGRAM, IN A SANDBOX (cutbox-door.mjs). By AI agents, Wed Nov 11 2026. No macro, syntax, notation, axiom, sorry.
-/
import Derived.Test.YtbnjejenejoibaaGreatDoorRows
import GoSem.ClaimSeven
namespace Go.Proofs.YtbnjejenejoibaaGreatDoor
namespace Rows

/-- THE TIED CARD OF 'interchangelaw6.FlatSortsKeepRows'. -/
def flatSortsKeepRowsCard : Claim7 := { stood := { row := flatSortsKeepRowsRow, standIns := [], harness := (true, "52fa7bfffaf0a905199ef174c9417fcd9be862615e79b4d5b0ffe834804f5f11"), looks := true }, kinds := [], alts := [], laidByText := true, laidKinds := [.data, .data, .data, .data, .sentinel, .sentinel, .pinned], laidTests := true, laidLooks := .later }
def FlatSortsKeepRowsCardSaid : Prop := Claim7.holds Tryz.pinned (.plain (OpenSpec.ofChange flatSortsKeepRowsSpec)) flatSortsKeepRowsCard

/-- THE TIED CARD OF 'interchangelaw6.FlatSortsMatchSpec'. -/
def flatSortsMatchSpecCard : Claim7 := { stood := { row := flatSortsMatchSpecRow, standIns := [], harness := (true, "52fa7bfffaf0a905199ef174c9417fcd9be862615e79b4d5b0ffe834804f5f11"), looks := true }, kinds := [], alts := [], laidByText := true, laidKinds := [.data, .data, .data, .data, .sentinel, .sentinel, .pinned], laidTests := true, laidLooks := .later }
def FlatSortsMatchSpecCardSaid : Prop := Claim7.holds Tryz.pinned (.plain (OpenSpec.ofChange flatSortsMatchSpecSpec)) flatSortsMatchSpecCard

/-- THE SECOND FORM's CARD OF 'interchangelaw6.FlatSortsKeepRows'. -/
def flatSortsKeepRowsUptoCard : Claim7 := { stood := { row := flatSortsKeepRowsUptoRow, standIns := [], harness := (true, "52fa7bfffaf0a905199ef174c9417fcd9be862615e79b4d5b0ffe834804f5f11"), looks := true }, kinds := [], alts := [], laidByText := true, laidKinds := [.data, .data, .data, .data, .sentinel, .sentinel, .pinned], laidTests := true, laidLooks := .later }
def FlatSortsKeepRowsUptoCardSaid : Prop := Claim7.holds Tryz.pinned (.plain (OpenSpec.upto flatSortsKeepRowsSpec)) flatSortsKeepRowsUptoCard

/-- THE SECOND FORM's CARD OF 'interchangelaw6.FlatSortsMatchSpec'. -/
def flatSortsMatchSpecUptoCard : Claim7 := { stood := { row := flatSortsMatchSpecUptoRow, standIns := [], harness := (true, "52fa7bfffaf0a905199ef174c9417fcd9be862615e79b4d5b0ffe834804f5f11"), looks := true }, kinds := [], alts := [], laidByText := true, laidKinds := [.data, .data, .data, .data, .sentinel, .sentinel, .pinned], laidTests := true, laidLooks := .later }
def FlatSortsMatchSpecUptoCardSaid : Prop := Claim7.holds Tryz.pinned (.plain (OpenSpec.upto flatSortsMatchSpecSpec)) flatSortsMatchSpecUptoCard
end Rows
end Go.Proofs.YtbnjejenejoibaaGreatDoor
