/-
  DERIVED. GIVEN WITH THE SEED: THE CARDS: each row of YtfgnollclmimnaaGreatDoorRows.lean that lists a variable, with what it lists TIED to the program's text (the seventh form; the later family's looks); each row that meets fmt, with fmt's text TOLD by the authors' own Lean function (tested against real Go, not proved from fmt's source: count such statements apart). THE CARD IS WHAT COUNTS. Prove the row's statement (the work); the ties are given (YtfgnollclmimnaaGreatDoorTie.lean); close each card by the builder's one call (the guide's Derived/Test/ToyasCard.lean, 'card_holds'). Laid BY PROGRAM, IN A SANDBOX (cutbox-door.mjs). By AI agents, Wed Nov 11 2026. No macro, syntax, notation, axiom, sorry.
-/
import Derived.Test.YtfgnollclmimnaaGreatDoorRows
import GoSem.ClaimSeven
namespace Go.Proofs.YtfgnollclmimnaaGreatDoor
namespace Rows

/-- THE TIED CARD OF 'interchangelaw6.FlatFormatReadsMatchSpec'. -/
def flatFormatReadsMatchSpecCard : Claim7 := { stood := { row := flatFormatReadsMatchSpecRow, standIns := [], harness := (true, "193a608575b9cc5caea322facefbbf20c1f4347daca4f745f7fcd8ddb389443b"), looks := true }, kinds := [], alts := [], laidByText := true, laidKinds := [.data, .data, .data, .data, .sentinel, .sentinel, .pinned], laidTests := true, laidLooks := .later }
def FlatFormatReadsMatchSpecCardSaid : Prop := Claim7.holds Tryz.pinned (.plain (OpenSpec.ofChange flatFormatReadsMatchSpecSpec)) flatFormatReadsMatchSpecCard

/-- THE TIED CARD OF 'interchangelaw6.FlatFormatsMatchSpec'. -/
def flatFormatsMatchSpecCard : Claim7 := { stood := { row := flatFormatsMatchSpecRow, standIns := [], harness := (true, "193a608575b9cc5caea322facefbbf20c1f4347daca4f745f7fcd8ddb389443b"), looks := true }, kinds := [], alts := [], laidByText := true, laidKinds := [.data, .data, .data, .data, .sentinel, .sentinel, .pinned], laidTests := true, laidLooks := .later }
def FlatFormatsMatchSpecCardSaid : Prop := Claim7.holds Tryz.pinned (.plain (OpenSpec.ofChange flatFormatsMatchSpecSpec)) flatFormatsMatchSpecCard

/-- THE SECOND FORM's CARD OF 'interchangelaw6.FlatFormatReadsMatchSpec'. -/
def flatFormatReadsMatchSpecUptoCard : Claim7 := { stood := { row := flatFormatReadsMatchSpecUptoRow, standIns := [], harness := (true, "193a608575b9cc5caea322facefbbf20c1f4347daca4f745f7fcd8ddb389443b"), looks := true }, kinds := [], alts := [], laidByText := true, laidKinds := [.data, .data, .data, .data, .sentinel, .sentinel, .pinned], laidTests := true, laidLooks := .later }
def FlatFormatReadsMatchSpecUptoCardSaid : Prop := Claim7.holds Tryz.pinned (.plain (OpenSpec.upto flatFormatReadsMatchSpecSpec)) flatFormatReadsMatchSpecUptoCard

/-- THE SECOND FORM's CARD OF 'interchangelaw6.FlatFormatsMatchSpec'. -/
def flatFormatsMatchSpecUptoCard : Claim7 := { stood := { row := flatFormatsMatchSpecUptoRow, standIns := [], harness := (true, "193a608575b9cc5caea322facefbbf20c1f4347daca4f745f7fcd8ddb389443b"), looks := true }, kinds := [], alts := [], laidByText := true, laidKinds := [.data, .data, .data, .data, .sentinel, .sentinel, .pinned], laidTests := true, laidLooks := .later }
def FlatFormatsMatchSpecUptoCardSaid : Prop := Claim7.holds Tryz.pinned (.plain (OpenSpec.upto flatFormatsMatchSpecSpec)) flatFormatsMatchSpecUptoCard
end Rows
end Go.Proofs.YtfgnollclmimnaaGreatDoor
