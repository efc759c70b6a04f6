/-
  DERIVED. GIVEN WITH THE SEED: THE CARDS: each row of YtlkidhfjkgppoaaDoorRows.lean that lists a variable, with what it lists TIED to the program's text (the seventh form; the later family's looks); each row that meets fmt, with fmt's text TOLD by the authors' own Lean function (tested against real Go, not proved from fmt's source: count such statements apart). THE CARD IS WHAT COUNTS. Prove the row's statement (the work); the ties are given (YtlkidhfjkgppoaaDoorTie.lean); close each card by the builder's one call (the guide's Derived/Test/ToyasCard.lean, 'card_holds'). Laid BY PROGRAM, IN A SANDBOX (cutbox-door.mjs). By AI agents, Wed Nov 11 2026. No macro, syntax, notation, axiom, sorry.
-/
import Derived.Test.YtlkidhfjkgppoaaDoorRows
import GoSem.ClaimSeven
namespace Go.Proofs.YtlkidhfjkgppoaaDoor
namespace Rows

/-- THE TIED CARD OF 'interchangetop.TopRetriesAreBooked'. -/
def topRetriesAreBookedCard : Claim7 := { stood := { row := topRetriesAreBookedRow, standIns := [], harness := (true, "a9fc8b0de48fbafabb048f5e2f7d579cfe3a4032c03d4a1a663b9154cc7b2348"), looks := false }, kinds := [], alts := [], laidByText := true, laidKinds := [.data, .data, .data, .data, .pinned], laidTests := true, laidLooks := .later }
def TopRetriesAreBookedCardSaid : Prop := Claim7.holds Tryd.pinned (.plain (OpenSpec.ofChange topRetriesAreBookedSpec)) topRetriesAreBookedCard

/-- THE SECOND FORM's CARD OF 'interchangetop.TopRetriesAreBooked'. -/
def topRetriesAreBookedUptoCard : Claim7 := { stood := { row := topRetriesAreBookedUptoRow, standIns := [], harness := (true, "a9fc8b0de48fbafabb048f5e2f7d579cfe3a4032c03d4a1a663b9154cc7b2348"), looks := false }, kinds := [], alts := [], laidByText := true, laidKinds := [.data, .data, .data, .data, .pinned], laidTests := true, laidLooks := .later }
def TopRetriesAreBookedUptoCardSaid : Prop := Claim7.holds Tryd.pinned (.plain (OpenSpec.upto topRetriesAreBookedSpec)) topRetriesAreBookedUptoCard
end Rows
end Go.Proofs.YtlkidhfjkgppoaaDoor
