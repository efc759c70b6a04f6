/-
  DERIVED. GIVEN WITH THE SEED: THE CARDS: each row of YtmeefinnefanpaaDoorRows.lean that lists a variable, with what it lists TIED to the program's text (the seventh form; the later family's looks); each row that meets fmt, with fmt's text TOLD by the authors' own Lean function (tested against real Go, not proved from fmt's source: count such statements apart). THE CARD IS WHAT COUNTS. Prove the row's statement (the work); the ties are given (YtmeefinnefanpaaDoorTie.lean); close each card by the builder's one call (the guide's Derived/Test/ToyasCard.lean, 'card_holds'). Laid BY PROGRAM, IN A SANDBOX (cutbox-door.mjs). By AI agents, Wed Nov 11 2026. No macro, syntax, notation, axiom, sorry.
-/
import Derived.Test.YtmeefinnefanpaaDoorRows
import GoSem.ClaimSeven
namespace Go.Proofs.YtmeefinnefanpaaDoor
namespace Rows

/-- THE TIED CARD OF 'interchangelaw1.AmountReadsMatchSpec'. -/
def amountReadsMatchSpecCard : Claim7 := { stood := { row := amountReadsMatchSpecRow, standIns := [], harness := (true, "3bc2e163dae3fd3483d6001661bcd275fac55fc31e058253bd34f2a5dff80dac"), looks := false }, kinds := [], alts := [], laidByText := true, laidKinds := [.data, .pinned], laidTests := true, laidLooks := .later }
def AmountReadsMatchSpecCardSaid : Prop := Claim7.holds Tryd.pinned (.plain (OpenSpec.ofChange amountReadsMatchSpecSpec)) amountReadsMatchSpecCard

/-- THE SECOND FORM's CARD OF 'interchangelaw1.AmountReadsMatchSpec'. -/
def amountReadsMatchSpecUptoCard : Claim7 := { stood := { row := amountReadsMatchSpecUptoRow, standIns := [], harness := (true, "3bc2e163dae3fd3483d6001661bcd275fac55fc31e058253bd34f2a5dff80dac"), looks := false }, kinds := [], alts := [], laidByText := true, laidKinds := [.data, .pinned], laidTests := true, laidLooks := .later }
def AmountReadsMatchSpecUptoCardSaid : Prop := Claim7.holds Tryd.pinned (.plain (OpenSpec.upto amountReadsMatchSpecSpec)) amountReadsMatchSpecUptoCard
end Rows
end Go.Proofs.YtmeefinnefanpaaDoor
