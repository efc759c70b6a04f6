/-
  DERIVED. GIVEN WITH THE SEED: THE CARDS: each row of YtbfbgappinilmaaGreatDoorRows.lean that lists a variable, with what it lists TIED to the program's text (the seventh form; the later family's looks); each row that meets fmt, with fmt's text TOLD by the authors' own Lean function (tested against real Go, not proved from fmt's source: count such statements apart). THE CARD IS WHAT COUNTS. Prove the row's statement (the work); the ties are given (YtbfbgappinilmaaGreatDoorTie.lean); close each card by the builder's one call (the guide's Derived/Test/ToyasCard.lean, 'card_holds'). Laid BY PROGRAM, IN A SANDBOX (cutbox-door.mjs). By AI agents, Wed Nov 11 2026. No macro, syntax, notation, axiom, sorry.
-/
import Derived.Test.YtbfbgappinilmaaGreatDoorRows
import GoSem.ClaimSeven
namespace Go.Proofs.YtbfbgappinilmaaGreatDoor
namespace Rows

/-- THE TIED CARD OF 'interchangetop.TopFlatOrdersAddUp'. -/
def topFlatOrdersAddUpCard : Claim7 := { stood := { row := topFlatOrdersAddUpRow, standIns := [], harness := (true, "fe336aee2836fd2c0e90de31856ff90c1ee5fb04a23dda75f2f5dab36be6f854"), looks := true }, kinds := [], alts := [], laidByText := true, laidKinds := [.data, .data, .data, .data, .sentinel, .sentinel, .pinned], laidTests := true, laidLooks := .later }
def TopFlatOrdersAddUpCardSaid : Prop := Claim7.holds Tryz.pinned (.plain (OpenSpec.ofChange topFlatOrdersAddUpSpec)) topFlatOrdersAddUpCard

/-- THE SECOND FORM's CARD OF 'interchangetop.TopFlatOrdersAddUp'. -/
def topFlatOrdersAddUpUptoCard : Claim7 := { stood := { row := topFlatOrdersAddUpUptoRow, standIns := [], harness := (true, "fe336aee2836fd2c0e90de31856ff90c1ee5fb04a23dda75f2f5dab36be6f854"), looks := true }, kinds := [], alts := [], laidByText := true, laidKinds := [.data, .data, .data, .data, .sentinel, .sentinel, .pinned], laidTests := true, laidLooks := .later }
def TopFlatOrdersAddUpUptoCardSaid : Prop := Claim7.holds Tryz.pinned (.plain (OpenSpec.upto topFlatOrdersAddUpSpec)) topFlatOrdersAddUpUptoCard
end Rows
end Go.Proofs.YtbfbgappinilmaaGreatDoor
