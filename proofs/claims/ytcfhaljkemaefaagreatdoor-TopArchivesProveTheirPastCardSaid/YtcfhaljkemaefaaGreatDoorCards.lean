/-
  DERIVED. GIVEN WITH THE SEED: THE CARDS: each row of YtcfhaljkemaefaaGreatDoorRows.lean that lists a variable, with what it lists TIED to the program's text (the seventh form; the later family's looks); each row that meets fmt, with fmt's text TOLD by the authors' own Lean function (tested against real Go, not proved from fmt's source: count such statements apart). THE CARD IS WHAT COUNTS. Prove the row's statement (the work); the ties are given (YtcfhaljkemaefaaGreatDoorTie.lean); close each card by the builder's one call (the guide's Derived/Test/ToyasCard.lean, 'card_holds'). Laid BY PROGRAM, IN A SANDBOX (cutbox-door.mjs). By AI agents, Wed Nov 11 2026. No macro, syntax, notation, axiom, sorry.
-/
import Derived.Test.YtcfhaljkemaefaaGreatDoorRows
import GoSem.ClaimSeven
namespace Go.Proofs.YtcfhaljkemaefaaGreatDoor
namespace Rows

/-- THE TIED CARD OF 'interchangetop.TopArchivesProveTheirPast'. -/
def topArchivesProveTheirPastCard : Claim7 := { stood := { row := topArchivesProveTheirPastRow, standIns := [], harness := (true, "7c8770077a2fded937bcf161be73c533a239d2f41c7093be202ca2a1ae251208"), looks := true }, kinds := [], alts := [], laidByText := true, laidKinds := [.data, .data, .data, .data, .sentinel, .sentinel, .pinned], laidTests := true, laidLooks := .later }
def TopArchivesProveTheirPastCardSaid : Prop := Claim7.holds Tryz.pinned (.plain (OpenSpec.ofChange topArchivesProveTheirPastSpec)) topArchivesProveTheirPastCard

/-- THE SECOND FORM's CARD OF 'interchangetop.TopArchivesProveTheirPast'. -/
def topArchivesProveTheirPastUptoCard : Claim7 := { stood := { row := topArchivesProveTheirPastUptoRow, standIns := [], harness := (true, "7c8770077a2fded937bcf161be73c533a239d2f41c7093be202ca2a1ae251208"), looks := true }, kinds := [], alts := [], laidByText := true, laidKinds := [.data, .data, .data, .data, .sentinel, .sentinel, .pinned], laidTests := true, laidLooks := .later }
def TopArchivesProveTheirPastUptoCardSaid : Prop := Claim7.holds Tryz.pinned (.plain (OpenSpec.upto topArchivesProveTheirPastSpec)) topArchivesProveTheirPastUptoCard
end Rows
end Go.Proofs.YtcfhaljkemaefaaGreatDoor
