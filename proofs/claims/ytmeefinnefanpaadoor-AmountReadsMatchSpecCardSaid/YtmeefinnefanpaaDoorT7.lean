
/- The walk of the reference's Text. -/
import Derived.Test.YtmeefinnefanpaaDoorT6
import Derived.Test.YtmeefinnefanpaaDoorE4
import Derived.Test.YtmeefinnefanpaaDoorD1
namespace Go.Proofs.YtmeefinnefanpaaDoor
open Go.RowKit Limb
set_option linter.unusedVariables false
set_option linter.unusedSimpArgs false

theorem tdec_w {u p : Int} (h : decB u p = true) : decide (-1000000000000000 ≤ u ∧ u ≤ 1000000000000000) = true ∧ decide (0 ≤ p ∧ p ≤ 9) = true := by
  have := decB_out h
  exact ⟨decide_eq_true (by omega), decide_eq_true (by omega)⟩
end Go.Proofs.YtmeefinnefanpaaDoor
