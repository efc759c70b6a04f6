
/- Words for the join of a walk and a card: a world in which the listed tables are laid. -/
import Derived.Test.YtlkidhfjkgppoaaDoorJ1
import Derived.Test.YtlkidhfjkgppoaaDoorCards
import Derived.Test.YtlkidhfjkgppoaaDoorTie
import Derived.Deep.DeepHandedRow
import Derived.LaidLaws
namespace Go.Proofs.YtlkidhfjkgppoaaDoor
open Go.ChangeShapes Go.WideShapes Go.ChangeAt Go.RowKit
set_option linter.unusedVariables false
set_option linter.unusedSimpArgs false

/-- A table's cells. -/
def tabCells : Nat → DataW Unit → List Value
  | 0, _ => []
  | f + 1, .agg l => l.flatMap (tabCells f)
  | _, .lit (.int k n) => [.int k n]
  | _, _ => []
def putTab (h : Array Obj) (g : Nat) (d : DataW Unit) : Array Obj := h.modify g fun
  | .cells _ t frozen => .cells (tabCells 4 d).toArray t frozen
  | o => o
theorem u8_wf {n : Int} (h : (Lit.int .u8 n).wf = true) : 0 ≤ n ∧ n ≤ 255 := by
  have e1 : IntKind.min .u8 = 0 := by decide
  have e2 : IntKind.max .u8 = 255 := by decide
  have h2 : (decide (IntKind.min .u8 ≤ n) && decide (n ≤ IntKind.max .u8)) = true := h
  rw [e1, e2] at h2
  simpa using h2
end Go.Proofs.YtlkidhfjkgppoaaDoor
