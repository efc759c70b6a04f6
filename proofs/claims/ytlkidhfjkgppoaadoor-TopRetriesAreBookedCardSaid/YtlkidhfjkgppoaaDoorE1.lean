
/- The walks of days and dates: the program's. -/
import Derived.Test.YtlkidhfjkgppoaaDoorD1
import Derived.Test.YtlkidhfjkgppoaaDoorD2
namespace Go.Proofs.YtlkidhfjkgppoaaDoor
open Go.RowKit Limb Work
set_option linter.unusedVariables false
set_option linter.unusedSimpArgs false

theorem beqT {a b : Int} (h : a = b) : (a == b) = true := beq_iff_eq.2 h
theorem beqF {a b : Int} (h : ¬ a = b) : (a == b) = false := beq_eq_false_iff_ne.2 h
theorem dim_two {y : Int} : dim y 2 = if leapB y = true then 29 else 28 := rfl
end Go.Proofs.YtlkidhfjkgppoaaDoor
