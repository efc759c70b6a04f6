
/- The table of powers, as a row lists it, lies in memory. -/
import Derived.Test.YtlkidhfjkgppoaaDoorJ3
import Derived.Test.YtlkidhfjkgppoaaDoorE4
import Derived.Lib.LaidU8
import Derived.MakeChecks
namespace Go.Proofs.YtlkidhfjkgppoaaDoor
open Go.ChangeShapes Go.WideShapes Go.ChangeAt Go.RowKit
set_option linter.unusedVariables false
set_option linter.unusedSimpArgs false

theorem tab_of_laid {l : List (String × DataW Unit)} {W : World} {d : DataW Unit} (hn : (l.all fun x => x.2.handleName?.isNone) = true) (hm : ("internal/strconv.uint64pow10", d) ∈ l) (hd : d = Lib.tabData .u64 Lib.pow10Tab) (h : laidMetH Tryd.prog l W) : Tab W := by
  subst hd
  rw [MakeChecks.laidMetH_plain _ _ _ hn] at h
  obtain ⟨g', t', cs, fuel, p, hg', ht', hvar, hd⟩ := Lib.laidMet.reads h hm
  obtain rfl := Option.some.inj ((show Tryd.prog.globalNamed "internal/strconv.uint64pow10" = some 0 by kernel_rfl).symm.trans hg')
  obtain rfl := Option.some.inj ((show (Tryd.prog.globals[0]?).map (·.type) = some 113 by kernel_rfl).symm.trans ht')
  unfold Tab Lib.TabIs
  rw [hvar]
  have := Lib.cells_of_tab (e := 90) Tryd.underlying113 Tryd.underlying90 (by kernel_rfl) (by kernel_rfl) hd
  rw [← this]
end Go.Proofs.YtlkidhfjkgppoaaDoor
