
/- The table of powers, as a row lists it, lies in memory. -/
import Derived.Test.YtfgnollclmimnaaGreatDoorJ3
import Derived.Test.YtfgnollclmimnaaGreatDoorJ7
import Derived.Test.YtfgnollclmimnaaGreatDoorH4
import Derived.Lib.LaidU8
import Derived.MakeChecks
namespace Go.Proofs.YtfgnollclmimnaaGreatDoor
open Go.ChangeShapes Go.WideShapes Go.ChangeAt Go.RowKit
set_option linter.unusedVariables false
set_option linter.unusedSimpArgs false

theorem tab6_of_laid {l : List (String × DataW Unit)} {W : World} {d : DataW Unit} (hn : (l.all fun x => x.2.handleName?.isNone) = true) (hm : ("internal/strconv.uint64pow10", d) ∈ l) (hd : d = Lib.tabData .u64 Lib.pow10Tab) (h : laidMetH Tryz.prog l W) : Tab6 W := by
  subst hd
  rw [MakeChecks.laidMetH_plain _ _ _ hn] at h
  obtain ⟨g', t', cs, fuel, p, hg', ht', hvar, hd⟩ := Lib.laidMet.reads h hm
  obtain rfl := Option.some.inj ((show Tryz.prog.globalNamed "internal/strconv.uint64pow10" = some 1 by kernel_rfl).symm.trans hg')
  obtain rfl := Option.some.inj ((show (Tryz.prog.globals[1]?).map (·.type) = some 147 by kernel_rfl).symm.trans ht')
  unfold Tab6 Lib.TabIs
  rw [hvar]
  have := Lib.cells_of_tab (e := 127) Tryz.underlying147 Tryz.underlying127 (by kernel_rfl) (by kernel_rfl) hd
  rw [← this]
end Go.Proofs.YtfgnollclmimnaaGreatDoor
