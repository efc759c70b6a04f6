
/- The walk of the law FlatTurnedToItselfStays. -/
import Derived.Test.YtaiabjiehpcaoaaGreatDoorZA
import Derived.Test.YtaiabjiehpcaoaaGreatDoorZ1
import Derived.Test.YtaiabjiehpcaoaaGreatDoorUN
namespace Go.Proofs.YtaiabjiehpcaoaaGreatDoor
open Go.RowKit Limb Nmb Work
set_option linter.unusedVariables false
set_option linter.unusedSimpArgs false
end Go.Proofs.YtaiabjiehpcaoaaGreatDoor
