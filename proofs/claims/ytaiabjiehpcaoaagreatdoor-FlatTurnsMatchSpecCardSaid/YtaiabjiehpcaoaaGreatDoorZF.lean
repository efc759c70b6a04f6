
/- The walk of the law FlatFitsLosesNothing. (Draft, not built: wants a seat that holds row 26.) -/
import Derived.Test.YtaiabjiehpcaoaaGreatDoorZB
import Derived.Test.YtaiabjiehpcaoaaGreatDoorZE
namespace Go.Proofs.YtaiabjiehpcaoaaGreatDoor
open Go.RowKit Limb Nmb Work
set_option linter.unusedVariables false
set_option linter.unusedSimpArgs false
end Go.Proofs.YtaiabjiehpcaoaaGreatDoor
