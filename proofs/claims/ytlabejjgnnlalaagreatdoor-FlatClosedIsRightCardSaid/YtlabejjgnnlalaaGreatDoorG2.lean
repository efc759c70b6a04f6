
/- The walk of the reference's checkColumn. (Printed by genG2.py.) -/
import Derived.Test.YtlabejjgnnlalaaGreatDoorG1
namespace Go.Proofs.YtlabejjgnnlalaaGreatDoor
open Go.RowKit Limb Nmb Work
set_option linter.unusedVariables false
set_option linter.unusedSimpArgs false
end Go.Proofs.YtlabejjgnnlalaaGreatDoor
