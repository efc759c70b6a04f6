
/- The walk of the reference's CheckFormat. (Printed by genG5.py.) -/
import Derived.Test.YtlabejjgnnlalaaGreatDoorG4
namespace Go.Proofs.YtlabejjgnnlalaaGreatDoor
open Go.RowKit Limb Nmb Work
set_option linter.unusedVariables false
set_option linter.unusedSimpArgs false
end Go.Proofs.YtlabejjgnnlalaaGreatDoor
