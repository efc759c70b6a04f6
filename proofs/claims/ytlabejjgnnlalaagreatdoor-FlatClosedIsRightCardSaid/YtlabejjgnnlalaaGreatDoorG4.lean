/- The walk of the reference's checkKind. (Printed by genG3.py.) The walks of the reference's isCount and CheckFormat. (Printed by genG4.py.) -/
import Derived.Test.YtlabejjgnnlalaaGreatDoorG2
-- merged: G3 G4
namespace Go.Proofs.YtlabejjgnnlalaaGreatDoor
open Go.RowKit Limb Nmb Work
set_option linter.unusedVariables false
set_option linter.unusedSimpArgs false
end Go.Proofs.YtlabejjgnnlalaaGreatDoor
