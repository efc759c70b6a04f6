
/- The walks of the reference's small functions on formats: isMark, within, widthOf, isTag, kindOf, columnOf. (Printed by genG1.py.) -/
import Derived.Test.YtlabejjgnnlalaaGreatDoorUN
namespace Go.Proofs.YtlabejjgnnlalaaGreatDoor
open Go.RowKit Limb Nmb Work
set_option linter.unusedVariables false
set_option linter.unusedSimpArgs false
end Go.Proofs.YtlabejjgnnlalaaGreatDoor
