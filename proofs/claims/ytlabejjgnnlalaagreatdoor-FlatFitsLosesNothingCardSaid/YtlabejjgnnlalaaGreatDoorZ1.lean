
/- The walk of the reference's Same at equal rows. -/
import Derived.Test.YtlabejjgnnlalaaGreatDoorY1
namespace Go.Proofs.YtlabejjgnnlalaaGreatDoor
open Go.RowKit Limb Nmb Work
set_option linter.unusedVariables false
set_option linter.unusedSimpArgs false
end Go.Proofs.YtlabejjgnnlalaaGreatDoor
