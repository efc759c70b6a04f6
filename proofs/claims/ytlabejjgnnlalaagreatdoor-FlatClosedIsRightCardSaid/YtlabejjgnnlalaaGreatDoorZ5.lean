/- The walks of losesNumber, losesText, losesDay, loses. The walks of barred, losesText, losesDay, loses. -/
import Derived.Test.YtlabejjgnnlalaaGreatDoorZ3
-- merged: Z4 Z5
namespace Go.Proofs.YtlabejjgnnlalaaGreatDoor
open Go.RowKit Limb Nmb Work
set_option linter.unusedVariables false
set_option linter.unusedSimpArgs false
end Go.Proofs.YtlabejjgnnlalaaGreatDoor
