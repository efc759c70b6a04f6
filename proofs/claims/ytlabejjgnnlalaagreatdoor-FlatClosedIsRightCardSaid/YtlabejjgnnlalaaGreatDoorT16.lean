/- The walks of days and dates: padded, the text of a day, and months later, in the reference. The walk of amount.ReadImplied. The walks of the reference's ofDigits and ReadImplied. -/
import Derived.Test.YtlabejjgnnlalaaGreatDoorK5
import Derived.Test.YtlabejjgnnlalaaGreatDoorA8
import Derived.Test.YtlabejjgnnlalaaGreatDoorA7
import Derived.Deep.RegionHeld3
import Derived.Test.YtlabejjgnnlalaaGreatDoorU2
import Derived.Test.YtlabejjgnnlalaaGreatDoorE1
-- merged: E5 T12 T16
namespace Go.Proofs.YtlabejjgnnlalaaGreatDoor
open Go.RowKit Limb Work
set_option linter.unusedVariables false
set_option linter.unusedSimpArgs false
end Go.Proofs.YtlabejjgnnlalaaGreatDoor
namespace Go.Proofs.YtlabejjgnnlalaaGreatDoor
open Go.RowKit Limb
set_option linter.unusedVariables false
set_option linter.unusedSimpArgs false
theorem RetD.of {r r' : Int × Int × Int} {w w' : World} {e : Ending} (h : RetD r w e w') (hr : r = r') : RetD r' w e w' := by subst hr; exact h
end Go.Proofs.YtlabejjgnnlalaaGreatDoor
namespace Go.Proofs.YtlabejjgnnlalaaGreatDoor
open Go.RowKit Limb Work Nmb
set_option linter.unusedVariables false
set_option linter.unusedSimpArgs false
end Go.Proofs.YtlabejjgnnlalaaGreatDoor
