/- The walks of the reference's isPlain, isOf, written. (Printed by genV4.py.) The walk of the reference's written. (Printed by genV4.py.) Words for the join of a walk and a row: arguments opened. -/
import Derived.Test.YtlabejjgnnlalaaGreatDoorV2
import Derived.Test.YtlabejjgnnlalaaGreatDoorK5
import Derived.Test.YtlabejjgnnlalaaGreatDoorM5
import Derived.Test.YtlabejjgnnlalaaGreatDoorT16
import Derived.Test.YtlabejjgnnlalaaGreatDoorRH
import Derived.Test.YtlabejjgnnlalaaGreatDoorRows
import Derived.Test.YtlabejjgnnlalaaGreatDoorE1
import Derived.WalkKit
import Derived.ProofKit
import Derived.OpenShut
import Derived.ChangeOld
import Derived.ChangeSame
import Derived.ChangeSlices
import Derived.Below
import Derived.Lib.SmallJoins
import Derived.Deep.Slices
import Derived.Deep.Fields
-- merged: V4 V5 J1
namespace Go.Proofs.YtlabejjgnnlalaaGreatDoor
open Go.RowKit Limb Nmb Work
set_option linter.unusedVariables false
set_option linter.unusedSimpArgs false
theorem vitoas_c (v : Int) (w : World) (h : -9223372036854775808 ≤ v ∧ v ≤ 9223372036854775807) (ht : Tab w) :
    Calls Tryz.prog 44 #[.int .i64 v] w fun e w' => e = .returned (.string ⟨(Lib.itoa v).toArray⟩) ∧ Below w.heap.size w w' := by
  refine (Tryz.strconv_Itoa v h.1 h.2 w ht).mono ?_
  rintro e w' ⟨rfl, k, os, rfl⟩
  exact ⟨rfl, Lib.below_grow _ w (Nat.le_refl _) k os⟩
end Go.Proofs.YtlabejjgnnlalaaGreatDoor
namespace Go.Proofs.YtlabejjgnnlalaaGreatDoor
open Go.ChangeShapes Go.WideShapes Go.ChangeAt Go.RowKit Go.Deep Work
set_option linter.unusedVariables false
theorem own : ownKnob Tryz.prog.godebug = none := by kernel_rfl
theorem laidOut : laidOutB Tryz.prog = true := by kernel_rfl
end Go.Proofs.YtlabejjgnnlalaaGreatDoor
