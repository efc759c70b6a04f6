/- Rows of one format turned into another one, plain. The walks of typeFault and turned. (Printed by genZ8.py.) The walk of turned. (Printed by genZ9.py.) -/
import Derived.Test.YtlabejjgnnlalaaGreatDoorZ3
import Derived.Test.YtlabejjgnnlalaaGreatDoorY1
import Derived.Test.YtlabejjgnnlalaaGreatDoorZ7
import Derived.Test.YtlabejjgnnlalaaGreatDoorY3
-- merged: ZT Z8 Z9
namespace Go.Proofs.YtlabejjgnnlalaaGreatDoor
open Limb Nmb Work
set_option linter.unusedVariables false
set_option linter.unusedSimpArgs false
end Go.Proofs.YtlabejjgnnlalaaGreatDoor
namespace Go.Proofs.YtlabejjgnnlalaaGreatDoor
open Go.RowKit Limb Nmb Work
set_option linter.unusedVariables false
set_option linter.unusedSimpArgs false
theorem own_set9 {w : World} {B n g i : Nat} {v : Value} {xs : List Value} {cs : Array Value} {U : TypeId} (h : w.ownsRow B 9 1 v n xs) (hh : w.heap[g]? = some (.cells cs U (0, 0))) (hU : U ≠ 9) (u : Value) : (w.setCell ⟨g, i, none⟩ u).ownsRow B 9 1 v n xs :=
  own_keepT h fun g' cs' h' => heap_far h' (p := ⟨g, i, none⟩) (fun e => hU (by
    have e' : g' = g := e
    subst e'
    rw [hh] at h'
    injection h' with h'
    injection h')) u
end Go.Proofs.YtlabejjgnnlalaaGreatDoor
