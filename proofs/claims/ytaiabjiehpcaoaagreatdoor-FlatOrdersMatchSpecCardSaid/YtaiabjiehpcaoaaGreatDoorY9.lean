
/- The walk of the reference's SumOf. (Printed by genY9.py.) -/
import Derived.Test.YtaiabjiehpcaoaaGreatDoorY4
import Derived.Test.YtaiabjiehpcaoaaGreatDoorY8
import Derived.Test.YtaiabjiehpcaoaaGreatDoorC5
import Derived.Test.YtaiabjiehpcaoaaGreatDoorRB
import Derived.Test.YtaiabjiehpcaoaaGreatDoorT14
namespace Go.Proofs.YtaiabjiehpcaoaaGreatDoor
open Go.RowKit Limb Nmb Work
set_option linter.unusedVariables false
set_option linter.unusedSimpArgs false
theorem few_ok {z:Int} : ∀ {p:Nat},p<=9->(fewF z p).2.2=0->∃ (u:Int) (q:Nat),fewF z p=(u,(q:Int),0)/\q<=9 /\ -1000000000000000<=u/\u<=1000000000000000:=by
 intro p
 induction p generalizing z with
 | zero=>intro _ h;unfold fewF made at *;split at h;rename_i h1;exact ⟨z,0,by rw [if_pos h1];rfl,by omega,by omega,by omega⟩;cases h
 | succ p ih=>
  intro hp h
  by_cases hm:z%10=0
  ·rw [few_step hm] at h ⊢;exact ih (by omega) h
  ·rw [few_stop hm] at h ⊢;unfold made at *;split at h;rename_i h1;exact ⟨z,p+1,by rw [if_pos h1],by omega,by omega,by omega⟩;cases h
def SumSt (SB:Nat) (wr:World) (z:Int):Prop:=∃ (s:Bool) (SA:Option Addr) (sn sc:Nat),Big .i64 3 B6 wr s SA sn sc z/\wr.heap[SB]?=some (.cells #[.bool s,.slice SA sn sc] 77 (0,0))
end Go.Proofs.YtaiabjiehpcaoaaGreatDoor
