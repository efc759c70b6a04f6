
/- The walks of read and ReadText. -/
import Derived.Test.YtfgnollclmimnaaGreatDoorA5
import Derived.Deep.RegionWith
namespace Go.Proofs.YtfgnollclmimnaaGreatDoor
open Go.RowKit Limb

/-- The number with some digits. -/
def numL (l : List UInt8) : Nat := l.foldl (fun a c => a * 10 + (c.toNat - 48)) 0
theorem numL_step {l : List UInt8} {j : Nat} (h : j < l.length) : numL (l.take (j + 1)) = numL (l.take j) * 10 + (l[j].toNat - 48) := by
  unfold numL; rw [List.take_succ_eq_append_getElem h, List.foldl_append]; rfl
theorem numL_lt {l : List UInt8} (h : inB l 48 57 = true) : ∀ j, j ≤ l.length → numL (l.take j) < 10 ^ j := by
  intro j
  induction j with
  | zero => intro _; simp [numL]
  | succ j ih =>
    intro hj
    rw [numL_step (by omega), Nat.pow_succ]
    have h1 := ih (by omega)
    have h2 := List.all_eq_true.1 h l[j] (List.getElem_mem _)
    have h3 := of_decide_eq_true h2
    omega
def readR (neg : Bool) (l : List UInt8) (nb : Int) : Int × Int × Int :=
  if neg then (if numL l = 0 then (0, 0, 10) else made (-(numL l : Int)) nb) else made (numL l : Int) nb

end Go.Proofs.YtfgnollclmimnaaGreatDoor
