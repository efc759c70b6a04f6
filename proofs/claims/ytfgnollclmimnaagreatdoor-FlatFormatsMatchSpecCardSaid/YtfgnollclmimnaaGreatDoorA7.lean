
/- The walk of ReadText, and awake. -/
import Derived.Test.YtfgnollclmimnaaGreatDoorA6
namespace Go.Proofs.YtfgnollclmimnaaGreatDoor
open Go.RowKit Limb

/-- ReadText in plain lists. -/
def readText (l : List UInt8) : Int × Int × Int :=
  let neg := l.head? == some 45
  let rest := if neg then l.tail else l
  let c := cutL rest 46
  if decide (40 < l.length) || !wholeB c.1 || (c.2.2 && (!digB c.2.1 || decide (9 < c.2.1.length))) then (0, 0, 10) else readR neg (c.1 ++ c.2.1) c.2.1.length

theorem cutL_len (l : List UInt8) (c : UInt8) : (cutL l c).1.length + (cutL l c).2.1.length ≤ l.length ∧ ((cutL l c).2.2 = false → (cutL l c).2.1 = []) := by
  rcases cutL_index l c with ⟨_, h⟩ | ⟨o, ho, _, h⟩
  · rw [h]; simp
  · rw [h]; simp; omega
theorem inB_append (a b : List UInt8) (x y : Nat) : inB (a ++ b) x y = (inB a x y && inB b x y) := by unfold inB; rw [List.all_append]

theorem readText150 : readText [49, 46, 53, 48] = (150, 2, 0) := by decide

end Go.Proofs.YtfgnollclmimnaaGreatDoor
