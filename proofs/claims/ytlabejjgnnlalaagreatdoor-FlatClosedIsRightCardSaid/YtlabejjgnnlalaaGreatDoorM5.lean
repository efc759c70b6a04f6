/- The walks of the reference's days: ofDigits, number, readWeek, ReadDay. The walk of the reference's ReadDay, and of the law AmountDayReadsMatchSpec. -/
import Derived.Test.YtlabejjgnnlalaaGreatDoorF4
import Derived.Test.YtlabejjgnnlalaaGreatDoorK5
-- merged: M4 M5
namespace Go.Proofs.YtlabejjgnnlalaaGreatDoor
open Go.RowKit Limb Work Nmb
set_option linter.unusedVariables false
set_option linter.unusedSimpArgs false
def missW (y k d lo hi : Int) : Prop := ∀ e, lo ≤ e → e < hi → weekB y k d = true → weekN y k d ≠ e
theorem missW.next {y k d lo hi : Int} (h : missW y k d lo hi) (h2 : weekB y k d = true → weekN y k d ≠ hi) : missW y k d lo (hi + 1) := by
  intro e a b c
  rcases Int.lt_or_le e hi with h3 | h3
  · exact h e a h3 c
  · obtain rfl : e = hi := by omega
    exact h2 c
end Go.Proofs.YtlabejjgnnlalaaGreatDoor
