
/- The walk of package whole: Power. -/
import Derived.Test.YtopjdkpappiocaaW8
import Derived.Deep.RegionWith
namespace Go.Proofs.Ytopjdkpappiocaa
open Go.RowKit Limb

theorem small_pow {j : Nat} (h : j ≤ 150) : Small ((10 ^ j : Nat) : Int) := by
  unfold Small
  rw [Int.natAbs_natCast]
  exact Nat.pow_lt_pow_right (by omega) (by omega)
theorem small_of_le {z : Int} (h1 : -10000000000000000000000000000000000000000 ≤ z) (h2 : z ≤ 10000000000000000000000000000000000000000) : Small z := by
  unfold Small
  have : 10000000000000000000000000000000000000000 < 10 ^ 200 := by decide
  omega

end Go.Proofs.Ytopjdkpappiocaa
