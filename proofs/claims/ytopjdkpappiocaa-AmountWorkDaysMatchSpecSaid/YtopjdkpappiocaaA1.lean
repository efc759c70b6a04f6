
/- The walks of package amount: CheckDecimal, CheckDecimals. -/
import Derived.Test.YtopjdkpappiocaaW9
import Derived.Test.YtopjdkpappiocaaSpec
namespace Go.Proofs.Ytopjdkpappiocaa
open Go.RowKit Limb

theorem out_no (n lo hi : Int) (w : World) (h : lo ≤ n ∧ n ≤ hi) : Calls Try.prog 14 #[.int .i64 n, .int .i64 lo, .int .i64 hi] w fun e w' => w = w' ∧ e = .returned (.bool false) := by
  have h1 : ¬ n < lo := by omega
  have h2 : ¬ hi < n := by omega
  go_enter Try.func14, Try.ntmps14
  go_wp2
  go_ret
  exact ⟨rfl, rfl⟩
theorem out_yes (n lo hi : Int) (w : World) (h : ¬ (lo ≤ n ∧ n ≤ hi)) : Calls Try.prog 14 #[.int .i64 n, .int .i64 lo, .int .i64 hi] w fun e w' => w = w' ∧ e = .returned (.bool true) := by
  by_cases h1 : n < lo
  · go_enter Try.func14, Try.ntmps14
    go_wp2
    go_ret
    exact ⟨rfl, rfl⟩
  · have h2 : hi < n := by omega
    go_enter Try.func14, Try.ntmps14
    go_wp2
    go_ret
    exact ⟨rfl, rfl⟩

theorem small_mul9 {u : Int} (hu : -1000000000000000 ≤ u ∧ u ≤ 1000000000000000) : Small u := small_of_le (by omega) (by omega)

end Go.Proofs.Ytopjdkpappiocaa
