
/- The walk of package amount: Sum. -/
import Derived.Test.YtegobkaldedhhaaDoorA2
import Derived.Deep.RegionWith
namespace Go.Proofs.YtegobkaldedhhaaDoor
open Go.RowKit Limb

theorem sumR_big {ds : List (Int × Int)} (h : 1000 < ds.length) : sumR ds = (0, 0, 2) := by unfold sumR; rw [if_pos h]
theorem sumR_bad {ds : List (Int × Int)} (h : ¬ 1000 < ds.length) (h2 : allB ds = false) : sumR ds = (0, 0, 1) := by unfold sumR; rw [if_neg h, h2]; rfl
theorem sumR_ok {ds : List (Int × Int)} (h : ¬ 1000 < ds.length) (h2 : allB ds = true) : sumR ds = made (sumZ ds (maxP ds).toNat) (maxP ds) := by unfold sumR; rw [if_neg h, h2]; rfl

end Go.Proofs.YtegobkaldedhhaaDoor
