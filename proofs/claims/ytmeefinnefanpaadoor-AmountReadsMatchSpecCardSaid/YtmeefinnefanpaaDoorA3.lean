/- The walks of package amount: CheckDecimal, CheckDecimals. The walks of package amount: Value, Made, Compare, Sum. The walk of package amount: Sum. -/
import Derived.Test.YtmeefinnefanpaaDoorW9
import Derived.Test.YtmeefinnefanpaaDoorSpec
import Derived.Deep.RegionWith
-- merged: A1 A2 A3

namespace Go.Proofs.YtmeefinnefanpaaDoor
open Go.RowKit Limb

theorem out_no (n lo hi : Int) (w : World) (h : lo ≤ n ∧ n ≤ hi) : Calls Tryd.prog 19 #[.int .i64 n, .int .i64 lo, .int .i64 hi] w fun e w' => w = w' ∧ e = .returned (.bool false) := by
  have h1 : ¬ n < lo := by omega
  have h2 : ¬ hi < n := by omega
  go_enter Tryd.func19, Tryd.ntmps19
  go_wp2
  go_ret
  exact ⟨rfl, rfl⟩
theorem out_yes (n lo hi : Int) (w : World) (h : ¬ (lo ≤ n ∧ n ≤ hi)) : Calls Tryd.prog 19 #[.int .i64 n, .int .i64 lo, .int .i64 hi] w fun e w' => w = w' ∧ e = .returned (.bool true) := by
  by_cases h1 : n < lo
  · go_enter Tryd.func19, Tryd.ntmps19
    go_wp2
    go_ret
    exact ⟨rfl, rfl⟩
  · have h2 : hi < n := by omega
    go_enter Tryd.func19, Tryd.ntmps19
    go_wp2
    go_ret
    exact ⟨rfl, rfl⟩

theorem small_mul9 {u : Int} (hu : -1000000000000000 ≤ u ∧ u ≤ 1000000000000000) : Small u := small_of_le (by omega) (by omega)

end Go.Proofs.YtmeefinnefanpaaDoor

namespace Go.Proofs.YtmeefinnefanpaaDoor
open Go.RowKit Limb

theorem made_fit (z p : Int) (h : z.natAbs ≤ 1000000000000000) : made z p = (z, p, 0) ∧ fitV z 1000000000000000 = z ∧ fitB z 1000000000000000 = true := by
  unfold made fitV fitB; simp [h]
theorem made_not (z p : Int) (h : ¬ z.natAbs ≤ 1000000000000000) : made z p = (0, 0, 1) ∧ fitV z 1000000000000000 = 0 ∧ fitB z 1000000000000000 = false := by
  unfold made fitV fitB; simp [h]

set_option maxHeartbeats 1000000 in
theorem mk_c (w : World) {s : Bool} {A : Option Addr} {n c : Nat} {z : Int} (p : Int) (h : Big .u32 71 B32 w s A n c z) :
    Calls Tryd.prog 35 #[.agg #[.bool s, .slice A n c], .int .i64 p] w (RetD (made z p) w) := by
  by_cases hz : z.natAbs ≤ 1000000000000000
  · obtain ⟨e1, e2, e3⟩ := made_fit z p hz
    rw [e1]
    have E2 := Lib.hid e2; have E3 := Lib.hid e3; clear e1 e2 e3
    go_enter Tryd.func35, Tryd.ntmps35
    go_wp2_with fail
    refine (int_c _ 1000000000000000 ((h.alloc _).alloc _) (by omega)).mono ?_
    rintro e w1 ⟨rfl, hb⟩
    rw [E2.out, E3.out]
    have hB := heap_below (heap_new (w.alloc _) _ rfl) hb
    simp only [World.size_alloc] at hB
    obtain ⟨g0, g1, g2, g3, g4⟩ := box2 hB
    go_wp2
    refine bodyPost_ret (v := .tuple #[.agg #[.int .i64 z, .int .i64 p], .int .i64 0]) (by simp [results, Tryd.results35, go_sem, g0, g1]) rfl ⟨rfl, ?_⟩
    go_grown
    exact below_then hb (by go_grown) (by simp only [World.size_alloc]; omega)
  · obtain ⟨e1, e2, e3⟩ := made_not z p hz
    rw [e1]
    have E2 := Lib.hid e2; have E3 := Lib.hid e3; clear e1 e2 e3
    go_enter Tryd.func35, Tryd.ntmps35
    go_wp2_with fail
    refine (int_c _ 1000000000000000 ((h.alloc _).alloc _) (by omega)).mono ?_
    rintro e w1 ⟨rfl, hb⟩
    rw [E2.out, E3.out]
    have hB := heap_below (heap_new (w.alloc _) _ rfl) hb
    simp only [World.size_alloc] at hB
    obtain ⟨g0, g1, g2, g3, g4⟩ := box2 hB
    go_wp2
    refine bodyPost_ret (v := .tuple #[.agg #[.int .i64 0, .int .i64 0], .int .i64 1]) (by simp [results, Tryd.results35, go_sem, g0, g1]) rfl ⟨rfl, ?_⟩
    go_grown
    exact below_then hb (by go_grown) (by simp only [World.size_alloc]; omega)

def RetIF (n f : Int) (w : World) (e : Ending) (w' : World) : Prop := e = .returned (.tuple #[.int .i64 n, .int .i64 f]) ∧ Below w.heap.size w w'

end Go.Proofs.YtmeefinnefanpaaDoor

namespace Go.Proofs.YtmeefinnefanpaaDoor
open Go.RowKit Limb

theorem sumR_big {ds : List (Int × Int)} (h : 1000 < ds.length) : sumR ds = (0, 0, 2) := by unfold sumR; rw [if_pos h]
theorem sumR_bad {ds : List (Int × Int)} (h : ¬ 1000 < ds.length) (h2 : allB ds = false) : sumR ds = (0, 0, 1) := by unfold sumR; rw [if_neg h, h2]; rfl
theorem sumR_ok {ds : List (Int × Int)} (h : ¬ 1000 < ds.length) (h2 : allB ds = true) : sumR ds = made (sumZ ds (maxP ds).toNat) (maxP ds) := by unfold sumR; rw [if_neg h, h2]; rfl

end Go.Proofs.YtmeefinnefanpaaDoor
