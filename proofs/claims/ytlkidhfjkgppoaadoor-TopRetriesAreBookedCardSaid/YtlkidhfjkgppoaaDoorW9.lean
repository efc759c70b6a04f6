
/- The walk of package whole: Power. -/
import Derived.Test.YtlkidhfjkgppoaaDoorW8
import Derived.Deep.RegionWith
namespace Go.Proofs.YtlkidhfjkgppoaaDoor
open Go.RowKit Limb

theorem small_pow {j : Nat} (h : j ≤ 150) : Small ((10 ^ j : Nat) : Int) := by
  unfold Small
  rw [Int.natAbs_natCast]
  exact Nat.pow_lt_pow_right (by omega) (by omega)
theorem small_of_le {z : Int} (h1 : -10000000000000000000000000000000000000000 ≤ z) (h2 : z ≤ 10000000000000000000000000000000000000000) : Small z := by
  unfold Small
  have : 10000000000000000000000000000000000000000 < 10 ^ 200 := by decide
  omega

set_option maxHeartbeats 4000000 in
set_option maxRecDepth 100000 in
theorem power_c (n : Nat) (w : World) (hn : n ≤ 100) :
    Calls Tryd.prog 45 #[.int .i64 (n : Int)] w (Makes .u32 92 B32 w ((10 ^ n : Nat) : Int)) := by
  have hs10 : Small 10 := small_of_le (by omega) (by omega)
  go_enter Tryd.func45, Tryd.ntmps45
  go_wp2_with fail
  refine (of_c 1 _ (by omega) (by omega)).mono ?_
  rintro e w1 ⟨s1, A1, n1, c1, rfl, hv, hb⟩
  have hB := heap_below (heap_new w _ rfl) hb
  have hbw := below_then hb ((Below.refl _ _).alloc (Nat.le_refl _) _) (by simp)
  obtain ⟨-, -, -, -, z1⟩ := box2 hB
  go_wp2
  have hz1 := hbw.size
  go_loopw [6] (fun i wr => ∃ (j : Nat) (t : Bool) (A : Option Addr) (k c : Nat), j ≤ n ∧ i = .int .i64 j ∧ wr.heap[w1.heap.size]? = some (.cells #[.bool t, .slice A k c] 76 (0, 0)) ∧ wr.heap[w.heap.size]? = some (.cells #[.bool false, .slice none 0 0] 76 (0, 0)) ∧
      Big .u32 92 B32 wr t A k c ((10 ^ j : Nat) : Int) ∧ Below w.heap.size w wr) (fun i _ => n - (intOf i).toNat)
  case atStart => exact ⟨0, s1, A1, n1, c1, Nat.zero_le _, rfl, heap_new _ _ rfl, heap_old hB _, by exact hv.alloc _, hbw.alloc hz1 _⟩
  case round =>
    obtain ⟨j, t, A, k, c, hj, rfl, hO, hR, hbig, hbel⟩ := hrel
    have hzr := hbel.size
    obtain ⟨o0, o1, of0, of1, oz⟩ := box2 hO
    rcases Nat.lt_or_ge j n with hjn | hjn
    · go_wp2_with fail
      go_region_with
        (first
          | (go_at_call 29; refine (of_c 10 _ (by omega) (by omega)).mono ?_; rintro e w4 ⟨s4, A4, n4, c4, rfl, hv4, hb4⟩; (have q1 := box2 (heap_below (w := wr.drew) hO hb4)); obtain ⟨r10, r11, -, -, -⟩ := q1)
          | (go_at_call 44; refine (times_c _ (by exact Big.below (w := wr.drew) hbig hb4) hv4 (small_pow (by omega)) hs10).mono ?_; rintro e w5 ⟨s5, A5, n5, c5, rfl, hv5, hb5⟩; (have hB5 := heap_below (heap_below (w := wr.drew) hO hb4) hb5); obtain ⟨g0, g1, g2, g3, g4⟩ := box2 hB5))
      all_goals
        have hR5 := heap_below (heap_below (w := wr.drew) hR hb4) hb5
        have hpw : ((10 ^ j : Nat) : Int) * 10 = ((10 ^ (j + 1) : Nat) : Int) := by rw [Nat.pow_succ, Int.natCast_mul]; rfl
        rw [hpw] at hv5
        clear hpw
        have hN : Big .u32 92 B32 ((w5.setCell ⟨w1.heap.size, 0, none⟩ (.bool s5)).setCell ⟨w1.heap.size, 1, none⟩ (.slice A5 n5 c5)) s5 A5 n5 c5 ((10 ^ (j + 1) : Nat) : Int) := hv5.box2 hB5 (by decide) _ _
        have hO' : ((w5.setCell ⟨w1.heap.size, 0, none⟩ (.bool s5)).setCell ⟨w1.heap.size, 1, none⟩ (.slice A5 n5 c5)).heap[w1.heap.size]? = some (.cells #[.bool s5, .slice A5 n5 c5] 76 (0, 0)) := heap_set (heap_set hB5 0 _) 1 _
        have hR' : ((w5.setCell ⟨w1.heap.size, 0, none⟩ (.bool s5)).setCell ⟨w1.heap.size, 1, none⟩ (.slice A5 n5 c5)).heap[w.heap.size]? = some (.cells #[.bool false, .slice none 0 0] 76 (0, 0)) := heap_far (heap_far hR5 (by simp; omega) _) (by simp; omega) _
        have hb' : Below w.heap.size w ((w5.setCell ⟨w1.heap.size, 0, none⟩ (.bool s5)).setCell ⟨w1.heap.size, 1, none⟩ (.slice A5 n5 c5)) := ((below_then hb5 (below_then hb4 hbel.drew hzr) (Nat.le_trans hzr hb4.size)).setCell (by simp; omega) _).setCell (by simp; omega) _
        generalize (w5.setCell ⟨w1.heap.size, 0, none⟩ (.bool s5)).setCell ⟨w1.heap.size, 1, none⟩ (.slice A5 n5 c5) = w6 at hN hO' hR' hb' ⊢
        clear hv5 hB5 hR5 hb5 hb4 g0 g1 g2 g3 g4
        go_wp2
        go_roundw
        case rel => exact ⟨j + 1, s5, A5, n5, c5, by omega, by go_num, hO', hR', hN, hb'⟩
        case measure => simp [intOf]; omega
    · obtain rfl : j = n := by omega
      obtain ⟨g0, g1, g2, g3, g4⟩ := box2 hR
      go_wp2
      refine bodyPost_ret (v := .agg #[.bool t, .slice A k c]) (by simp [results, Tryd.results45, go_sem, g0, g1]) rfl ⟨t, A, k, c, rfl, hbig.box2 hR (by decide) _ _, ?_⟩
      go_grown

end Go.Proofs.YtlkidhfjkgppoaaDoor
