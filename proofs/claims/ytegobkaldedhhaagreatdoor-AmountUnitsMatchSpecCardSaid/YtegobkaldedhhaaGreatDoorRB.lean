
/- The walks of the reference's numbers: Cmp, Power, At. -/
import Derived.Test.YtegobkaldedhhaaGreatDoorR5
import Derived.Test.YtegobkaldedhhaaGreatDoorD1
import Derived.Deep.RegionWith
namespace Go.Proofs.YtegobkaldedhhaaGreatDoor
open Go.RowKit Limb

theorem sign_if (z : Int) : (if z < 0 then (-1 : Int) else if z = 0 then 0 else 1) = z.sign := by
  rcases Int.lt_trichotomy z 0 with h | h | h
  · rw [if_pos h, Int.sign_eq_neg_one_of_neg h]
  · subst h; rfl
  · rw [if_neg (by omega), if_neg (by omega), Int.sign_eq_one_of_pos h]
theorem small_neg {z : Int} (h : Small z) : Small (-z) := by unfold Small at *; rw [Int.natAbs_neg]; exact h

set_option maxHeartbeats 2000000 in
set_option maxRecDepth 100000 in
theorem cmp_r (w : World) {s t : Bool} {A B : Option Addr} {n c k d : Nat} {x y : Int} (ha : Big .i64 3 B6 w s A n c x) (hb : Big .i64 3 B6 w t B k d y) (sx : Small x) (sy : Small y) :
    Calls Tryz.prog 81 #[.agg #[.bool s, .slice A n c], .agg #[.bool t, .slice B k d]] w fun e w' => e = .returned (.int .i64 (x - y).sign) ∧ Below w.heap.size w w' := by
  go_enter Tryz.func81, Tryz.ntmps81
  go_wp2_with fail
  have HW := boxes2 w (.bool s) (.slice A n c) (.bool t) (.slice B k d) 61 61
  generalize (w.alloc (.cells #[.bool s, .slice A n c] 61)).alloc (.cells #[.bool t, .slice B k d] 61) = w3 at HW ⊢
  obtain ⟨hX, hY, hB⟩ := HW _ rfl
  clear HW
  have ha3 := ha.below hB
  have hb3 := hb.below hB
  obtain ⟨x0, x1, -, -, -⟩ := box2 hX
  obtain ⟨y0, y1, -, -, -⟩ := box2 hY
  go_region_held3 (fun w' => w'.cell? ⟨w.heap.size, 0, none⟩ = some (.bool s) ∧ w'.cell? ⟨w.heap.size, 1, none⟩ = some (.slice A n c) ∧ w'.cell? ⟨w.heap.size + 1, 0, none⟩ = some (.bool t) ∧ w'.cell? ⟨w.heap.size + 1, 1, none⟩ = some (.slice B k d))
    (first | (with_reducible exact ⟨x40, x41, y40, y41⟩) | (with_reducible exact ⟨x50, x51, y50, y51⟩) | (with_reducible exact ⟨x60, x61, y60, y61⟩) | exact ⟨x0, x1, y0, y1⟩)
    (first
      | (go_at_call 82; refine (minus_r (by exact hb3)).mono ?_; rintro e w4 ⟨s4, A4, n4, c4, rfl, hv4, hb4⟩; (have hX4 := heap_below (w := w3.drew) hX hb4); (have hY4 := heap_below (w := w3.drew) hY hb4); obtain ⟨x40, x41, -, -, -⟩ := box2 hX4; obtain ⟨y40, y41, -, -, -⟩ := box2 hY4)
      | (go_at_call 80; refine (plus_r _ (by exact Big.below (w := w3.drew) ha3 hb4) hv4 sx (small_neg sy)).mono ?_; rintro e w5 ⟨s5, A5, n5, c5, rfl, hv5, hb5⟩; (have hX5 := heap_below hX4 hb5); (have hY5 := heap_below hY4 hb5); obtain ⟨x50, x51, -, -, -⟩ := box2 hX5; obtain ⟨y50, y51, -, -, -⟩ := box2 hY5)
      | (go_at_call 78; refine (sign_r hv5).mono ?_; rintro e w6 ⟨hb6, rfl⟩; rw [sign_if]; (have hX6 := heap_below hX5 hb6); (have hY6 := heap_below hY5 hb6); obtain ⟨x60, x61, -, -, -⟩ := box2 hX6; obtain ⟨y60, y61, -, -, -⟩ := box2 hY6))
  go_wp2
  go_ret
  have h4 : Below w.heap.size w w4 := below_then hb4 (hB.drew) (by have := hB.size; simpa using this)
  have h5 := below_then hb5 h4 h4.size
  exact ⟨by rw [Int.sub_eq_add_neg]; rfl, below_then hb6 h5 h5.size⟩

set_option maxHeartbeats 4000000 in
set_option maxRecDepth 100000 in
theorem power_r (n : Nat) (w : World) (hn : n ≤ 100) :
    Calls Tryz.prog 52 #[.int .i64 (n : Int)] w (Makes .i64 3 B6 w ((10 ^ n : Nat) : Int)) := by
  have hs10 : Small 10 := small_of_le (by omega) (by omega)
  go_enter Tryz.func52, Tryz.ntmps52
  go_wp2_with fail
  refine (of_r 1 _ (by omega)).mono ?_
  rintro e w1 ⟨s1, A1, n1, c1, rfl, hv, hb⟩
  have hB := heap_below (heap_new w _ rfl) hb
  have hbw := below_then hb ((Below.refl _ _).alloc (Nat.le_refl _) _) (by simp)
  obtain ⟨-, -, -, -, z1⟩ := box2 hB
  go_wp2
  have hz1 := hbw.size
  go_loopw [6] (fun i wr => ∃ (j : Nat) (t : Bool) (A : Option Addr) (k c : Nat), j ≤ n ∧ i = .int .i64 j ∧ wr.heap[w1.heap.size]? = some (.cells #[.bool t, .slice A k c] 61 (0, 0)) ∧ wr.heap[w.heap.size]? = some (.cells #[.bool false, .slice none 0 0] 61 (0, 0)) ∧
      Big .i64 3 B6 wr t A k c ((10 ^ j : Nat) : Int) ∧ Below w.heap.size w wr) (fun i _ => n - (intOf i).toNat)
  case atStart => exact ⟨0, s1, A1, n1, c1, Nat.zero_le _, rfl, heap_new _ _ rfl, heap_old hB _, by exact hv.alloc _, hbw.alloc hz1 _⟩
  case round =>
    obtain ⟨j, t, A, k, c, hj, rfl, hO, hR, hbig, hbel⟩ := hrel
    have hzr := hbel.size
    obtain ⟨o0, o1, of0, of1, oz⟩ := box2 hO
    rcases Nat.lt_or_ge j n with hjn | hjn
    · go_wp2_with fail
      go_region_with
        (first
          | (go_at_call 51; refine (of_r 10 _ (by omega)).mono ?_; rintro e w4 ⟨s4, A4, n4, c4, rfl, hv4, hb4⟩; (have q1 := box2 (heap_below (w := wr.drew) hO hb4)); obtain ⟨r10, r11, -, -, -⟩ := q1)
          | (go_at_call 50; refine (timesof_r _ (by exact Big.below (w := wr.drew) hbig hb4) hv4 (small_pow (by omega)) hs10).mono ?_; rintro e w5 ⟨s5, A5, n5, c5, rfl, hv5, hb5⟩; (have hB5 := heap_below (heap_below (w := wr.drew) hO hb4) hb5); obtain ⟨g0, g1, g2, g3, g4⟩ := box2 hB5))
      all_goals
        have hR5 := heap_below (heap_below (w := wr.drew) hR hb4) hb5
        have hpw : ((10 ^ j : Nat) : Int) * 10 = ((10 ^ (j + 1) : Nat) : Int) := by rw [Nat.pow_succ, Int.natCast_mul]; rfl
        rw [hpw] at hv5
        clear hpw
        have hN : Big .i64 3 B6 ((w5.setCell ⟨w1.heap.size, 0, none⟩ (.bool s5)).setCell ⟨w1.heap.size, 1, none⟩ (.slice A5 n5 c5)) s5 A5 n5 c5 ((10 ^ (j + 1) : Nat) : Int) := hv5.box2 hB5 (by decide) _ _
        have hO' : ((w5.setCell ⟨w1.heap.size, 0, none⟩ (.bool s5)).setCell ⟨w1.heap.size, 1, none⟩ (.slice A5 n5 c5)).heap[w1.heap.size]? = some (.cells #[.bool s5, .slice A5 n5 c5] 61 (0, 0)) := heap_set (heap_set hB5 0 _) 1 _
        have hR' : ((w5.setCell ⟨w1.heap.size, 0, none⟩ (.bool s5)).setCell ⟨w1.heap.size, 1, none⟩ (.slice A5 n5 c5)).heap[w.heap.size]? = some (.cells #[.bool false, .slice none 0 0] 61 (0, 0)) := heap_far (heap_far hR5 (by simp; omega) _) (by simp; omega) _
        have hb' : Below w.heap.size w ((w5.setCell ⟨w1.heap.size, 0, none⟩ (.bool s5)).setCell ⟨w1.heap.size, 1, none⟩ (.slice A5 n5 c5)) := ((below_then hb5 (below_then hb4 hbel.drew hzr) (Nat.le_trans hzr hb4.size)).setCell (by simp; omega) _).setCell (by simp; omega) _
        generalize (w5.setCell ⟨w1.heap.size, 0, none⟩ (.bool s5)).setCell ⟨w1.heap.size, 1, none⟩ (.slice A5 n5 c5) = w6 at hN hO' hR' hb' ⊢
        clear hv5 hB5 hR5 hb5 hb4 g0 g1 g2 g3 g4
        go_wp2
        go_roundw
        case rel => exact ⟨j + 1, s5, A5, n5, c5, by omega, by go_num, hO', hR', hN, hb'⟩
        case measure => simp [intOf]; omega
    · obtain rfl : j = n := by omega
      obtain ⟨g0, g1, g2, g3, g4⟩ := box2 hR
      go_wp2
      refine bodyPost_ret (v := .agg #[.bool t, .slice A k c]) (by simp [results, Tryz.results52, go_sem, g0, g1]) rfl ⟨t, A, k, c, rfl, hbig.box2 hR (by decide) _ _, ?_⟩
      go_grown

theorem dec_w {u p : Int} (h : decB u p = true) : decide (-1000000000000000 ≤ u ∧ u ≤ 1000000000000000) = true ∧ decide (0 ≤ p ∧ p ≤ 9) = true := by
  have := decB_out h
  exact ⟨decide_eq_true (by omega), decide_eq_true (by omega)⟩
theorem rchk_ok (u p : Int) (w : World) (h : decB u p = true) : Calls Tryz.prog 47 #[.agg #[.int .i64 u, .int .i64 p]] w fun e w' => e = .returned (.int .i64 0) ∧ Below w.heap.size w w' := by
  obtain ⟨h1, h2⟩ := dec_w h
  have H1 := Lib.hid h1; have H2 := Lib.hid h2
  clear h h1 h2
  go_enter Tryz.func47, Tryz.ntmps47
  go_wp2_with (first | (go_at_call_of 48 (Value.int .i64 9); refine (within_c _ _ _ _).mono ?_; rintro e w1 ⟨rfl, rfl⟩; rw [H2.out]) | (go_at_call 48; refine (within_c _ _ _ _).mono ?_; rintro e w1 ⟨rfl, rfl⟩; rw [H1.out]))
  go_ret
  exact ⟨rfl, by go_grown⟩
theorem rchk_bad (u p : Int) (w : World) (h : decB u p = false) : Calls Tryz.prog 47 #[.agg #[.int .i64 u, .int .i64 p]] w fun e w' => e = .returned (.int .i64 1) ∧ Below w.heap.size w w' := by
  have h := decB_not h
  by_cases h1 : -1000000000000000 ≤ u ∧ u ≤ 1000000000000000
  · have H1 := Lib.hid (decide_eq_true h1)
    have H2 := Lib.hid (decide_eq_false (p := 0 ≤ p ∧ p ≤ 9) (by omega))
    clear h h1
    go_enter Tryz.func47, Tryz.ntmps47
    go_wp2_with (first | (go_at_call_of 48 (Value.int .i64 9); refine (within_c _ _ _ _).mono ?_; rintro e w1 ⟨rfl, rfl⟩; rw [H2.out]) | (go_at_call 48; refine (within_c _ _ _ _).mono ?_; rintro e w1 ⟨rfl, rfl⟩; rw [H1.out]))
    go_ret
    exact ⟨rfl, by go_grown⟩
  · have H1 := Lib.hid (decide_eq_false h1)
    clear h h1
    go_enter Tryz.func47, Tryz.ntmps47
    go_wp2_with (go_at_call 48; refine (within_c _ _ _ _).mono ?_; rintro e w1 ⟨rfl, rfl⟩; rw [H1.out])
    go_ret
    exact ⟨rfl, by go_grown⟩

end Go.Proofs.YtegobkaldedhhaaGreatDoor
