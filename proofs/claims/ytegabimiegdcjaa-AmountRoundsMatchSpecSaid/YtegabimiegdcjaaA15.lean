
/- The walk of the program's Quotient. -/
import Derived.Test.YtegabimiegdcjaaRX
import Derived.Test.YtegabimiegdcjaaA3
import Derived.Test.YtegabimiegdcjaaN3
import Derived.Deep.RegionHeld3
namespace Go.Proofs.Ytegabimiegdcjaa
open Go.RowKit Limb
set_option linter.unusedSimpArgs false
set_option linter.unusedVariables false

set_option maxHeartbeats 1000000 in
theorem pquot_bad (u p v q r way : Int) (w : World) (h : decB u p = false ∨ decB v q = false) (hu : -9223372036854775808 ≤ u ∧ u ≤ 9223372036854775807) (hp : -9223372036854775808 ≤ p ∧ p ≤ 9223372036854775807) (hv : -9223372036854775808 ≤ v ∧ v ≤ 9223372036854775807) (hq : -9223372036854775808 ≤ q ∧ q ≤ 9223372036854775807) :
    Calls Try.prog 18 #[.agg #[.int .i64 u, .int .i64 p], .agg #[.int .i64 v, .int .i64 q], .int .i64 r, .int .i64 way] w (RetD (0, 0, 1) w) := by
  have hall : allB [(u, p), (v, q)] = false := by rw [allB_two]; rcases h with h | h <;> rw [h] <;> simp
  have HALL := Lib.hid hall; clear hall h
  go_enter Try.func18, Try.ntmps18
  go_wp2_with fail
  refine (chks_bad [(u, p), (v, q)] _ 2 2 _ (decs_two _ _ (by simp) (by omega) (by omega) (by omega) (by omega)) (by omega) HALL.out).mono ?_
  rintro e w3 ⟨rfl, hb3⟩
  have hR3 : w3.heap[w.heap.size + 1 + 1]? = some (.cells #[.int .i64 0, .int .i64 0] 23 (0, 0)) := heap_below (heap_old (heap_new ((w.alloc _).alloc _) (.cells #[.int .i64 0, .int .i64 0] 23) (by simp)) _) hb3
  obtain ⟨g0, g1, g2, g3, g4⟩ := box2 hR3
  have hbel3 := below_then hb3 (B := w.heap.size) (w := w) (by go_grown) (by simp only [World.size_alloc]; omega)
  clear hb3
  have hz3 := hbel3.size
  go_wp2
  refine bodyPost_ret (v := .tuple #[.agg #[.int .i64 0, .int .i64 0], .int .i64 1]) (by simp [results, Try.results18, go_sem, g0, g1]) rfl ⟨rfl, ?_⟩
  go_grown

set_option maxHeartbeats 1000000 in
theorem pquot_way (u p v q r way : Int) (w : World) (ha : decB u p = true) (hb : decB v q = true) {W : Int} (hW : wayF r way = W) (h0 : W ≠ 0) :
    Calls Try.prog 18 #[.agg #[.int .i64 u, .int .i64 p], .agg #[.int .i64 v, .int .i64 q], .int .i64 r, .int .i64 way] w (RetD (0, 0, W) w) := by
  obtain ⟨a1, a2, a3, a4⟩ := decB_out ha
  obtain ⟨b1, b2, b3, b4⟩ := decB_out hb
  have HA := Lib.hid ha; have HB := Lib.hid hb
  have hall : allB [(u, p), (v, q)] = true := by rw [allB_two, HA.out, HB.out]; rfl
  have HALL := Lib.hid hall; clear hall ha hb
  have HW := Lib.hid hW; clear hW
  have h0' : (W != 0) = true := by simpa using h0
  clear h0
  go_enter Try.func18, Try.ntmps18
  go_wp2_with fail
  refine (chks_ok [(u, p), (v, q)] _ 2 2 _ (decs_two _ _ (by simp) (by omega) (by omega) (by omega) (by omega)) (by omega) HALL.out).mono ?_
  rintro e w3 ⟨rfl, hb3⟩
  have hR3 : w3.heap[w.heap.size + 1 + 1]? = some (.cells #[.int .i64 0, .int .i64 0] 23 (0, 0)) := heap_below (heap_old (heap_new ((w.alloc _).alloc _) (.cells #[.int .i64 0, .int .i64 0] 23) (by simp)) _) hb3
  obtain ⟨g0, g1, g2, g3, g4⟩ := box2 hR3
  have hbel3 := below_then hb3 (B := w.heap.size) (w := w) (by go_grown) (by simp only [World.size_alloc]; omega)
  clear hb3
  have hz3 := hbel3.size
  go_wp2_with fail
  refine (wayfault_c _ _ _).mono ?_
  rintro e w4 ⟨rfl, rfl⟩
  rw [HW.out]
  go_wp2
  refine bodyPost_ret (v := .tuple #[.agg #[.int .i64 0, .int .i64 0], .int .i64 W]) (by simp [results, Try.results18, go_sem, g0, g1]) rfl ⟨rfl, ?_⟩
  go_grown

set_option maxHeartbeats 1000000 in
theorem pquot_zero (u p v q r way : Int) (w : World) (ha : decB u p = true) (hb : decB v q = true) (hW : wayF r way = 0) (hv0 : v = 0) :
    Calls Try.prog 18 #[.agg #[.int .i64 u, .int .i64 p], .agg #[.int .i64 v, .int .i64 q], .int .i64 r, .int .i64 way] w (RetD (0, 0, 13) w) := by
  obtain ⟨a1, a2, a3, a4⟩ := decB_out ha
  obtain ⟨b1, b2, b3, b4⟩ := decB_out hb
  have HA := Lib.hid ha; have HB := Lib.hid hb
  have hall : allB [(u, p), (v, q)] = true := by rw [allB_two, HA.out, HB.out]; rfl
  have HALL := Lib.hid hall; clear hall ha hb
  have HW := Lib.hid hW; clear hW
  subst hv0
  go_enter Try.func18, Try.ntmps18
  go_wp2_with fail
  refine (chks_ok [(u, p), (0, q)] _ 2 2 _ (decs_two _ _ (by simp) (by omega) (by omega) (by omega) (by omega)) (by omega) HALL.out).mono ?_
  rintro e w3 ⟨rfl, hb3⟩
  have hX3 := heap_below (heap_old (heap_old (heap_old (heap_new w (.cells #[.int .i64 u, .int .i64 p] 23) rfl) _) _) _) hb3
  have hZ3 : w3.heap[w.heap.size + 1]? = some (.cells #[.int .i64 0, .int .i64 q] 23 (0, 0)) := heap_below (heap_old (heap_old (heap_new (w.alloc _) (.cells #[.int .i64 0, .int .i64 q] 23) (by simp)) _) _) hb3
  have hR3 : w3.heap[w.heap.size + 1 + 1]? = some (.cells #[.int .i64 0, .int .i64 0] 23 (0, 0)) := heap_below (heap_old (heap_new ((w.alloc _).alloc _) (.cells #[.int .i64 0, .int .i64 0] 23) (by simp)) _) hb3
  obtain ⟨g0, g1, g2, g3, g4⟩ := box2 hR3
  obtain ⟨z0, z1, -, -, -⟩ := box2 hZ3
  have hbel3 := below_then hb3 (B := w.heap.size) (w := w) (by go_grown) (by simp only [World.size_alloc]; omega)
  clear hb3
  have hz3 := hbel3.size
  go_wp2_with fail
  refine (wayfault_c _ _ _).mono ?_
  rintro e w4 ⟨rfl, rfl⟩
  rw [HW.out]
  go_wp2
  refine bodyPost_ret (v := .tuple #[.agg #[.int .i64 0, .int .i64 0], .int .i64 13]) (by simp [results, Try.results18, go_sem, g0, g1]) rfl ⟨rfl, ?_⟩
  go_grown

set_option maxHeartbeats 4000000 in
set_option maxRecDepth 100000 in
theorem pquot_ok (u p v q : Int) (r : Nat) (way : Int) (w : World) (ha : decB u p = true) (hb : decB v q = true) (hr : r ≤ 9) (hw : 1 ≤ way ∧ way ≤ 6) (hv0 : ¬ v = 0) :
    Calls Try.prog 18 #[.agg #[.int .i64 u, .int .i64 p], .agg #[.int .i64 v, .int .i64 q], .int .i64 (r : Int), .int .i64 way] w (RetD (made (rnd (topZ u p v (r : Int)) (scaled v q 9).natAbs way) (r : Int)) w) := by
  have HW : Hid (wayF (r : Int) way = 0) := Lib.hid (by unfold wayF; rw [if_neg (by omega), if_neg (by omega)])
  have HTB := Lib.hid (top_bound ha hr)
  have HSC := Lib.hid (scaled_190 hb)
  have HPS := Lib.hid (scaled_pos (q := q) hv0)
  have hT : topZ u p v (r : Int) = if v < 0 then -(scaled u p 9 * ((10 ^ r : Nat) : Int)) else scaled u p 9 * ((10 ^ r : Nat) : Int) := by unfold topZ; rw [Int.toNat_natCast]
  have HTN : Hid ((topZ u p v (r : Int)).natAbs < 10 ^ 190) := Lib.hid (by rw [hT]; split; (rw [Int.natAbs_neg]; exact top_bound ha hr); exact top_bound ha hr)
  obtain ⟨Z, hZ⟩ : ∃ Z, topZ u p v (r : Int) = Z := ⟨_, rfl⟩
  rw [hZ] at hT HTN ⊢
  clear hZ
  have HT := Lib.hid hT; clear hT
  have sm1 := Lib.hid (scaled_small (u := u) (p := p) (q := 9) ha (by omega))
  have sm2 : Hid (Small ((10 ^ r : Nat) : Int)) := Lib.hid (small_nat (Nat.pow_lt_pow_right (by omega) (by omega)))
  obtain ⟨a1, a2, a3, a4⟩ := decB_out ha
  obtain ⟨b1, b2, b3, b4⟩ := decB_out hb
  have HA := Lib.hid ha; have HB := Lib.hid hb
  have hall : allB [(u, p), (v, q)] = true := by rw [allB_two, HA.out, HB.out]; rfl
  have HALL := Lib.hid hall; clear hall ha hb
  obtain ⟨hw1, hw2⟩ := hw
  obtain ⟨R, hR0⟩ : ∃ R, made (rnd Z (scaled v q 9).natAbs way) (r : Int) = R := ⟨_, rfl⟩
  rw [hR0]
  have HR0 := Lib.hid hR0; clear hR0
  go_enter Try.func18, Try.ntmps18
  go_wp2_with fail
  refine (chks_ok [(u, p), (v, q)] _ 2 2 _ (decs_two _ _ (by simp) (by omega) (by omega) (by omega) (by omega)) (by omega) HALL.out).mono ?_
  rintro e w3 ⟨rfl, hb3⟩
  have hX3 := heap_below (heap_old (heap_old (heap_old (heap_new w (.cells #[.int .i64 u, .int .i64 p] 23) rfl) _) _) _) hb3
  have hZ3 : w3.heap[w.heap.size + 1]? = some (.cells #[.int .i64 v, .int .i64 q] 23 (0, 0)) := heap_below (heap_old (heap_old (heap_new (w.alloc _) (.cells #[.int .i64 v, .int .i64 q] 23) (by simp)) _) _) hb3
  have hR3 : w3.heap[w.heap.size + 1 + 1]? = some (.cells #[.int .i64 0, .int .i64 0] 23 (0, 0)) := heap_below (heap_old (heap_new ((w.alloc _).alloc _) (.cells #[.int .i64 0, .int .i64 0] 23) (by simp)) _) hb3
  have hbel3 := below_then hb3 (B := w.heap.size) (w := w) (by go_grown) (by simp only [World.size_alloc]; omega)
  clear hb3
  have hz3 := hbel3.size
  obtain ⟨x0, x1, -, -, -⟩ := box2 hX3
  obtain ⟨z0, z1, -, -, -⟩ := box2 hZ3
  go_wp2_with fail
  refine (wayfault_c _ _ _).mono ?_
  rintro e w4 ⟨rfl, rfl⟩
  rw [HW.out]
  go_wp2_with fail
  refine (value_c u p _ HA.out).mono ?_
  rintro e w5 ⟨s5, A5, n5, c5, rfl, hv5, hb5⟩
  have hZ5 := heap_below hZ3 hb5
  have hR5 := heap_below hR3 hb5
  have hbel5 := below_then hb5 hbel3 hz3
  clear hX3 hZ3 hR3 hbel3 x0 x1 z0 z1 hb5
  go_wp2_with fail
  refine (power_c r _ (by omega)).mono ?_
  rintro e w6 ⟨s6, A6, n6, c6, rfl, hv6, hb6⟩
  have hZ6 := heap_below hZ5 hb6
  have hR6 := heap_below hR5 hb6
  have hbel6 := below_then hb6 hbel5 hbel5.size
  have hv5 := hv5.below hb6
  clear hZ5 hR5 hbel5 hb6
  go_wp2_with fail
  refine (times_c _ hv5 hv6 sm1.out sm2.out).mono ?_
  rintro e w7 ⟨s7, A7, n7, c7, rfl, hv7, hb7⟩
  have hZ7 := heap_old (heap_below hZ6 hb7) (.cells #[.bool s7, .slice A7 n7 c7] 51)
  have hR7 := heap_old (heap_below hR6 hb7) (.cells #[.bool s7, .slice A7 n7 c7] 51)
  have hbel7a := below_then hb7 hbel6 hbel6.size
  have hbel7 := hbel7a.alloc hbel7a.size (.cells #[.bool s7, .slice A7 n7 c7] 51)
  have hv7 := hv7.alloc (.cells #[.bool s7, .slice A7 n7 c7] 51)
  have hL7 := heap_new w7 (.cells #[.bool s7, .slice A7 n7 c7] 51) rfl
  have hlt7 := lt_heap (heap_below hR6 hb7)
  obtain ⟨z70, z71, -, -, hz70⟩ := box2 (heap_below hZ6 hb7)
  clear hZ6 hR6 hbel6 hb7 hv5 hv6 hbel7a
  go_upto_if 39 with fail
  generalize w7.heap.size = L at *
  generalize w7.alloc (.cells #[.bool s7, .slice A7 n7 c7] 51) = w8 at *
  clear z70 z71 hz70
  obtain ⟨l0, l1, l2, l3, l4⟩ := box2 hL7
  have hz7 := hbel7.size
  go_cut [] (fun wx => ∃ (s8 : Bool) (A8 : Option Addr) (n8 c8 : Nat), wx.heap[L]? = some (.cells #[.bool s8, .slice A8 n8 c8] 51 (0, 0)) ∧ Big .u32 86 B32 wx s8 A8 n8 c8 Z ∧ wx.heap[w.heap.size + 1]? = some (.cells #[.int .i64 v, .int .i64 q] 23 (0, 0)) ∧ wx.heap[w.heap.size + 1 + 1]? = some (.cells #[.int .i64 0, .int .i64 0] 23 (0, 0)) ∧ Below w.heap.size w wx)
  case first =>
    by_cases hneg : v < 0
    · have HT2 := Lib.hid (HT.out.trans (if_pos hneg))
      clear HT
      go_wp2_with fail
      refine (minus_c _ hv7).mono ?_
      rintro e w9 ⟨s9, A9, n9, c9, rfl, hv9, hb9⟩
      rw [← HT2.out] at hv9
      have hZ9 := heap_below hZ7 hb9
      have hR9 := heap_below hR7 hb9
      have hL9 := heap_below hL7 hb9
      have hbel9 := below_then hb9 hbel7 hz7
      clear hZ7 hR7 hL7 hbel7 hv7 l0 l1 l2 l3 l4 hb9
      obtain ⟨l0, l1, l2, l3, l4⟩ := box2 hL9
      have hz9 := hbel9.size
      go_wp2_with fail
      go_meet
      exact ⟨s9, A9, n9, c9, heap_store2 hL9, hv9.box2 hL9 (by decide) _ _, heap_far2 hZ9 (by omega), heap_far2 hR9 (by omega), by go_grown⟩
    · have HT2 := Lib.hid (HT.out.trans (if_neg hneg))
      clear HT
      go_wp2_with fail
      go_meet
      exact ⟨s7, A7, n7, c7, hL7, by rw [HT2.out]; exact hv7, hZ7, hR7, hbel7⟩
  case rest =>
    obtain ⟨s8, A8, n8, c8, hL, hv8, hZ8, hR8, hbel8⟩ := hcut
    clear hZ7 hR7 hL7 hbel7 hv7 l0 l1 l2 l3 l4 hz7
    obtain ⟨l0, l1, -, -, -⟩ := box2 hL
    obtain ⟨z0, z1, -, -, -⟩ := box2 hZ8
    have hz8 := hbel8.size
    go_wp2_with fail
    generalize wc = w9 at *
    go_region_held3 (fun w' => w'.cell? ⟨L, 0, none⟩ = some (.bool s8) ∧ w'.cell? ⟨L, 1, none⟩ = some (.slice A8 n8 c8) ∧ w'.cell? ⟨w.heap.size + 1, 0, none⟩ = some (.int .i64 v) ∧ w'.cell? ⟨w.heap.size + 1, 1, none⟩ = some (.int .i64 q))
      (first | (with_reducible exact ⟨l100, l101, z100, z101⟩) | (with_reducible exact ⟨l110, l111, z110, z111⟩) | (with_reducible exact ⟨l120, l121, z120, z121⟩) | (with_reducible exact ⟨l130, l131, z130, z131⟩) | (exact ⟨l0, l1, z0, z1⟩) | (with_reducible (refine ⟨cell_past2 l130 ?_, cell_past2 l131 ?_, cell_past2 z130 ?_, cell_past2 z131 ?_⟩) <;> omega) | (go_keep; done))
      (first
        | (go_at_call 29; refine (value_c v q _ HB.out).mono ?_; rintro e w10 ⟨s10, A10, n10, c10, rfl, hv10, hb10⟩; (have hL10 := heap_below (w := w9.drew) hL hb10); (have hZ10 := heap_below (w := w9.drew) hZ8 hb10); (have hR10 := heap_below (w := w9.drew) hR8 hb10); (have hv80 := Big.below (w := w9.drew) hv8 hb10); (have hbel10 := below_then hb10 hbel8.drew hz8); obtain ⟨l100, l101, -, -, -⟩ := box2 hL10; obtain ⟨z100, z101, -, -, -⟩ := box2 hZ10)
        | (go_at_call 50; refine (abs_c _ hv10).mono ?_; rintro e w11 ⟨s11, A11, n11, c11, rfl, hv11, hb11⟩; (have hL11 := heap_below hL10 hb11); (have hZ11 := heap_below hZ10 hb11); (have hR11 := heap_below hR10 hb11); (have hv81 := hv80.below hb11); (have hbel11 := below_then hb11 hbel10 hbel10.size); obtain ⟨l110, l111, -, -, -⟩ := box2 hL11; obtain ⟨z110, z111, -, -, -⟩ := box2 hZ11)
        | (go_at_call 49; refine (divided_c _ Z (scaled v q 9).natAbs way hv81 hv11 HTN.out HSC.out HPS.out ⟨hw1, hw2⟩).mono ?_; rintro e w12 ⟨s12, A12, n12, c12, rfl, hv12, hb12⟩; (have hL12 := heap_below hL11 hb12); (have hZ12 := heap_below hZ11 hb12); (have hR12 := heap_below hR11 hb12); (have hbel12 := below_then hb12 hbel11 hbel11.size); obtain ⟨l120, l121, -, -, -⟩ := box2 hL12; obtain ⟨z120, z121, -, -, -⟩ := box2 hZ12)
        | (go_at_call 37; refine (mk_c _ (r : Int) hv12).mono ?_; rw [HR0.out]; rintro e w13 ⟨rfl, hb13⟩; (have hL13 := heap_below hL12 hb13); (have hZ13 := heap_below hZ12 hb13); (have hR13 := heap_below hR12 hb13); (have hbel13 := below_then hb13 hbel12 hbel12.size); obtain ⟨l130, l131, -, -, -⟩ := box2 hL13; obtain ⟨z130, z131, -, -, -⟩ := box2 hZ13; obtain ⟨g0, g1, g2, g3, g4⟩ := box2 hR13; obtain ⟨R1, R2, R3⟩ := R; have hz13 := hbel13.size))
    all_goals
      go_wp2
      refine bodyPost_ret (v := .tuple #[.agg #[.int .i64 R1, .int .i64 R2], .int .i64 R3]) (by simp [results, Try.results18, go_sem, g0, g1]) rfl ⟨rfl, ?_⟩
      go_grown

theorem pquot_c (u p v q r way : Int) (w : World) (hu : -9223372036854775808 ≤ u ∧ u ≤ 9223372036854775807) (hp : -9223372036854775808 ≤ p ∧ p ≤ 9223372036854775807) (hv : -9223372036854775808 ≤ v ∧ v ≤ 9223372036854775807) (hq : -9223372036854775808 ≤ q ∧ q ≤ 9223372036854775807) :
    Calls Try.prog 18 #[.agg #[.int .i64 u, .int .i64 p], .agg #[.int .i64 v, .int .i64 q], .int .i64 r, .int .i64 way] w (RetD (quotR u p v q r way) w) := by
  by_cases h : decB u p = true ∧ decB v q = true
  · by_cases hW : wayF r way = 0
    · obtain ⟨hr, hw⟩ := wayF_ok hW
      by_cases hv0 : v = 0
      · rw [quotR_zero h.1 h.2 hr hw hv0]; exact pquot_zero u p v q r way w h.1 h.2 hW hv0
      · rw [quotR_val h.1 h.2 hr hw hv0]
        obtain ⟨k, rfl⟩ : ∃ k : Nat, r = (k : Int) := ⟨r.toNat, by omega⟩
        exact pquot_ok u p v q k way w h.1 h.2 (by omega) hw hv0
    · rw [quotR_way h.1 h.2 hW]; exact pquot_way u p v q r way w h.1 h.2 rfl hW
  · have h' : decB u p = false ∨ decB v q = false := by cases h1 : decB u p <;> cases h2 : decB v q <;> simp_all
    rw [quotR_bad h']; exact pquot_bad u p v q r way w h' hu hp hv hq

end Go.Proofs.Ytegabimiegdcjaa
