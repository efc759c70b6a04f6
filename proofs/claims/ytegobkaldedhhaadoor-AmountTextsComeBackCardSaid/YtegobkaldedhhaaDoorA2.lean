
/- The walks of package amount: Value, Made, Compare, Sum. -/
import Derived.Test.YtegobkaldedhhaaDoorA1
namespace Go.Proofs.YtegobkaldedhhaaDoor
open Go.RowKit Limb

theorem value_c (u p : Int) (w : World) (h : decB u p = true) :
    Calls Tryd.prog 75 #[.agg #[.int .i64 u, .int .i64 p]] w (Makes .u32 118 B32 w (scaled u p 9)) := by
  have hp := decB_out h
  go_enter Tryd.func75, Tryd.ntmps75
  go_wp2_with fail
  refine (scaled_c u p 9 _ h (by omega) (by omega)).mono ?_
  rintro e w1 ⟨s1, A1, n1, c1, rfl, hv, hb⟩
  have hB := heap_below (heap_new (w.alloc _) _ rfl) hb
  simp only [World.size_alloc] at hB
  obtain ⟨g0, g1, g2, g3, g4⟩ := box2 hB
  go_wp2
  refine bodyPost_ret (v := .agg #[.bool s1, .slice A1 n1 c1]) (by simp [results, Tryd.results75, go_sem, g0, g1]) rfl ⟨s1, A1, n1, c1, rfl, hv.box2 hB (by decide) _ _, ?_⟩
  go_grown
  exact below_then hb (by go_grown) (by simp only [World.size_alloc]; omega)

theorem made_fit (z p : Int) (h : z.natAbs ≤ 1000000000000000) : made z p = (z, p, 0) ∧ fitV z 1000000000000000 = z ∧ fitB z 1000000000000000 = true := by
  unfold made fitV fitB; simp [h]
theorem made_not (z p : Int) (h : ¬ z.natAbs ≤ 1000000000000000) : made z p = (0, 0, 1) ∧ fitV z 1000000000000000 = 0 ∧ fitB z 1000000000000000 = false := by
  unfold made fitV fitB; simp [h]

set_option maxHeartbeats 1000000 in
theorem mk_c (w : World) {s : Bool} {A : Option Addr} {n c : Nat} {z : Int} (p : Int) (h : Big .u32 118 B32 w s A n c z) :
    Calls Tryd.prog 120 #[.agg #[.bool s, .slice A n c], .int .i64 p] w (RetD (made z p) w) := by
  by_cases hz : z.natAbs ≤ 1000000000000000
  · obtain ⟨e1, e2, e3⟩ := made_fit z p hz
    rw [e1]
    have E2 := Lib.hid e2; have E3 := Lib.hid e3; clear e1 e2 e3
    go_enter Tryd.func120, Tryd.ntmps120
    go_wp2_with fail
    refine (int_c _ 1000000000000000 ((h.alloc _).alloc _) (by omega)).mono ?_
    rintro e w1 ⟨rfl, hb⟩
    rw [E2.out, E3.out]
    have hB := heap_below (heap_new (w.alloc _) _ rfl) hb
    simp only [World.size_alloc] at hB
    obtain ⟨g0, g1, g2, g3, g4⟩ := box2 hB
    go_wp2
    refine bodyPost_ret (v := .tuple #[.agg #[.int .i64 z, .int .i64 p], .int .i64 0]) (by simp [results, Tryd.results120, go_sem, g0, g1]) rfl ⟨rfl, ?_⟩
    go_grown
    exact below_then hb (by go_grown) (by simp only [World.size_alloc]; omega)
  · obtain ⟨e1, e2, e3⟩ := made_not z p hz
    rw [e1]
    have E2 := Lib.hid e2; have E3 := Lib.hid e3; clear e1 e2 e3
    go_enter Tryd.func120, Tryd.ntmps120
    go_wp2_with fail
    refine (int_c _ 1000000000000000 ((h.alloc _).alloc _) (by omega)).mono ?_
    rintro e w1 ⟨rfl, hb⟩
    rw [E2.out, E3.out]
    have hB := heap_below (heap_new (w.alloc _) _ rfl) hb
    simp only [World.size_alloc] at hB
    obtain ⟨g0, g1, g2, g3, g4⟩ := box2 hB
    go_wp2
    refine bodyPost_ret (v := .tuple #[.agg #[.int .i64 0, .int .i64 0], .int .i64 1]) (by simp [results, Tryd.results120, go_sem, g0, g1]) rfl ⟨rfl, ?_⟩
    go_grown
    exact below_then hb (by go_grown) (by simp only [World.size_alloc]; omega)

def RetIF (n f : Int) (w : World) (e : Ending) (w' : World) : Prop := e = .returned (.tuple #[.int .i64 n, .int .i64 f]) ∧ Below w.heap.size w w'

set_option maxHeartbeats 2000000 in
set_option maxRecDepth 100000 in
theorem cmp_ok (u p v q : Int) (w : World) (ha : decB u p = true) (hb : decB v q = true) :
    Calls Tryd.prog 26 #[.agg #[.int .i64 u, .int .i64 p], .agg #[.int .i64 v, .int .i64 q]] w (RetIF (scaled u p 9 - scaled v q 9).sign 0 w) := by
  have h1 := decB_out ha
  have h2 := decB_out hb
  have hall : allB [(u, p), (v, q)] = true := by rw [allB_two, ha, hb]; rfl
  have HA := Lib.hid ha; have HB := Lib.hid hb; have HALL := Lib.hid hall; clear ha hb hall
  go_enter Tryd.func26, Tryd.ntmps26
  go_wp2_with fail
  refine (chks_ok [(u, p), (v, q)] _ 2 2 _ (decs_two _ _ (by simp) (by omega) (by omega) (by omega) (by omega)) (by omega) HALL.out).mono ?_
  rintro e w3 ⟨rfl, hb3⟩
  have hB1 := heap_below (heap_old (heap_old (heap_new w (.cells #[.int .i64 u, .int .i64 p] 40) rfl) _) _) hb3
  have hB2 := heap_below (heap_old (heap_new (w.alloc _) (.cells #[.int .i64 v, .int .i64 q] 40) rfl) _) hb3
  simp only [World.size_alloc] at hB2
  have hbel := below_then hb3 (B := w.heap.size) (w := w) (by go_grown) (by simp only [World.size_alloc]; omega)
  clear hb3
  have hz3 := hbel.size
  obtain ⟨c10, c11, -, -, z1⟩ := box2 hB1
  obtain ⟨c20, c21, -, -, z2⟩ := box2 hB2
  go_wp2_with fail
  go_region_held3 (fun w' => w'.cell? ⟨w.heap.size, 0, none⟩ = some (.int .i64 u) ∧ w'.cell? ⟨w.heap.size, 1, none⟩ = some (.int .i64 p) ∧ w'.cell? ⟨w.heap.size + 1, 0, none⟩ = some (.int .i64 v) ∧ w'.cell? ⟨w.heap.size + 1, 1, none⟩ = some (.int .i64 q))
    (first | (go_keep; done) | (refine ⟨?_, ?_, ?_, ?_⟩ <;> assumption))
    (first
      | (go_at_call_of 75 (Value.agg #[.int .i64 u, .int .i64 p]); refine (value_c u p _ HA.out).mono ?_; rintro e w4 ⟨s4, A4, n4, c4, rfl, hv4, hb4⟩; (have hC1 := heap_below (w := w3.drew) hB1 hb4); (have hC2 := heap_below (w := w3.drew) hB2 hb4); (have hbel4 := below_then hb4 hbel.drew hz3); obtain ⟨r10, r11, -, -, -⟩ := box2 hC1; obtain ⟨r20, r21, -, -, -⟩ := box2 hC2)
      | (go_at_call_of 75 (Value.agg #[.int .i64 v, .int .i64 q]); refine (value_c v q _ HB.out).mono ?_; rintro e w5 ⟨s5, A5, n5, c5, rfl, hv5, hb5⟩; (have hE1 := heap_below hC1 hb5); (have hE2 := heap_below hC2 hb5); (have hbel5 := below_then hb5 hbel4 hbel4.size); obtain ⟨t10, t11, -, -, -⟩ := box2 hE1; obtain ⟨t20, t21, -, -, -⟩ := box2 hE2)
      | (go_at_call 81; refine (compareI_c _ (hv4.below hb5) hv5 (scaled_small HA.out (by omega)) (scaled_small HB.out (by omega))).mono ?_; rintro e w6 ⟨rfl, hb6⟩; (have hF1 := heap_below hE1 hb6); (have hF2 := heap_below hE2 hb6); (have hbel6 := below_then hb6 hbel5 hbel5.size); obtain ⟨u10, u11, -, -, -⟩ := box2 hF1; obtain ⟨u20, u21, -, -, -⟩ := box2 hF2))
  go_wp2
  go_ret2
  exact ⟨rfl, hbel6⟩

set_option maxHeartbeats 1000000 in
theorem cmp_bad (u p v q : Int) (w : World) (h : decB u p = false ∨ decB v q = false) (hu : -9223372036854775808 ≤ u ∧ u ≤ 9223372036854775807) (hp : -9223372036854775808 ≤ p ∧ p ≤ 9223372036854775807) (hv : -9223372036854775808 ≤ v ∧ v ≤ 9223372036854775807) (hq : -9223372036854775808 ≤ q ∧ q ≤ 9223372036854775807) :
    Calls Tryd.prog 26 #[.agg #[.int .i64 u, .int .i64 p], .agg #[.int .i64 v, .int .i64 q]] w (RetIF 0 1 w) := by
  have hall : allB [(u, p), (v, q)] = false := by rw [allB_two]; rcases h with h | h <;> rw [h] <;> simp
  have HALL := Lib.hid hall; clear hall h
  go_enter Tryd.func26, Tryd.ntmps26
  go_wp2_with fail
  refine (chks_bad [(u, p), (v, q)] _ 2 2 _ (decs_two _ _ (by simp) (by omega) (by omega) (by omega) (by omega)) (by omega) HALL.out).mono ?_
  rintro e w3 ⟨rfl, hb3⟩
  go_wp2
  go_ret2
  exact ⟨rfl, below_then hb3 (B := w.heap.size) (w := w) (by go_grown) (by simp only [World.size_alloc]; omega)⟩

end Go.Proofs.YtegobkaldedhhaaDoor
