
/- The walk of the program's Times. -/
import Derived.Test.YtegabimiegdcjaaR10
import Derived.Test.YtegabimiegdcjaaRX
import Derived.Test.YtegabimiegdcjaaA3
namespace Go.Proofs.Ytegabimiegdcjaa
open Go.RowKit Limb
set_option linter.unusedSimpArgs false
set_option linter.unusedVariables false

set_option maxHeartbeats 4000000 in
set_option maxRecDepth 100000 in
theorem ptimes_ok (u p v q : Int) (w : World) (ha : decB u p = true) (hb : decB v q = true) :
    Calls Try.prog 13 #[.agg #[.int .i64 u, .int .i64 p], .agg #[.int .i64 v, .int .i64 q]] w (RetD (timesR u p v q) w) := by
  obtain ⟨a1, a2, a3, a4⟩ := decB_out ha
  obtain ⟨b1, b2, b3, b4⟩ := decB_out hb
  have SZ := Lib.hid (prod_190 ha hb)
  have HA := Lib.hid ha; have HB := Lib.hid hb
  have ht : timesR u p v q = if p + q ≤ 9 then made (u * v) (p + q) else if (u * v).natAbs % 10 ^ (p + q - 9).toNat ≠ 0 then (0, 0, 1) else made (sg (decide (u * v < 0)) ((u * v).natAbs / 10 ^ (p + q - 9).toNat)) 9 := by unfold timesR; rw [if_neg (by rw [ha, hb]; simp)]
  obtain ⟨R, hRe⟩ : ∃ R, R = timesR u p v q := ⟨_, rfl⟩
  rw [← hRe] at ht ⊢
  clear hRe
  have HT := Lib.hid ht
  clear ht
  clear ha hb
  have hall : allB [(u, p), (v, q)] = true := by rw [allB_two, HA.out, HB.out]; rfl
  have HALL := Lib.hid hall; clear hall
  go_enter Try.func13, Try.ntmps13
  go_wp2_with fail
  refine (chks_ok [(u, p), (v, q)] _ 2 2 _ (decs_two _ _ (by simp) (by omega) (by omega) (by omega) (by omega)) (by omega) HALL.out).mono ?_
  rintro e w3 ⟨rfl, hb3⟩
  have hX3 := heap_below (heap_old (heap_old (heap_old (heap_new w (.cells #[.int .i64 u, .int .i64 p] 23) rfl) _) _) _) hb3
  have hZ3 : w3.heap[w.heap.size + 1]? = some (.cells #[.int .i64 v, .int .i64 q] 23 (0, 0)) := heap_below (heap_old (heap_old (heap_new (w.alloc _) (.cells #[.int .i64 v, .int .i64 q] 23) (by simp)) _) _) hb3
  have hR3 : w3.heap[w.heap.size + 1 + 1]? = some (.cells #[.int .i64 0, .int .i64 0] 23 (0, 0)) := heap_below (heap_old (heap_new ((w.alloc _).alloc _) (.cells #[.int .i64 0, .int .i64 0] 23) (by simp)) _) hb3
  have hbel3 := below_then hb3 (B := w.heap.size) (w := w) (by go_grown) (by simp only [World.size_alloc]; omega)
  clear hb3
  have hz3 := hbel3.size
  have hlt3 := lt_heap hR3
  obtain ⟨x0, x1, -, -, -⟩ := box2 hX3
  obtain ⟨z0, z1, -, -, -⟩ := box2 hZ3
  go_upto_region 4 with fail
  go_cut [7, 8] (fun c c7 wx => ∃ (g : Nat) (s9 : Bool) (A9 : Option Addr) (n9 c9 : Nat), c = .pointer (some ⟨g, 0, none⟩) ∧ c7 = .int .i64 (p + q) ∧ w.heap.size + 1 + 1 < g ∧ wx.heap[g]? = some (.cells #[.bool s9, .slice A9 n9 c9] 51 (0, 0)) ∧ Big .u32 86 B32 wx s9 A9 n9 c9 (u * v) ∧ wx.heap[w.heap.size + 1 + 1]? = some (.cells #[.int .i64 0, .int .i64 0] 23 (0, 0)) ∧ Below w.heap.size w wx)
  case first =>
    go_region_held3 (fun w' => w'.cell? ⟨w.heap.size, 0, none⟩ = some (.int .i64 u) ∧ w'.cell? ⟨w.heap.size, 1, none⟩ = some (.int .i64 p) ∧ w'.cell? ⟨w.heap.size + 1, 0, none⟩ = some (.int .i64 v) ∧ w'.cell? ⟨w.heap.size + 1, 1, none⟩ = some (.int .i64 q))
      (first | (with_reducible exact ⟨x40, x41, z40, z41⟩) | (with_reducible exact ⟨x50, x51, z50, z51⟩) | (with_reducible exact ⟨x60, x61, z60, z61⟩) | (with_reducible (refine ⟨cell_past2 x60 ?_, cell_past2 x61 ?_, cell_past2 z60 ?_, cell_past2 z61 ?_⟩) <;> omega) | (exact ⟨x0, x1, z0, z1⟩) | (go_keep; done))
      (first
        | (go_at_call_of 34 (Value.int .i64 u); refine (of_c u _ (by omega) (by omega)).mono ?_; rintro e w4 ⟨s4, A4, n4, c4, rfl, hv4, hb4⟩; (have hX4 : w4.heap[w.heap.size]? = some (.cells #[.int .i64 u, .int .i64 p] 23 (0, 0)) := by first | exact heap_below (w := w3.drew) hX3 hb4 | exact heap_below (w := (w3.alloc (.cells #[.bool false, .slice none 0 0] 51)).drew) (heap_old hX3 (.cells #[.bool false, .slice none 0 0] 51)) hb4); (have hZ4 : w4.heap[w.heap.size + 1]? = some (.cells #[.int .i64 v, .int .i64 q] 23 (0, 0)) := by first | exact heap_below (w := w3.drew) hZ3 hb4 | exact heap_below (w := (w3.alloc (.cells #[.bool false, .slice none 0 0] 51)).drew) (heap_old hZ3 (.cells #[.bool false, .slice none 0 0] 51)) hb4); (have hR4 : w4.heap[w.heap.size + 1 + 1]? = some (.cells #[.int .i64 0, .int .i64 0] 23 (0, 0)) := by first | exact heap_below (w := w3.drew) hR3 hb4 | exact heap_below (w := (w3.alloc (.cells #[.bool false, .slice none 0 0] 51)).drew) (heap_old hR3 (.cells #[.bool false, .slice none 0 0] 51)) hb4); (have hbel4 : Below w.heap.size w w4 := by first | exact below_then hb4 hbel3.drew hz3 | exact below_then hb4 (hbel3.alloc hz3 (.cells #[.bool false, .slice none 0 0] 51)).drew (by show _ ≤ (w3.alloc (.cells #[.bool false, .slice none 0 0] 51)).heap.size; rw [World.size_alloc]; exact Nat.le_succ_of_le hz3)); obtain ⟨x40, x41, -, -, -⟩ := box2 hX4; obtain ⟨z40, z41, -, -, -⟩ := box2 hZ4; have hlt4 := lt_heap hR4; (try ((have hG4 := heap_below (w := (w3.alloc (.cells #[.bool false, .slice none 0 0] 51)).drew) (heap_new w3 (.cells #[.bool false, .slice none 0 0] 51) rfl) hb4); obtain ⟨g40, g41, g42, g43, g44⟩ := box2 hG4)))
        | (go_at_call_of 34 (Value.int .i64 v); refine (of_c v _ (by omega) (by omega)).mono ?_; rintro e w5 ⟨s5, A5, n5, c5, rfl, hv5, hb5⟩; (have hv45 : Big .u32 86 B32 w5 s4 A4 n4 c4 u := by first | exact hv4.below hb5 | exact (hv4.alloc (.cells #[.bool false, .slice none 0 0] 51)).below hb5); (have hX5 : w5.heap[w.heap.size]? = some (.cells #[.int .i64 u, .int .i64 p] 23 (0, 0)) := by first | exact heap_below (w := w4) hX4 hb5 | exact heap_below (w := (w4.alloc (.cells #[.bool false, .slice none 0 0] 51))) (heap_old hX4 (.cells #[.bool false, .slice none 0 0] 51)) hb5); (have hZ5 : w5.heap[w.heap.size + 1]? = some (.cells #[.int .i64 v, .int .i64 q] 23 (0, 0)) := by first | exact heap_below (w := w4) hZ4 hb5 | exact heap_below (w := (w4.alloc (.cells #[.bool false, .slice none 0 0] 51))) (heap_old hZ4 (.cells #[.bool false, .slice none 0 0] 51)) hb5); (have hR5 : w5.heap[w.heap.size + 1 + 1]? = some (.cells #[.int .i64 0, .int .i64 0] 23 (0, 0)) := by first | exact heap_below (w := w4) hR4 hb5 | exact heap_below (w := (w4.alloc (.cells #[.bool false, .slice none 0 0] 51))) (heap_old hR4 (.cells #[.bool false, .slice none 0 0] 51)) hb5); (have hbel5 : Below w.heap.size w w5 := by first | exact below_then hb5 hbel4 hbel4.size | exact below_then hb5 (hbel4.alloc hbel4.size (.cells #[.bool false, .slice none 0 0] 51)) (by rw [World.size_alloc]; exact Nat.le_succ_of_le hbel4.size)); obtain ⟨x50, x51, -, -, -⟩ := box2 hX5; obtain ⟨z50, z51, -, -, -⟩ := box2 hZ5; have hlt5 := lt_heap hR5; (try ((first | (have hG5 := heap_below hG4 hb5) | (have hG5 := heap_below (heap_new w4 (.cells #[.bool false, .slice none 0 0] 51) rfl) hb5)); obtain ⟨g50, g51, g52, g53, g54⟩ := box2 hG5)))
        | (go_at_call 39; refine (times_c _ (x := u) (y := v) (by first | exact hv45 | exact hv45.alloc (.cells #[.bool false, .slice none 0 0] 51)) (by first | exact hv5 | exact hv5.alloc (.cells #[.bool false, .slice none 0 0] 51)) (small_of_le (by omega) (by omega)) (small_of_le (by omega) (by omega))).mono ?_; rintro e w6 ⟨s6, A6, n6, c6, rfl, hv6, hb6⟩; (have hX6 : w6.heap[w.heap.size]? = some (.cells #[.int .i64 u, .int .i64 p] 23 (0, 0)) := by first | exact heap_below (w := w5) hX5 hb6 | exact heap_below (w := (w5.alloc (.cells #[.bool false, .slice none 0 0] 51))) (heap_old hX5 (.cells #[.bool false, .slice none 0 0] 51)) hb6); (have hZ6 : w6.heap[w.heap.size + 1]? = some (.cells #[.int .i64 v, .int .i64 q] 23 (0, 0)) := by first | exact heap_below (w := w5) hZ5 hb6 | exact heap_below (w := (w5.alloc (.cells #[.bool false, .slice none 0 0] 51))) (heap_old hZ5 (.cells #[.bool false, .slice none 0 0] 51)) hb6); (have hR6 : w6.heap[w.heap.size + 1 + 1]? = some (.cells #[.int .i64 0, .int .i64 0] 23 (0, 0)) := by first | exact heap_below (w := w5) hR5 hb6 | exact heap_below (w := (w5.alloc (.cells #[.bool false, .slice none 0 0] 51))) (heap_old hR5 (.cells #[.bool false, .slice none 0 0] 51)) hb6); (have hbel6 : Below w.heap.size w w6 := by first | exact below_then hb6 hbel5 hbel5.size | exact below_then hb6 (hbel5.alloc hbel5.size (.cells #[.bool false, .slice none 0 0] 51)) (by rw [World.size_alloc]; exact Nat.le_succ_of_le hbel5.size)); obtain ⟨x60, x61, -, -, -⟩ := box2 hX6; obtain ⟨z60, z61, -, -, -⟩ := box2 hZ6; have hlt6 := lt_heap hR6; (try ((first | (have hG6 := heap_below hG5 hb6) | (have hG6 := heap_below (heap_new w5 (.cells #[.bool false, .slice none 0 0] 51) rfl) hb6)); obtain ⟨g60, g61, g62, g63, g64⟩ := box2 hG6))))
    all_goals
      go_wp2_with fail
      go_meet
      first
        | exact ⟨w6.heap.size, s6, A6, n6, c6, rfl, (by first | rfl | exact congrArg _ (IntWalk.i64_in _ (by omega))), hlt6, heap_new _ _ rfl, hv6.alloc _, heap_old hR6 _, hbel6.alloc hbel6.size _⟩
        | exact ⟨_, s6, A6, n6, c6, rfl, (by first | rfl | exact congrArg _ (IntWalk.i64_in _ (by omega))), by omega, heap_set (heap_set hG6 0 _) 1 _, hv6.box2 hG6 (by decide) _ _, heap_far (heap_far hR6 (by dsimp only; omega) _) (by dsimp only; omega) _, (hbel6.setCell (by dsimp only; omega) _).setCell (by dsimp only; omega) _⟩
  case rest =>
    obtain ⟨g, s9, A9, n9, c9, rfl, rfl, hg, hG, hv9, hR9, hbel9⟩ := hcut
    clear hX3 hZ3 hR3 hbel3 x0 x1 z0 z1 hz3 hlt3
    obtain ⟨g0, g1, g2, g3, g4⟩ := box2 hG
    by_cases hs : p + q ≤ 9
    · have hRm := HT.out
      rw [if_pos hs] at hRm
      have HRM := Lib.hid hRm
      clear hRm HT
      go_wp2_with fail
      refine (mk_c _ (p + q) hv9).mono ?_
      rw [← HRM.out]
      clear HRM
      rintro e w7 ⟨rfl, hb7⟩
      have hR7 := heap_below hR9 hb7
      obtain ⟨r0, r1, r2, r3, r4⟩ := box2 hR7
      have hbel7 := below_then hb7 hbel9 hbel9.size
      obtain ⟨R1, R2, R3⟩ := R
      go_wp2
      refine bodyPost_ret (v := .tuple #[.agg #[.int .i64 R1, .int .i64 R2], .int .i64 R3]) (by simp [results, Try.results13, go_sem, r0, r1]) rfl ⟨rfl, ?_⟩
      go_grown
    · have hRm := HT.out
      rw [if_neg hs] at hRm
      have HRM := Lib.hid hRm
      clear hRm HT
      have hG2 := hG; have hR6 := hR9; have hbel6 := hbel9
      have hv2 := hv9
      clear hG hv9 hbel9 g0 g1 g2 g3 g4 hR9
      go_upto_region 6 with fail
      generalize wc = w6 at *
      obtain ⟨g0, g1, -, -, hlt6⟩ := box2 hG2
      have hz6 := hbel6.size
      have hltg := lt_heap hG2
      obtain ⟨K, hK⟩ : ∃ K : Nat, p + q - 9 = (K : Int) := ⟨(p + q - 9).toNat, by omega⟩
      have HK := Lib.hid hK
      have hK9 : K ≤ 9 := by omega
      have hKw : IntKind.i64.wrap (p + q - 9) = (K : Int) := by rw [IntWalk.i64_in _ (by omega)]; exact hK
      have HKW := Lib.hid hKw
      clear hK hKw
      go_cut [9, 10] (fun c c2 wx => ∃ (h k : Nat) (s3 : Bool) (A3 : Option Addr) (n3 c3 : Nat) (s4 : Bool) (A4 : Option Addr) (n4 c4 : Nat), c = .pointer (some ⟨h, 0, none⟩) ∧ c2 = .pointer (some ⟨k, 0, none⟩) ∧ g < h ∧ wx.heap[h]? = some (.cells #[.bool s3, .slice A3 n3 c3] 51 (0, 0)) ∧ wx.heap[k]? = some (.cells #[.bool s4, .slice A4 n4 c4] 51 (0, 0)) ∧ Big .u32 86 B32 wx s3 A3 n3 c3 (((u * v).natAbs / 10 ^ K : Nat) : Int) ∧ Big .u32 86 B32 wx s4 A4 n4 c4 (((u * v).natAbs % 10 ^ K : Nat) : Int) ∧
        wx.heap[g]? = some (.cells #[.bool s9, .slice A9 n9 c9] 51 (0, 0)) ∧ Big .u32 86 B32 wx s9 A9 n9 c9 (u * v) ∧ wx.heap[w.heap.size + 1 + 1]? = some (.cells #[.int .i64 0, .int .i64 0] 23 (0, 0)) ∧ Below w.heap.size w wx)
      case first =>
        have SM1 : Hid (Small (u * v)) := Lib.hid (Nat.lt_of_lt_of_le SZ.out (Nat.pow_le_pow_right (by omega) (by omega)))
        have SM2 : Hid (Small ((10 ^ K : Nat) : Int)) := Lib.hid (by unfold Small; rw [Int.natAbs_natCast]; exact Nat.pow_lt_pow_right (by omega) (by omega))
        have NZ : Hid (((10 ^ K : Nat) : Int) ≠ 0) := Lib.hid (by have := Nat.pow_pos (n := K) (show 0 < 10 by omega); omega)
        go_region_held3 (fun w' => w'.cell? ⟨g, 0, none⟩ = some (.bool s9) ∧ w'.cell? ⟨g, 1, none⟩ = some (.slice A9 n9 c9))
          (first | (with_reducible exact ⟨g70, g71⟩) | (with_reducible exact ⟨g80, g81⟩) | (with_reducible exact ⟨g0, g1⟩) | (refine cell_heap (T := 51) ?_; (repeat' (first | (with_reducible assumption) | (with_reducible refine heap_store2 ?_) | (with_reducible refine heap_far2 ?_ (by (first | omega | (dsimp only; omega) | (simp only [World.size_alloc, World.size_drew, World.size_setCell] <;> omega)))) | (with_reducible refine heap_far ?_ (by (first | omega | (dsimp only; omega) | (simp only [World.size_alloc, World.size_drew, World.size_setCell] <;> omega))) _) | (with_reducible refine heap_new _ _ ?_; (first | omega | (dsimp only; omega) | (simp only [World.size_alloc, World.size_drew, World.size_setCell] <;> omega)); done) | (with_reducible refine heap_drew ?_) | (with_reducible refine heap_old ?_ _))); done) | (go_keep; done))
          (first
            | (go_at_call 41; (first | rw [HKW.out] | rw [HK.out]); refine (power_c K _ (by omega)).mono ?_; rintro e w7 ⟨s7, A7, n7, c7, rfl, hv7, hb7⟩; have hb67 : Below w6.heap.size w6 w7 := below_then hb7 (by go_grown) (by first | exact Nat.le_refl _ | (simp only [World.size_alloc, World.size_drew]; omega)); have hG7 := heap_below hG2 hb67; have hR7 := heap_below hR6 hb67; have hv7a := hv2.below hb67; have hbel7 := below_then hb67 hbel6 hz6; obtain ⟨g70, g71, -, -, hlt7⟩ := box2 hG7; (first | have hN7 := news2d hb7 | have hN7 := news1d hb7 | have hN7 := True.intro))
            | (go_at_call 40; refine (by_c _ (x := u * v) (y := ((10 ^ K : Nat) : Int)) (by first | with_reducible exact hv7a | with_reducible exact hv7a.alloc _ | with_reducible exact (hv7a.alloc _).alloc _) (by first | with_reducible exact hv7 | with_reducible exact hv7.alloc _ | with_reducible exact (hv7.alloc _).alloc _) SM1.out SM2.out NZ.out).mono ?_; rintro e w8 ⟨s3, A3, n3, c3, s4, A4, n4, c4, rfl, hv3, hv4, hb8⟩; rw [Int.natAbs_natCast] at hv3 hv4; have hb78 : Below w7.heap.size w7 w8 := below_then hb8 (by go_grown) (by first | exact Nat.le_refl _ | (simp only [World.size_alloc]; omega)); have hv8a := hv7a.below hb78; have hG8 := heap_below hG7 hb78; have hR8 := heap_below hR7 hb78; have hbel8 := below_then hb78 hbel7 hbel7.size; have hl78 := hb78.size; obtain ⟨g80, g81, -, -, hlt8⟩ := box2 hG8; (first | (obtain ⟨hP7, hQ7⟩ := hN7; have hP8 := heap_below hP7 hb78; have hQ8 := heap_below hQ7 hb78; have hlP := lt_heap hP7; have hlQ := lt_heap hQ7; obtain ⟨p80, p81, p82, p83, p84⟩ := box2 hP8; obtain ⟨q80, q81, q82, q83, q84⟩ := box2 hQ8) | (have hP8 := heap_below hN7 hb78; have hlP := lt_heap hN7; obtain ⟨p80, p81, p82, p83, p84⟩ := box2 hP8; (try (have hQ8 := news1 hb8; obtain ⟨q80, q81, q82, q83, q84⟩ := box2 hQ8))) | (have hPQ := news2 hb8; obtain ⟨hP8, hQ8⟩ := hPQ; obtain ⟨p80, p81, p82, p83, p84⟩ := box2 hP8; obtain ⟨q80, q81, q82, q83, q84⟩ := box2 hQ8) | (have hP8 := news1 hb8; obtain ⟨p80, p81, p82, p83, p84⟩ := box2 hP8) | skip)))
        all_goals
          go_wp2_with fail
          go_meet
          exact ⟨_, _, s3, A3, n3, c3, s4, A4, n4, c4, rfl, rfl, (by (first | omega | (dsimp only; omega) | (simp only [World.size_alloc, World.size_drew, World.size_setCell] <;> omega))), (by (repeat' (first | (with_reducible assumption) | (with_reducible refine heap_store2 (x := .bool false) (y := .slice none 0 0) ?_) | (with_reducible refine heap_far2 ?_ (by (first | omega | (dsimp only; omega) | (simp only [World.size_alloc, World.size_drew, World.size_setCell] <;> omega)))) | (with_reducible refine heap_far ?_ (by (first | omega | (dsimp only; omega) | (simp only [World.size_alloc, World.size_drew, World.size_setCell] <;> omega))) _) | (with_reducible refine heap_new _ _ ?_; (first | omega | (dsimp only; omega) | (simp only [World.size_alloc, World.size_drew, World.size_setCell] <;> omega)); done) | (with_reducible refine heap_drew ?_) | (with_reducible refine heap_old ?_ _)))), (by (repeat' (first | (with_reducible assumption) | (with_reducible refine heap_store2 (x := .bool false) (y := .slice none 0 0) ?_) | (with_reducible refine heap_far2 ?_ (by (first | omega | (dsimp only; omega) | (simp only [World.size_alloc, World.size_drew, World.size_setCell] <;> omega)))) | (with_reducible refine heap_far ?_ (by (first | omega | (dsimp only; omega) | (simp only [World.size_alloc, World.size_drew, World.size_setCell] <;> omega))) _) | (with_reducible refine heap_new _ _ ?_; (first | omega | (dsimp only; omega) | (simp only [World.size_alloc, World.size_drew, World.size_setCell] <;> omega)); done) | (with_reducible refine heap_drew ?_) | (with_reducible refine heap_old ?_ _)))), (by (repeat' (first | (with_reducible assumption) | (with_reducible refine heap_store2 (x := .bool false) (y := .slice none 0 0) ?_) | (with_reducible refine heap_far2 ?_ (by (first | omega | (dsimp only; omega) | (simp only [World.size_alloc, World.size_drew, World.size_setCell] <;> omega)))) | (with_reducible refine heap_far ?_ (by (first | omega | (dsimp only; omega) | (simp only [World.size_alloc, World.size_drew, World.size_setCell] <;> omega))) _) | (with_reducible refine heap_new _ _ ?_; (first | omega | (dsimp only; omega) | (simp only [World.size_alloc, World.size_drew, World.size_setCell] <;> omega)); done) | (with_reducible refine heap_drew ?_) | (with_reducible refine heap_old ?_ _) | (with_reducible refine Big.box2 (cs := #[.bool false, .slice none 0 0]) (T := 51) ?_ ?_ (by decide) _ _) | (with_reducible refine Big.alloc ?_ _)))), (by (repeat' (first | (with_reducible assumption) | (with_reducible refine heap_store2 (x := .bool false) (y := .slice none 0 0) ?_) | (with_reducible refine heap_far2 ?_ (by (first | omega | (dsimp only; omega) | (simp only [World.size_alloc, World.size_drew, World.size_setCell] <;> omega)))) | (with_reducible refine heap_far ?_ (by (first | omega | (dsimp only; omega) | (simp only [World.size_alloc, World.size_drew, World.size_setCell] <;> omega))) _) | (with_reducible refine heap_new _ _ ?_; (first | omega | (dsimp only; omega) | (simp only [World.size_alloc, World.size_drew, World.size_setCell] <;> omega)); done) | (with_reducible refine heap_drew ?_) | (with_reducible refine heap_old ?_ _) | (with_reducible refine Big.box2 (cs := #[.bool false, .slice none 0 0]) (T := 51) ?_ ?_ (by decide) _ _) | (with_reducible refine Big.alloc ?_ _)))), (by (repeat' (first | (with_reducible assumption) | (with_reducible refine heap_store2 (x := .bool false) (y := .slice none 0 0) ?_) | (with_reducible refine heap_far2 ?_ (by (first | omega | (dsimp only; omega) | (simp only [World.size_alloc, World.size_drew, World.size_setCell] <;> omega)))) | (with_reducible refine heap_far ?_ (by (first | omega | (dsimp only; omega) | (simp only [World.size_alloc, World.size_drew, World.size_setCell] <;> omega))) _) | (with_reducible refine heap_new _ _ ?_; (first | omega | (dsimp only; omega) | (simp only [World.size_alloc, World.size_drew, World.size_setCell] <;> omega)); done) | (with_reducible refine heap_drew ?_) | (with_reducible refine heap_old ?_ _)))), (by (repeat' (first | (with_reducible assumption) | (with_reducible refine heap_store2 (x := .bool false) (y := .slice none 0 0) ?_) | (with_reducible refine heap_far2 ?_ (by (first | omega | (dsimp only; omega) | (simp only [World.size_alloc, World.size_drew, World.size_setCell] <;> omega)))) | (with_reducible refine heap_far ?_ (by (first | omega | (dsimp only; omega) | (simp only [World.size_alloc, World.size_drew, World.size_setCell] <;> omega))) _) | (with_reducible refine heap_new _ _ ?_; (first | omega | (dsimp only; omega) | (simp only [World.size_alloc, World.size_drew, World.size_setCell] <;> omega)); done) | (with_reducible refine heap_drew ?_) | (with_reducible refine heap_old ?_ _) | (with_reducible refine Big.box2 (cs := #[.bool false, .slice none 0 0]) (T := 51) ?_ ?_ (by decide) _ _) | (with_reducible refine Big.alloc ?_ _)))), (by (repeat' (first | (with_reducible assumption) | (with_reducible refine heap_store2 (x := .bool false) (y := .slice none 0 0) ?_) | (with_reducible refine heap_far2 ?_ (by (first | omega | (dsimp only; omega) | (simp only [World.size_alloc, World.size_drew, World.size_setCell] <;> omega)))) | (with_reducible refine heap_far ?_ (by (first | omega | (dsimp only; omega) | (simp only [World.size_alloc, World.size_drew, World.size_setCell] <;> omega))) _) | (with_reducible refine heap_new _ _ ?_; (first | omega | (dsimp only; omega) | (simp only [World.size_alloc, World.size_drew, World.size_setCell] <;> omega)); done) | (with_reducible refine heap_drew ?_) | (with_reducible refine heap_old ?_ _)))), (by go_grown)⟩
      case rest =>
        obtain ⟨h, k, s3, A3, n3, c3, s4, A4, n4, c4, rfl, rfl, hgh, hH, hQ, hv3, hv4, hG8, hv8, hR8, hbel8⟩ := hcut
        clear hG2 hv2 hR6 hbel6 g0 g1 hlt6 hz6 hltg
        have hRm := HRM.out
        rw [show (p + q - 9).toNat = K by have := HK.out; omega] at hRm
        generalize (u * v).natAbs / 10 ^ K = Q at *
        generalize (u * v).natAbs % 10 ^ K = M at *
        have hsb := fun h : u * v < 0 => Int.sign_eq_neg_one_of_neg h
        have hsc : ¬ u * v < 0 → ¬ (u * v).sign < 0 := fun h hh => h (Int.sign_neg_iff.1 hh)
        generalize hZ9 : u * v = Z9 at *
        clear HRM HK HKW SZ
        have hz8 := hbel8.size
        obtain ⟨q0, q1, -, -, -⟩ := box2 hQ
        by_cases hm : M = 0
        · rw [if_neg (fun h => h hm)] at hRm
          subst hm
          have HRM := Lib.hid hRm
          clear hRm
          have HS := Lib.hid (show ((0 : Nat) : Int).sign = 0 from rfl)
          have HSB := Lib.hid hsb; have HSC := Lib.hid hsc; clear hsb hsc hZ9
          go_wp2_with fail
          refine (sign_c _ hv4).mono ?_
          rintro e w10 ⟨rfl, hb10⟩
          rw [HS.out]
          have hH10 := heap_below hH hb10
          have hG10 := heap_below hG8 hb10
          have hR10 := heap_below hR8 hb10
          have hv10 := hv3.below hb10
          have hv8' := hv8.below hb10
          have hbel10 := below_then hb10 hbel8 hz8
          clear hH hQ hv3 hv4 hG8 hR8 hbel8 q0 q1 hb10 hz8
          have hv8a := hv8'
          obtain ⟨g0, g1, -, -, -⟩ := box2 hG10
          go_wp2_with fail
          refine (sign_c _ hv8a).mono ?_
          rintro e w20 ⟨rfl, hb20⟩
          have hH10 := heap_below hH10 hb20
          have hG10 := heap_below hG10 hb20
          have hR10 := heap_below hR10 hb20
          have hv10 := hv10.below hb20
          have hbel10 := below_then hb20 hbel10 hbel10.size
          clear hv8a hb20 g0 g1
          obtain ⟨h0, h1, -, -, hlh⟩ := box2 hH10
          obtain ⟨g0, g1, g2, g3, g4⟩ := box2 hG10
          by_cases hneg : Z9 < 0
          · rw [HSB.out hneg]
            rw [decide_eq_true hneg] at HRM
            clear hneg HSB HSC
            have HRM : R = made (-((Q : Nat) : Int)) 9 := HRM.out
            have HRM := Lib.hid HRM
            go_wp2_with fail
            refine (minus_c _ hv10).mono ?_
            rintro e w11 ⟨s5, A5, n5, c5, rfl, hv5, hb11⟩
            have hH11 := heap_below hH10 hb11
            have hG11 := heap_below hG10 hb11
            have hR11 := heap_below hR10 hb11
            have hbel11 := below_then hb11 hbel10 hbel10.size
            clear hH10 hG10 hR10 hbel10 hv10 hb11 h0 h1 g0 g1 g2 g3 g4 hlh
            obtain ⟨h0, h1, h2, h3, h4⟩ := box2 hH11
            obtain ⟨g0, g1, g2, g3, g4⟩ := box2 hG11
            have hhg : h ≠ g := by omega
            have hz11 := hbel11.size
            go_wp2_with fail
            have hG12 := heap_far (heap_far hG11 (p := ⟨h, 0, none⟩) (by dsimp only; omega) (.bool s5)) (p := ⟨h, 1, none⟩) (by dsimp only; omega) (.slice A5 n5 c5)
            have hv6 := (hv5.box2 hH11 (by decide) (.bool s5) (.slice A5 n5 c5)).box2 hG12 (by decide) (.bool s5) (.slice A5 n5 c5)
            have hR11' := heap_far (heap_far hR11 (p := ⟨h, 0, none⟩) (by dsimp only; omega) (.bool s5)) (p := ⟨h, 1, none⟩) (by dsimp only; omega) (.slice A5 n5 c5)
            have hR12 := heap_far (heap_far hR11' (p := ⟨g, 0, none⟩) (by dsimp only; omega) (.bool s5)) (p := ⟨g, 1, none⟩) (by dsimp only; omega) (.slice A5 n5 c5)
            have hbel12 := (((hbel11.setCell (p := ⟨h, 0, none⟩) (by dsimp only; omega) (.bool s5)).setCell (p := ⟨h, 1, none⟩) (by dsimp only; omega) (.slice A5 n5 c5)).setCell (p := ⟨g, 0, none⟩) (by dsimp only; omega) (.bool s5)).setCell (p := ⟨g, 1, none⟩) (by dsimp only; omega) (.slice A5 n5 c5)
            clear hG12 hR11' hv5 hH11 hG11 hR11 hbel11
            refine (mk_c _ 9 hv6).mono ?_
            rw [← HRM.out]
            clear HRM
            rintro e w13 ⟨rfl, hb13⟩
            have hR13 := heap_below hR12 hb13
            obtain ⟨r0, r1, r2, r3, r4⟩ := box2 hR13
            have hbel13 := below_then hb13 hbel12 hbel12.size
            clear hb13 hbel12
            obtain ⟨R1, R2, R3⟩ := R
            go_wp2
            refine bodyPost_ret (v := .tuple #[.agg #[.int .i64 R1, .int .i64 R2], .int .i64 R3]) (by simp [results, Try.results13, go_sem, r0, r1]) rfl ⟨rfl, ?_⟩
            go_grown
          · have hsn : 0 ≤ Z9.sign := (sgnR_tri (z := Z9) rfl).1.2 (by omega)
            rw [decide_eq_false hneg] at HRM
            clear hneg HSB HSC
            generalize Z9.sign = σ at *
            have HRM : R = made ((Q : Nat) : Int) 9 := HRM.out
            have HRM := Lib.hid HRM
            have hz10 := hbel10.size
            go_wp2_with fail
            have hv6 := hv10.box2 hG10 (by decide) (.bool s3) (.slice A3 n3 c3)
            have hR12 := heap_far (heap_far hR10 (p := ⟨g, 0, none⟩) (by dsimp only; omega) (.bool s3)) (p := ⟨g, 1, none⟩) (by dsimp only; omega) (.slice A3 n3 c3)
            have hbel12 := (hbel10.setCell (p := ⟨g, 0, none⟩) (by dsimp only; omega) (.bool s3)).setCell (p := ⟨g, 1, none⟩) (by dsimp only; omega) (.slice A3 n3 c3)
            clear hv10 hG10 hR10 hbel10
            refine (mk_c _ 9 hv6).mono ?_
            rw [← HRM.out]
            clear HRM
            rintro e w13 ⟨rfl, hb13⟩
            have hR13 := heap_below hR12 hb13
            obtain ⟨r0, r1, r2, r3, r4⟩ := box2 hR13
            have hbel13 := below_then hb13 hbel12 hbel12.size
            clear hb13 hbel12
            obtain ⟨R1, R2, R3⟩ := R
            go_wp2
            refine bodyPost_ret (v := .tuple #[.agg #[.int .i64 R1, .int .i64 R2], .int .i64 R3]) (by simp [results, Try.results13, go_sem, r0, r1]) rfl ⟨rfl, ?_⟩
            go_grown
        · rw [if_pos hm] at hRm
          subst hRm
          have HS := Lib.hid (show ((M : Nat) : Int).sign = 1 from Int.sign_eq_one_of_pos (by omega))
          clear hsb hsc hZ9
          go_wp2_with fail
          refine (sign_c _ hv4).mono ?_
          rintro e w10 ⟨rfl, hb10⟩
          rw [HS.out]
          have hR10 := heap_below hR8 hb10
          have hbel10 := below_then hb10 hbel8 hz8
          clear hH hQ hv3 hv4 hG8 hR8 hbel8 q0 q1 hb10 hz8
          obtain ⟨r0, r1, r2, r3, r4⟩ := box2 hR10
          have hz10 := hbel10.size
          go_wp2
          refine bodyPost_ret (v := .tuple #[.agg #[.int .i64 0, .int .i64 0], .int .i64 1]) (by simp [results, Try.results13, go_sem, r0, r1]) rfl ⟨rfl, ?_⟩
          go_grown

set_option maxHeartbeats 1000000 in
theorem ptimes_bad (u p v q : Int) (w : World) (h : decB u p = false ∨ decB v q = false) (hu : -9223372036854775808 ≤ u ∧ u ≤ 9223372036854775807) (hp : -9223372036854775808 ≤ p ∧ p ≤ 9223372036854775807) (hv : -9223372036854775808 ≤ v ∧ v ≤ 9223372036854775807) (hq : -9223372036854775808 ≤ q ∧ q ≤ 9223372036854775807) :
    Calls Try.prog 13 #[.agg #[.int .i64 u, .int .i64 p], .agg #[.int .i64 v, .int .i64 q]] w (RetD (0, 0, 1) w) := by
  have hall : allB [(u, p), (v, q)] = false := by rw [allB_two]; rcases h with h | h <;> rw [h] <;> simp
  have HALL := Lib.hid hall; clear hall h
  go_enter Try.func13, Try.ntmps13
  go_wp2_with fail
  refine (chks_bad [(u, p), (v, q)] _ 2 2 _ (decs_two _ _ (by simp) (by omega) (by omega) (by omega) (by omega)) (by omega) HALL.out).mono ?_
  rintro e w3 ⟨rfl, hb3⟩
  have hR3 : w3.heap[w.heap.size + 1 + 1]? = some (.cells #[.int .i64 0, .int .i64 0] 23 (0, 0)) := heap_below (heap_old (heap_new ((w.alloc _).alloc _) (.cells #[.int .i64 0, .int .i64 0] 23) (by simp)) _) hb3
  obtain ⟨g0, g1, g2, g3, g4⟩ := box2 hR3
  have hbel3 := below_then hb3 (B := w.heap.size) (w := w) (by go_grown) (by simp only [World.size_alloc]; omega)
  clear hb3
  have hz3 := hbel3.size
  go_wp2
  refine bodyPost_ret (v := .tuple #[.agg #[.int .i64 0, .int .i64 0], .int .i64 1]) (by simp [results, Try.results13, go_sem, g0, g1]) rfl ⟨rfl, ?_⟩
  go_grown

end Go.Proofs.Ytegabimiegdcjaa
