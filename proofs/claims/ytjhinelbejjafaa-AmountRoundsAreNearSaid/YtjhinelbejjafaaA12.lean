
/- The walk of the law AmountRoundsAreNear. -/
import Derived.Test.YtjhinelbejjafaaA11
import Derived.Test.YtjhinelbejjafaaRB
namespace Go.Proofs.Ytjhinelbejjafaa
open Go.RowKit Limb

set_option maxHeartbeats 4000000 in
set_option maxRecDepth 100000 in
theorem law_near_bad (u p q v : Int) (w : World) {x y f : Int} (h : roundedR u p q v = (x, y, f)) (hf : f ≠ 0) :
    Calls Try.prog 5 #[.agg #[.int .i64 u, .int .i64 p], .int .i64 q, .int .i64 v] w fun e w' => e = .returned (.bool true) ∧ Below w.heap.size w w' := by
  obtain rfl := roundedR_fault h hf
  have H := Lib.hid h
  have hf' : (f != 0) = true := by simpa using hf
  clear h hf
  go_enter Try.func5, Try.ntmps5
  go_wp2_with fail
  refine (rounded_c u p q v _).mono ?_
  rintro e w1 ⟨rfl, hb1⟩
  rw [H.out]
  have hbel1 := below_then hb1 (B := w.heap.size) (w := w) (by go_grown) (by simp)
  go_wp2_with fail
  refine (awake_c _).mono ?_
  rintro e w2 ⟨rfl, hb2⟩
  go_wp2
  go_ret
  exact ⟨rfl, below_then hb2 (hbel1.alloc hbel1.size _) (by have := hbel1.size; simp; omega)⟩

/-- What the law wants of the sign. -/
def Side (v u σ : Int) : Prop := (v = 5 → ¬ 0 < σ) ∧ (v = 6 → ¬ σ < 0) ∧ (v = 3 → (0 < u → ¬ 0 < σ) ∧ (u < 0 → ¬ σ < 0)) ∧ (v = 4 → (0 < u → ¬ σ < 0) ∧ (u < 0 → ¬ 0 < σ))
theorem scaled_sign (u p : Int) : (0 < u ↔ 0 < scaled u p 9) ∧ (u < 0 ↔ scaled u p 9 < 0) := by
  unfold scaled
  have h : 0 < 10 ^ (9 - p.toNat) := Nat.pow_pos (by omega)
  generalize 10 ^ (9 - p.toNat) = k at *
  rcases Int.lt_trichotomy u 0 with h1 | h1 | h1
  · have := Int.mul_neg_of_neg_of_pos h1 (show (0 : Int) < k by omega); omega
  · subst h1; simp
  · have := Int.mul_pos h1 (show (0 : Int) < k by omega); omega
theorem near_side {u p q v x y : Int} (h : roundedR u p q v = (x, y, 0)) : Side v u (scaled x y 9 - scaled u p 9).sign ∧ (scaled x y 9 - scaled u p 9).natAbs < 10 ^ (9 - q.toNat) := by
  obtain ⟨_, _, _, rfl, hx, _⟩ := roundedR_ok h
  have hn := rnd_near (scaled u p 9) (b := 10 ^ (9 - y.toNat)) (Nat.pow_pos (by omega)) v
  rw [← hx, ← scaled_at] at hn
  obtain ⟨h1, h2, h3, h4, h5⟩ := hn
  have hs := scaled_sign u p
  have ht := sgn_tri (z := scaled x y 9 - scaled u p 9) rfl
  have hl := sgn_lt (z := scaled x y 9 - scaled u p 9) rfl
  generalize (scaled x y 9 - scaled u p 9).sign = σ at *
  refine ⟨⟨fun e => ?_, fun e => ?_, fun e => ⟨fun e2 => ?_, fun e2 => ?_⟩, fun e => ⟨fun e2 => ?_, fun e2 => ?_⟩⟩, h1⟩
  · have := h2 e; omega
  · have := h3 e; omega
  · have := (h4 e).1 (by omega); omega
  · have := (h4 e).2 (by omega); omega
  · have := (h5 e).1 (by omega); omega
  · have := (h5 e).2 (by omega); omega

/-- The sign struck. -/
theorem big_abs {w : World} {s : Bool} {A : Option Addr} {n c : Nat} {z : Int} (h : Big .i64 3 B6 w s A n c z) : Big .i64 3 B6 w false A n c ((z.natAbs : Nat) : Int) := by
  obtain ⟨l, hd, h1, h2, h3, h4, h5, rfl⟩ := h
  exact ⟨l, hd, h1, h2, h3, h4, (fun h => by cases h), by rw [sg_natAbs]; rfl⟩
theorem small_far {a K : Nat} (h : a < 10 ^ K) (hK : K ≤ 9) : Small ((a : Nat) : Int) := by
  unfold Small
  rw [Int.natAbs_natCast]
  exact Nat.lt_of_lt_of_le h (Nat.pow_le_pow_right (by omega) (by omega))
theorem neg_far {a K : Nat} (h : a < 10 ^ K) : (((a : Nat) : Int) - ((10 ^ K : Nat) : Int)).sign = -1 := Int.sign_eq_neg_one_of_neg (by omega)

set_option maxHeartbeats 4000000 in
set_option maxRecDepth 100000 in
theorem law_near_ok (u p q v : Int) (w : World) {x y : Int} (h : roundedR u p q v = (x, y, 0)) :
    Calls Try.prog 5 #[.agg #[.int .i64 u, .int .i64 p], .int .i64 q, .int .i64 v] w fun e w' => e = .returned (.bool true) ∧ Below w.heap.size w w' := by
  obtain ⟨hd, hq, hv, hyq, -, -⟩ := roundedR_ok h
  obtain ⟨hside, hnear⟩ := near_side h
  have HA := Lib.hid (roundedR_again h)
  have HDX := Lib.hid (roundedR_dec h)
  have H := Lib.hid h; have HD := Lib.hid hd
  subst hyq
  obtain ⟨σ, hσ⟩ : ∃ σ, (scaled x y 9 - scaled u p 9).sign = σ := ⟨_, rfl⟩
  rw [hσ] at hside
  have HS := Lib.hid hσ; have HN := Lib.hid hnear; have HSD := Lib.hid hside
  obtain ⟨hv1, hv2⟩ := hv
  obtain ⟨hq1, hq2⟩ := hq
  clear h hd hσ hnear hside
  go_enter Try.func5, Try.ntmps5
  go_wp2_with fail
  refine (rounded_c u p y v _).mono ?_
  rintro e w1 ⟨rfl, hb1⟩
  rw [H.out]
  have hX1 := heap_below (heap_new w (.cells #[.int .i64 u, .int .i64 p] 24) rfl) hb1
  have hbel1 := below_then hb1 (B := w.heap.size) (w := w) (by go_grown) (by simp)
  clear hb1
  go_wp2_with fail
  have hX2 := heap_old hX1 (.cells #[.int .i64 x, .int .i64 y] 24)
  have hZ2 := heap_new w1 (.cells #[.int .i64 x, .int .i64 y] 24) rfl
  have hbel2 := hbel1.alloc hbel1.size (.cells #[.int .i64 x, .int .i64 y] 24)
  have hlX : w.heap.size < w1.heap.size := lt_heap hX1
  generalize w1.heap.size = N at hZ2 hlX ⊢
  generalize w1.alloc (.cells #[.int .i64 x, .int .i64 y] 24) = w2 at hX2 hZ2 hbel2 ⊢
  clear hX1 hbel1
  refine (rounded_c x y y v _).mono ?_
  rintro e w3 ⟨rfl, hb3⟩
  rw [HA.out]
  have hX3 := heap_below hX2 hb3
  have hZ3 := heap_below hZ2 hb3
  have hbel3 := below_then hb3 hbel2 hbel2.size
  clear hX2 hZ2 hbel2 hb3
  obtain ⟨z0, z1, -, -, z4⟩ := box2 hZ3
  go_wp2_with fail
  refine (awake_c _).mono ?_
  rintro e w4 ⟨rfl, hb4⟩
  have hX4 := heap_below (heap_old hX3 _) hb4
  have hZ4 := heap_below (heap_old hZ3 _) hb4
  have hbel4 := below_then hb4 (hbel3.alloc hbel3.size _) (by have := hbel3.size; simp; omega)
  clear hX3 hZ3 hbel3 hb4 z0 z1 z4
  obtain ⟨x0, x1, -, -, -⟩ := box2 hX4
  obtain ⟨z0, z1, -, -, -⟩ := box2 hZ4
  go_wp2_with fail
  refine (cmp_ok x y u p _ HDX.out HD.out).mono ?_
  rintro e w5 ⟨rfl, hb5⟩
  rw [HS.out]
  have hX5 := heap_below hX4 hb5
  have hZ5 := heap_below hZ4 hb5
  have hbel5 := below_then hb5 hbel4 hbel4.size
  clear hX4 hZ4 hbel4 hb5 x0 x1 z0 z1
  obtain ⟨x0, x1, -, -, -⟩ := box2 hX5
  go_upto_region 8 with fail
  go_cut [68] (fun c wx => c = .bool false ∧ w5 = wx)
  case first =>
    obtain ⟨d5, d6, d3, d4⟩ := HSD.out
    have hv6 : v = 1 ∨ v = 2 ∨ v = 3 ∨ v = 4 ∨ v = 5 ∨ v = 6 := by omega
    rcases hv6 with rfl | rfl | rfl | rfl | rfl | rfl
    · clear d5 d6 d3 d4; go_wp2_with fail; go_meet; exact ⟨rfl, rfl⟩
    · clear d5 d6 d3 d4; go_wp2_with fail; go_meet; exact ⟨rfl, rfl⟩
    · clear d5 d6 d3 d4; go_wp2_with fail; go_meet; exact ⟨rfl, rfl⟩
    · clear d5 d6 d3 d4; go_wp2_with fail; go_meet; exact ⟨rfl, rfl⟩
    · have e := d5 rfl
      clear d5 d6 d3 d4
      go_wp2_with fail; go_meet; exact ⟨by simp <;> omega, rfl⟩
    · have e := d6 rfl
      clear d5 d6 d3 d4
      go_wp2_with fail; go_meet; exact ⟨by simp <;> omega, rfl⟩
  case rest =>
    obtain ⟨rfl, rfl⟩ := hcut
    go_upto_region 10 with fail
    go_cut [110] (fun c wx => c = .bool false ∧ w5 = wx)
    case first =>
      obtain ⟨d5, d6, d3, d4⟩ := HSD.out
      have hv6 : v = 1 ∨ v = 2 ∨ v = 3 ∨ v = 4 ∨ v = 5 ∨ v = 6 := by omega
      rcases hv6 with rfl | rfl | rfl | rfl | rfl | rfl
      · clear d5 d6 d3 d4; go_wp2_with fail; go_meet; exact ⟨rfl, rfl⟩
      · clear d5 d6 d3 d4; go_wp2_with fail; go_meet; exact ⟨rfl, rfl⟩
      · obtain ⟨a1, a2⟩ := d3 rfl
        clear d5 d6 d3 d4
        rcases Int.lt_trichotomy u 0 with hu | hu | hu
        · have e := a2 hu
          clear a1 a2
          go_wp2_with fail; go_meet; exact ⟨by simp <;> omega, rfl⟩
        · clear a1 a2
          subst hu
          go_wp2_with fail; go_meet; exact ⟨by simp, rfl⟩
        · have e := a1 hu
          clear a1 a2
          go_wp2_with fail; go_meet; exact ⟨by simp <;> omega, rfl⟩
      · obtain ⟨a1, a2⟩ := d4 rfl
        clear d5 d6 d3 d4
        rcases Int.lt_trichotomy u 0 with hu | hu | hu
        · have e := a2 hu
          clear a1 a2
          go_wp2_with fail; go_meet; exact ⟨by simp <;> omega, rfl⟩
        · clear a1 a2
          subst hu
          go_wp2_with fail; go_meet; exact ⟨by simp, rfl⟩
        · have e := a1 hu
          clear a1 a2
          go_wp2_with fail; go_meet; exact ⟨by simp <;> omega, rfl⟩
      · clear d5 d6 d3 d4; go_wp2_with fail; go_meet; exact ⟨rfl, rfl⟩
      · clear d5 d6 d3 d4; go_wp2_with fail; go_meet; exact ⟨rfl, rfl⟩
    case rest =>
      obtain ⟨rfl, rfl⟩ := hcut
      obtain ⟨z0, z1, -, -, -⟩ := box2 hZ5
      go_upto_region 12 with fail
      have hz5 := hbel5.size
      have hlt5 : N < w5.heap.size := lt_heap hZ5
      go_cut [11] (fun c wx => ∃ (g : Nat) (s9 : Bool) (A9 : Option Addr) (n9 c9 : Nat), c = .pointer (some ⟨g, 0, none⟩) ∧ w.heap.size ≤ g ∧ wx.heap[g]? = some (.cells #[.bool s9, .slice A9 n9 c9] 41 (0, 0)) ∧ Big .i64 3 B6 wx s9 A9 n9 c9 (scaled x y 9 + -(scaled u p 9)) ∧ Below w.heap.size w wx)
      case first =>
        go_region_held3 (fun w' => w'.cell? ⟨N, 0, none⟩ = some (.int .i64 x) ∧ w'.cell? ⟨N, 1, none⟩ = some (.int .i64 y) ∧ w'.cell? ⟨w.heap.size, 0, none⟩ = some (.int .i64 u) ∧ w'.cell? ⟨w.heap.size, 1, none⟩ = some (.int .i64 p))
          (first | (with_reducible exact ⟨z60, z61, x60, x61⟩) | (with_reducible exact ⟨z70, z71, x70, x71⟩) | (with_reducible exact ⟨z80, z81, x80, x81⟩) | (with_reducible exact ⟨z90, z91, x90, x91⟩) | (with_reducible (refine ⟨cell_past2 z90 ?_, cell_past2 z91 ?_, cell_past2 x90 ?_, cell_past2 x91 ?_⟩) <;> omega) | (exact ⟨z0, z1, x0, x1⟩) | (go_keep; done))
          (first
            | (go_at_call_of 23 (Value.agg #[Value.int .i64 x, Value.int .i64 y]); refine (at_r x y 9 _ HDX.out (by omega) (by omega)).mono ?_; rintro e w6 ⟨s6, A6, n6, c6, rfl, hv6, hb6⟩; (have hX6 : w6.heap[w.heap.size]? = some (.cells #[.int .i64 u, .int .i64 p] 24 (0, 0)) := by first | exact heap_below (w := w5.drew) hX5 hb6 | exact heap_below (w := (w5.alloc (.cells #[.bool false, .slice none 0 0] 41)).drew) (heap_old hX5 (.cells #[.bool false, .slice none 0 0] 41)) hb6); (have hZ6 : w6.heap[N]? = some (.cells #[.int .i64 x, .int .i64 y] 24 (0, 0)) := by first | exact heap_below (w := w5.drew) hZ5 hb6 | exact heap_below (w := (w5.alloc (.cells #[.bool false, .slice none 0 0] 41)).drew) (heap_old hZ5 (.cells #[.bool false, .slice none 0 0] 41)) hb6); (have hbel6 : Below w.heap.size w w6 := by first | exact below_then hb6 hbel5.drew hz5 | exact below_then hb6 (hbel5.alloc hz5 (.cells #[.bool false, .slice none 0 0] 41)).drew (by show _ ≤ (w5.alloc (.cells #[.bool false, .slice none 0 0] 41)).heap.size; rw [World.size_alloc]; exact Nat.le_succ_of_le hz5)); obtain ⟨x60, x61, -, -, -⟩ := box2 hX6; obtain ⟨z60, z61, -, -, hlt6⟩ := box2 hZ6; (try ((have hG6 := heap_below (w := (w5.alloc (.cells #[.bool false, .slice none 0 0] 41)).drew) (heap_new w5 (.cells #[.bool false, .slice none 0 0] 41) rfl) hb6); obtain ⟨g60, g61, g62, g63, g64⟩ := box2 hG6)))
            | (go_at_call_of 23 (Value.agg #[Value.int .i64 u, Value.int .i64 p]); refine (at_r u p 9 _ HD.out (decB_out HD.out).2.2.2 (by omega)).mono ?_; rintro e w7 ⟨s7, A7, n7, c7, rfl, hv7, hb7⟩; (have hv67 : Big .i64 3 B6 w7 s6 A6 n6 c6 (scaled x y 9) := by first | exact hv6.below hb7 | exact (hv6.alloc (.cells #[.bool false, .slice none 0 0] 41)).below hb7); (have hX7 : w7.heap[w.heap.size]? = some (.cells #[.int .i64 u, .int .i64 p] 24 (0, 0)) := by first | exact heap_below hX6 hb7 | exact heap_below (heap_old hX6 (.cells #[.bool false, .slice none 0 0] 41)) hb7); (have hZ7 : w7.heap[N]? = some (.cells #[.int .i64 x, .int .i64 y] 24 (0, 0)) := by first | exact heap_below hZ6 hb7 | exact heap_below (heap_old hZ6 (.cells #[.bool false, .slice none 0 0] 41)) hb7); (have hbel7 : Below w.heap.size w w7 := by first | exact below_then hb7 hbel6 hbel6.size | exact below_then hb7 (hbel6.alloc hbel6.size (.cells #[.bool false, .slice none 0 0] 41)) (by rw [World.size_alloc]; exact Nat.le_succ_of_le hbel6.size)); obtain ⟨x70, x71, -, -, -⟩ := box2 hX7; obtain ⟨z70, z71, -, -, hlt7⟩ := box2 hZ7; (try ((first | (have hG7 := heap_below hG6 hb7) | (have hG7 := heap_below (heap_new w6 (.cells #[.bool false, .slice none 0 0] 41) rfl) hb7)); obtain ⟨g70, g71, g72, g73, g74⟩ := box2 hG7)))
            | (go_at_call 24; refine (minus_r (z := scaled u p 9) (by first | exact hv7 | exact hv7.alloc (.cells #[.bool false, .slice none 0 0] 41))).mono ?_; rintro e w8 ⟨s8, A8, n8, c8, rfl, hv8, hb8⟩; (have hv68 : Big .i64 3 B6 w8 s6 A6 n6 c6 (scaled x y 9) := by first | exact hv67.below hb8 | exact (hv67.alloc (.cells #[.bool false, .slice none 0 0] 41)).below hb8); (have hX8 : w8.heap[w.heap.size]? = some (.cells #[.int .i64 u, .int .i64 p] 24 (0, 0)) := by first | exact heap_below hX7 hb8 | exact heap_below (heap_old hX7 (.cells #[.bool false, .slice none 0 0] 41)) hb8); (have hZ8 : w8.heap[N]? = some (.cells #[.int .i64 x, .int .i64 y] 24 (0, 0)) := by first | exact heap_below hZ7 hb8 | exact heap_below (heap_old hZ7 (.cells #[.bool false, .slice none 0 0] 41)) hb8); (have hbel8 : Below w.heap.size w w8 := by first | exact below_then hb8 hbel7 hbel7.size | exact below_then hb8 (hbel7.alloc hbel7.size (.cells #[.bool false, .slice none 0 0] 41)) (by rw [World.size_alloc]; exact Nat.le_succ_of_le hbel7.size)); obtain ⟨x80, x81, -, -, -⟩ := box2 hX8; obtain ⟨z80, z81, -, -, hlt8⟩ := box2 hZ8; (try ((first | (have hG8 := heap_below hG7 hb8) | (have hG8 := heap_below (heap_new w7 (.cells #[.bool false, .slice none 0 0] 41) rfl) hb8)); obtain ⟨g80, g81, g82, g83, g84⟩ := box2 hG8)))
            | (go_at_call 22; refine (plus_r _ (x := scaled x y 9) (y := -(scaled u p 9)) (by first | exact hv68 | exact hv68.alloc (.cells #[.bool false, .slice none 0 0] 41)) (by first | exact hv8 | exact hv8.alloc (.cells #[.bool false, .slice none 0 0] 41)) (scaled_small HDX.out (by omega)) (small_neg (scaled_small HD.out (by omega)))).mono ?_; rintro e w9 ⟨s9, A9, n9, c9, rfl, hv9, hb9⟩; (have hX9 : w9.heap[w.heap.size]? = some (.cells #[.int .i64 u, .int .i64 p] 24 (0, 0)) := by first | exact heap_below hX8 hb9 | exact heap_below (heap_old hX8 (.cells #[.bool false, .slice none 0 0] 41)) hb9); (have hZ9 : w9.heap[N]? = some (.cells #[.int .i64 x, .int .i64 y] 24 (0, 0)) := by first | exact heap_below hZ8 hb9 | exact heap_below (heap_old hZ8 (.cells #[.bool false, .slice none 0 0] 41)) hb9); (have hbel9 : Below w.heap.size w w9 := by first | exact below_then hb9 hbel8 hbel8.size | exact below_then hb9 (hbel8.alloc hbel8.size (.cells #[.bool false, .slice none 0 0] 41)) (by rw [World.size_alloc]; exact Nat.le_succ_of_le hbel8.size)); obtain ⟨x90, x91, -, -, -⟩ := box2 hX9; obtain ⟨z90, z91, -, -, hlt9⟩ := box2 hZ9; (try ((first | (have hG9 := heap_below hG8 hb9) | (have hG9 := heap_below (heap_new w8 (.cells #[.bool false, .slice none 0 0] 41) rfl) hb9)); obtain ⟨g90, g91, g92, g93, g94⟩ := box2 hG9))))
        all_goals
          go_wp2_with fail
          go_meet
          first
            | exact ⟨w9.heap.size, s9, A9, n9, c9, rfl, hbel9.size, heap_new _ _ rfl, hv9.alloc _, hbel9.alloc hbel9.size _⟩
            | exact ⟨_, s9, A9, n9, c9, rfl, by omega, heap_set (heap_set hG9 0 _) 1 _, hv9.box2 hG9 (by decide) _ _, (hbel9.setCell (by dsimp only; omega) _).setCell (by dsimp only; omega) _⟩
      case rest =>
        obtain ⟨g, s9, A9, n9, c9, rfl, hg, hG, hv9, hbel9⟩ := hcut
        clear hX5 hZ5 hbel5 x0 x1 z0 z1 hz5 hlt5
        obtain ⟨g0, g1, g2, g3, g4⟩ := box2 hG
        go_wp2_with fail
        have hG2 := heap_set hG 0 (.bool false)
        have hv2 : Big .i64 3 B6 (wc.setCell ⟨g, 0, none⟩ (.bool false)) false A9 n9 c9 (((scaled x y 9 + -(scaled u p 9)).natAbs : Nat) : Int) := big_abs (hv9.far hG (by decide) _)
        have hbel2 := hbel9.setCell (p := ⟨g, 0, none⟩) (by exact hg) (.bool false)
        have hG2 : (wc.setCell ⟨g, 0, none⟩ (.bool false)).heap[g]? = some (.cells #[.bool false, .slice A9 n9 c9] 41 (0, 0)) := by simpa using hG2
        generalize wc.setCell ⟨g, 0, none⟩ (.bool false) = w6 at hG2 hv2 hbel2 ⊢
        clear hG hv9 hbel9 g0 g1 g2 g3 g4
        obtain ⟨g0, g1, -, -, -⟩ := box2 hG2
        obtain ⟨K, hK⟩ : ∃ K : Nat, 9 - y = (K : Int) := ⟨(9 - y).toNat, by omega⟩
        have HK := Lib.hid hK
        have hK9 : K ≤ 9 := by omega
        have hKw : IntKind.i64.wrap (9 - y) = (K : Int) := by rw [IntWalk.i64_in _ (by omega)]; exact hK
        have HKW := Lib.hid hKw
        have hlt : (scaled x y 9 + -(scaled u p 9)).natAbs < 10 ^ K := by
          have := HN.out
          rw [show 9 - y.toNat = K by omega, Int.sub_eq_add_neg] at this
          exact this
        have HLT := Lib.hid hlt
        clear hK hlt hKw
        have hz6 := hbel2.size
        go_region_held3 (fun w' => w'.cell? ⟨g, 0, none⟩ = some (.bool false) ∧ w'.cell? ⟨g, 1, none⟩ = some (.slice A9 n9 c9))
          (first | (with_reducible exact ⟨g70, g71⟩) | (with_reducible exact ⟨g80, g81⟩) | (exact ⟨g0, g1⟩) | (go_keep; done))
          (first
            | (go_at_call 26; (first | rw [HKW.out] | rw [HK.out]); refine (power_r K _ (by omega)).mono ?_; rintro e w7 ⟨s7, A7, n7, c7, rfl, hv7, hb7⟩; (have hG7 := heap_below (w := w6.drew) hG2 hb7); obtain ⟨g70, g71, -, -, -⟩ := box2 hG7)
            | (go_at_call 25; refine (cmp_r _ (by exact Big.below (w := w6.drew) hv2 hb7) hv7 (small_far HLT.out hK9) (small_pow (by omega))).mono ?_; rintro e w8 ⟨rfl, hb8⟩; rw [neg_far HLT.out]; (have hG8 := heap_below hG7 hb8); obtain ⟨g80, g81, -, -, -⟩ := box2 hG8))
        go_wp2
        go_ret
        exact ⟨rfl, below_then hb8 (below_then hb7 hbel2.drew hz6) (Nat.le_trans hz6 hb7.size)⟩

end Go.Proofs.Ytjhinelbejjafaa
