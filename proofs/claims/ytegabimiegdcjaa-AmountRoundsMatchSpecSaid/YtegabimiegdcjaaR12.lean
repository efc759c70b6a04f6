
/- The walks of the reference: Quotient, Rounded. -/
import Derived.Test.YtegabimiegdcjaaRX
import Derived.Test.YtegabimiegdcjaaR11
import Derived.Test.YtegabimiegdcjaaN3
import Derived.Deep.RegionHeld3
namespace Go.Proofs.Ytegabimiegdcjaa
open Go.RowKit Limb
set_option linter.unusedSimpArgs false
set_option linter.unusedVariables false

theorem risway_c (v : Int) (w : World) : Calls Try.prog 51 #[.int .i64 v] w fun e w' => w = w' ∧ e = .returned (.bool (decide (1 ≤ v ∧ v ≤ 6))) := by
  go_enter Try.func51, Try.ntmps51
  go_wp2_with (go_at_call 33; refine (within_c _ _ _ _).mono ?_; rintro e w1 ⟨rfl, rfl⟩)
  go_ret
  exact ⟨rfl, by simp⟩

set_option maxHeartbeats 1000000 in
theorem rquot_bad (u p v q r way : Int) (w : World) (h : decB u p = false ∨ decB v q = false) :
    Calls Try.prog 19 #[.agg #[.int .i64 u, .int .i64 p], .agg #[.int .i64 v, .int .i64 q], .int .i64 r, .int .i64 way] w (RetD (0, 0, 1) w) := by
  obtain ⟨w0, hw0⟩ : ∃ w0, w0 = ((w.alloc (.cells #[.int .i64 u, .int .i64 p] 23)).alloc (.cells #[.int .i64 v, .int .i64 q] 23)).alloc (.cells #[.int .i64 0, .int .i64 0] 23) := ⟨_, rfl⟩
  have hX : w0.heap[w.heap.size]? = some (.cells #[.int .i64 u, .int .i64 p] 23 (0, 0)) := by rw [hw0]; exact heap_old (heap_old (heap_new _ _ rfl) _) _
  have hZ : w0.heap[w.heap.size + 1]? = some (.cells #[.int .i64 v, .int .i64 q] 23 (0, 0)) := by rw [hw0]; exact heap_old (heap_new _ _ (by simp)) _
  have hR : w0.heap[w.heap.size + 1 + 1]? = some (.cells #[.int .i64 0, .int .i64 0] 23 (0, 0)) := by rw [hw0]; exact heap_new _ _ (by simp)
  have hbel : Below w.heap.size w w0 := by rw [hw0]; go_grown
  have HW := Lib.hid hw0; clear hw0
  cases ha : decB u p with
  | false =>
    have HA := Lib.hid ha; clear ha h
    go_enter Try.func19, Try.ntmps19
    go_wp2_with fail
    rw [← HW.out]
    refine (rchk_bad _ _ _ HA.out).mono ?_
    rintro e w2 ⟨rfl, hb2⟩
    have hbel2 := below_then hb2 hbel hbel.size
    obtain ⟨g0, g1, g2, g3, g4⟩ := box2 (heap_below hR hb2)
    have hz2 := hbel2.size
    go_wp2
    refine bodyPost_ret (v := .tuple #[.agg #[.int .i64 0, .int .i64 0], .int .i64 1]) (by simp [results, Try.results19, go_sem, g0, g1]) rfl ⟨rfl, ?_⟩
    go_grown
  | true =>
    have hb : decB v q = false := by rcases h with h | h; rw [ha] at h; cases h; exact h
    have HA := Lib.hid ha; have HB := Lib.hid hb; clear ha h hb
    go_enter Try.func19, Try.ntmps19
    go_wp2_with fail
    rw [← HW.out]
    refine (rchk_ok _ _ _ HA.out).mono ?_
    rintro e w2 ⟨rfl, hb2⟩
    have hX2 := heap_below hX hb2
    have hZ2 := heap_below hZ hb2
    have hR2 := heap_below hR hb2
    have hbel2 := below_then hb2 hbel hbel.size
    clear HW hX hZ hR hbel hb2
    obtain ⟨z0, z1, -, -, -⟩ := box2 hZ2
    go_wp2_with fail
    refine (rchk_bad _ _ _ HB.out).mono ?_
    rintro e w3 ⟨rfl, hb3⟩
    have hbel3 := below_then hb3 hbel2 hbel2.size
    obtain ⟨g0, g1, g2, g3, g4⟩ := box2 (heap_below hR2 hb3)
    have hz3 := hbel3.size
    go_wp2
    refine bodyPost_ret (v := .tuple #[.agg #[.int .i64 0, .int .i64 0], .int .i64 1]) (by simp [results, Try.results19, go_sem, g0, g1]) rfl ⟨rfl, ?_⟩
    go_grown

set_option maxHeartbeats 1000000 in
theorem rquot_places (u p v q r way : Int) (w : World) (ha : decB u p = true) (hb : decB v q = true) (hr : ¬ (0 ≤ r ∧ r ≤ 9)) :
    Calls Try.prog 19 #[.agg #[.int .i64 u, .int .i64 p], .agg #[.int .i64 v, .int .i64 q], .int .i64 r, .int .i64 way] w (RetD (0, 0, 1) w) := by
  have HA := Lib.hid ha; have HB := Lib.hid hb; have HI := Lib.hid (decide_eq_false hr); clear ha hb hr
  obtain ⟨w0, hw0⟩ : ∃ w0, w0 = ((w.alloc (.cells #[.int .i64 u, .int .i64 p] 23)).alloc (.cells #[.int .i64 v, .int .i64 q] 23)).alloc (.cells #[.int .i64 0, .int .i64 0] 23) := ⟨_, rfl⟩
  have hX : w0.heap[w.heap.size]? = some (.cells #[.int .i64 u, .int .i64 p] 23 (0, 0)) := by rw [hw0]; exact heap_old (heap_old (heap_new _ _ rfl) _) _
  have hZ : w0.heap[w.heap.size + 1]? = some (.cells #[.int .i64 v, .int .i64 q] 23 (0, 0)) := by rw [hw0]; exact heap_old (heap_new _ _ (by simp)) _
  have hR : w0.heap[w.heap.size + 1 + 1]? = some (.cells #[.int .i64 0, .int .i64 0] 23 (0, 0)) := by rw [hw0]; exact heap_new _ _ (by simp)
  have hbel : Below w.heap.size w w0 := by rw [hw0]; go_grown
  have HW := Lib.hid hw0; clear hw0
  go_enter Try.func19, Try.ntmps19
  go_wp2_with fail
  rw [← HW.out]
  refine (rchk_ok _ _ _ HA.out).mono ?_
  rintro e w2 ⟨rfl, hb2⟩
  have hX2 := heap_below hX hb2
  have hZ2 := heap_below hZ hb2
  have hR2 := heap_below hR hb2
  have hbel2 := below_then hb2 hbel hbel.size
  clear HW hX hZ hR hbel hb2
  obtain ⟨z0, z1, -, -, -⟩ := box2 hZ2
  go_wp2_with fail
  refine (rchk_ok _ _ _ HB.out).mono ?_
  rintro e w3 ⟨rfl, hb3⟩
  have hX3 := heap_below hX2 hb3
  have hZ3 := heap_below hZ2 hb3
  have hR3 := heap_below hR2 hb3
  have hbel3 := below_then hb3 hbel2 hbel2.size
  clear hX2 hZ2 hR2 hbel2 hb3 z0 z1
  have hz3 := hbel3.size
  go_wp2_with fail
  refine (within_c _ _ _ _).mono ?_
  rintro e w4 ⟨rfl, rfl⟩
  rw [HI.out]
  obtain ⟨g0, g1, g2, g3, g4⟩ := box2 hR3
  go_wp2
  refine bodyPost_ret (v := .tuple #[.agg #[.int .i64 0, .int .i64 0], .int .i64 1]) (by simp [results, Try.results19, go_sem, g0, g1]) rfl ⟨rfl, ?_⟩
  go_grown

theorem rquot_way (u p v q r way : Int) (w : World) (ha : decB u p = true) (hb : decB v q = true) (hr : 0 ≤ r ∧ r ≤ 9) (hw : ¬ (1 ≤ way ∧ way ≤ 6)) :
    Calls Try.prog 19 #[.agg #[.int .i64 u, .int .i64 p], .agg #[.int .i64 v, .int .i64 q], .int .i64 r, .int .i64 way] w (RetD (0, 0, 4) w) := by
  have HA := Lib.hid ha; have HB := Lib.hid hb; have HI := Lib.hid (decide_eq_true hr); have HWY := Lib.hid (decide_eq_false hw); clear ha hb hr hw
  obtain ⟨w0, hw0⟩ : ∃ w0, w0 = ((w.alloc (.cells #[.int .i64 u, .int .i64 p] 23)).alloc (.cells #[.int .i64 v, .int .i64 q] 23)).alloc (.cells #[.int .i64 0, .int .i64 0] 23) := ⟨_, rfl⟩
  have hX : w0.heap[w.heap.size]? = some (.cells #[.int .i64 u, .int .i64 p] 23 (0, 0)) := by rw [hw0]; exact heap_old (heap_old (heap_new _ _ rfl) _) _
  have hZ : w0.heap[w.heap.size + 1]? = some (.cells #[.int .i64 v, .int .i64 q] 23 (0, 0)) := by rw [hw0]; exact heap_old (heap_new _ _ (by simp)) _
  have hR : w0.heap[w.heap.size + 1 + 1]? = some (.cells #[.int .i64 0, .int .i64 0] 23 (0, 0)) := by rw [hw0]; exact heap_new _ _ (by simp)
  have hbel : Below w.heap.size w w0 := by rw [hw0]; go_grown
  have HW := Lib.hid hw0; clear hw0
  go_enter Try.func19, Try.ntmps19
  go_wp2_with fail
  rw [← HW.out]
  refine (rchk_ok _ _ _ HA.out).mono ?_
  rintro e w2 ⟨rfl, hb2⟩
  have hX2 := heap_below hX hb2
  have hZ2 := heap_below hZ hb2
  have hR2 := heap_below hR hb2
  have hbel2 := below_then hb2 hbel hbel.size
  clear HW hX hZ hR hbel hb2
  obtain ⟨z0, z1, -, -, -⟩ := box2 hZ2
  go_wp2_with fail
  refine (rchk_ok _ _ _ HB.out).mono ?_
  rintro e w3 ⟨rfl, hb3⟩
  have hX3 := heap_below hX2 hb3
  have hZ3 := heap_below hZ2 hb3
  have hR3 := heap_below hR2 hb3
  have hbel3 := below_then hb3 hbel2 hbel2.size
  clear hX2 hZ2 hR2 hbel2 hb3 z0 z1
  have hz3 := hbel3.size
  go_wp2_with fail
  refine (within_c _ _ _ _).mono ?_
  rintro e w4 ⟨rfl, rfl⟩
  rw [HI.out]
  go_wp2_with fail
  refine (risway_c _ _).mono ?_
  rintro e w4 ⟨rfl, rfl⟩
  rw [HWY.out]
  obtain ⟨g0, g1, g2, g3, g4⟩ := box2 hR3
  go_wp2
  refine bodyPost_ret (v := .tuple #[.agg #[.int .i64 0, .int .i64 0], .int .i64 4]) (by simp [results, Try.results19, go_sem, g0, g1]) rfl ⟨rfl, ?_⟩
  go_grown

theorem rquot_zero (u p v q r way : Int) (w : World) (ha : decB u p = true) (hb : decB v q = true) (hr : 0 ≤ r ∧ r ≤ 9) (hw : 1 ≤ way ∧ way ≤ 6) (hv0 : v = 0) :
    Calls Try.prog 19 #[.agg #[.int .i64 u, .int .i64 p], .agg #[.int .i64 v, .int .i64 q], .int .i64 r, .int .i64 way] w (RetD (0, 0, 13) w) := by
  have HA := Lib.hid ha; have HB := Lib.hid hb; have HI := Lib.hid (decide_eq_true hr); have HWY := Lib.hid (decide_eq_true hw); clear ha hb hr hw
  subst hv0
  obtain ⟨w0, hw0⟩ : ∃ w0, w0 = ((w.alloc (.cells #[.int .i64 u, .int .i64 p] 23)).alloc (.cells #[.int .i64 0, .int .i64 q] 23)).alloc (.cells #[.int .i64 0, .int .i64 0] 23) := ⟨_, rfl⟩
  have hX : w0.heap[w.heap.size]? = some (.cells #[.int .i64 u, .int .i64 p] 23 (0, 0)) := by rw [hw0]; exact heap_old (heap_old (heap_new _ _ rfl) _) _
  have hZ : w0.heap[w.heap.size + 1]? = some (.cells #[.int .i64 0, .int .i64 q] 23 (0, 0)) := by rw [hw0]; exact heap_old (heap_new _ _ (by simp)) _
  have hR : w0.heap[w.heap.size + 1 + 1]? = some (.cells #[.int .i64 0, .int .i64 0] 23 (0, 0)) := by rw [hw0]; exact heap_new _ _ (by simp)
  have hbel : Below w.heap.size w w0 := by rw [hw0]; go_grown
  have HW := Lib.hid hw0; clear hw0
  go_enter Try.func19, Try.ntmps19
  go_wp2_with fail
  rw [← HW.out]
  refine (rchk_ok _ _ _ HA.out).mono ?_
  rintro e w2 ⟨rfl, hb2⟩
  have hX2 := heap_below hX hb2
  have hZ2 := heap_below hZ hb2
  have hR2 := heap_below hR hb2
  have hbel2 := below_then hb2 hbel hbel.size
  clear HW hX hZ hR hbel hb2
  obtain ⟨z0, z1, -, -, -⟩ := box2 hZ2
  go_wp2_with fail
  refine (rchk_ok _ _ _ HB.out).mono ?_
  rintro e w3 ⟨rfl, hb3⟩
  have hX3 := heap_below hX2 hb3
  have hZ3 := heap_below hZ2 hb3
  have hR3 := heap_below hR2 hb3
  have hbel3 := below_then hb3 hbel2 hbel2.size
  clear hX2 hZ2 hR2 hbel2 hb3 z0 z1
  have hz3 := hbel3.size
  go_wp2_with fail
  refine (within_c _ _ _ _).mono ?_
  rintro e w4 ⟨rfl, rfl⟩
  rw [HI.out]
  go_wp2_with fail
  refine (risway_c _ _).mono ?_
  rintro e w4 ⟨rfl, rfl⟩
  rw [HWY.out]
  obtain ⟨g0, g1, g2, g3, g4⟩ := box2 hR3
  obtain ⟨z0, z1, -, -, -⟩ := box2 hZ3
  go_wp2
  refine bodyPost_ret (v := .tuple #[.agg #[.int .i64 0, .int .i64 0], .int .i64 13]) (by simp [results, Try.results19, go_sem, g0, g1]) rfl ⟨rfl, ?_⟩
  go_grown

theorem and4 {a b c d : Prop} (h : a ∧ b) (g : c ∧ d) : a ∧ b ∧ c ∧ d := ⟨h.1, h.2, g.1, g.2⟩
set_option maxHeartbeats 8000000 in
set_option maxRecDepth 100000 in
theorem rquot_ok (u p v q : Int) (r : Nat) (way : Int) (w : World) (ha : decB u p = true) (hb : decB v q = true) (hr : r ≤ 9) (hw : 1 ≤ way ∧ way ≤ 6) (hv0 : ¬ v = 0) :
    Calls Try.prog 19 #[.agg #[.int .i64 u, .int .i64 p], .agg #[.int .i64 v, .int .i64 q], .int .i64 (r : Int), .int .i64 way] w (RetD (made (rnd (topZ u p v (r : Int)) (scaled v q 9).natAbs way) (r : Int)) w) := by
  have HI := Lib.hid (decide_eq_true (p := 0 ≤ (r : Int) ∧ (r : Int) ≤ 9) (by omega)); have HWY := Lib.hid (decide_eq_true hw)
  have HSC := Lib.hid (scaled_190 hb)
  have HPS := Lib.hid (scaled_pos (q := q) hv0)
  have hT : topZ u p v (r : Int) = if v < 0 then -(scaled u p 9 * ((10 ^ r : Nat) : Int)) else scaled u p 9 * ((10 ^ r : Nat) : Int) := by unfold topZ; rw [Int.toNat_natCast]
  have HTN : Hid ((topZ u p v (r : Int)).natAbs < 10 ^ 190) := Lib.hid (by rw [hT]; split; (rw [Int.natAbs_neg]; exact top_bound ha hr); exact top_bound ha hr)
  obtain ⟨Z, hZ⟩ : ∃ Z, topZ u p v (r : Int) = Z := ⟨_, rfl⟩
  rw [hZ] at hT HTN ⊢
  clear hZ
  have HT := Lib.hid hT; clear hT
  have HSV := Lib.hid (scaled_sign' v q).2
  have sm1 := Lib.hid (scaled_small (u := u) (p := p) (q := 9) ha (by omega))
  have sm2 : Hid (Small ((10 ^ r : Nat) : Int)) := Lib.hid (small_nat (Nat.pow_lt_pow_right (by omega) (by omega)))
  obtain ⟨a1, a2, a3, a4⟩ := decB_out ha
  obtain ⟨b1, b2, b3, b4⟩ := decB_out hb
  have HA := Lib.hid ha; have HB := Lib.hid hb; clear ha hb
  obtain ⟨hw1, hw2⟩ := hw
  obtain ⟨R, hR0⟩ : ∃ R, made (rnd Z (scaled v q 9).natAbs way) (r : Int) = R := ⟨_, rfl⟩
  rw [hR0]
  have HR0 := Lib.hid hR0; clear hR0
  obtain ⟨w0, hw0⟩ : ∃ w0, w0 = ((w.alloc (.cells #[.int .i64 u, .int .i64 p] 23)).alloc (.cells #[.int .i64 v, .int .i64 q] 23)).alloc (.cells #[.int .i64 0, .int .i64 0] 23) := ⟨_, rfl⟩
  have hX : w0.heap[w.heap.size]? = some (.cells #[.int .i64 u, .int .i64 p] 23 (0, 0)) := by rw [hw0]; exact heap_old (heap_old (heap_new _ _ rfl) _) _
  have hZ : w0.heap[w.heap.size + 1]? = some (.cells #[.int .i64 v, .int .i64 q] 23 (0, 0)) := by rw [hw0]; exact heap_old (heap_new _ _ (by simp)) _
  have hR : w0.heap[w.heap.size + 1 + 1]? = some (.cells #[.int .i64 0, .int .i64 0] 23 (0, 0)) := by rw [hw0]; exact heap_new _ _ (by simp)
  have hbel : Below w.heap.size w w0 := by rw [hw0]; go_grown
  have HW := Lib.hid hw0; clear hw0
  go_enter Try.func19, Try.ntmps19
  go_wp2_with fail
  rw [← HW.out]
  refine (rchk_ok _ _ _ HA.out).mono ?_
  rintro e w2 ⟨rfl, hb2⟩
  have hX2 := heap_below hX hb2
  have hZ2 := heap_below hZ hb2
  have hR2 := heap_below hR hb2
  have hbel2 := below_then hb2 hbel hbel.size
  clear HW hX hZ hR hbel hb2
  obtain ⟨z0, z1, -, -, -⟩ := box2 hZ2
  go_wp2_with fail
  refine (rchk_ok _ _ _ HB.out).mono ?_
  rintro e w3 ⟨rfl, hb3⟩
  have hX3 := heap_below hX2 hb3
  have hZ3 := heap_below hZ2 hb3
  have hR3 := heap_below hR2 hb3
  have hbel3 := below_then hb3 hbel2 hbel2.size
  clear hX2 hZ2 hR2 hbel2 hb3 z0 z1
  have hz3 := hbel3.size
  go_wp2_with fail
  refine (within_c _ _ _ _).mono ?_
  rintro e w4 ⟨rfl, rfl⟩
  rw [HI.out]
  go_wp2_with fail
  refine (risway_c _ _).mono ?_
  rintro e w4 ⟨rfl, rfl⟩
  rw [HWY.out]
  obtain ⟨x0, x1, -, -, -⟩ := box2 hX3
  obtain ⟨z0, z1, -, -, -⟩ := box2 hZ3
  have hlt3 := lt_heap hR3
  go_upto_region 7 with fail
  go_cut [10, 11] (fun c c2 wx => ∃ (h k : Nat) (s3 : Bool) (A3 : Option Addr) (n3 c3 : Nat) (s4 : Bool) (A4 : Option Addr) (n4 c4 : Nat), c = .pointer (some ⟨h, 0, none⟩) ∧ c2 = .pointer (some ⟨k, 0, none⟩) ∧ w.heap.size + 1 + 1 < h ∧ w.heap.size + 1 + 1 < k ∧ h ≠ k ∧ wx.heap[h]? = some (.cells #[.bool s3, .slice A3 n3 c3] 41 (0, 0)) ∧ wx.heap[k]? = some (.cells #[.bool s4, .slice A4 n4 c4] 41 (0, 0)) ∧ Big .i64 3 B6 wx s3 A3 n3 c3 (scaled u p 9 * ((10 ^ r : Nat) : Int)) ∧ Big .i64 3 B6 wx s4 A4 n4 c4 (scaled v q 9) ∧
    wx.heap[w.heap.size + 1 + 1]? = some (.cells #[.int .i64 0, .int .i64 0] 23 (0, 0)) ∧ Below w.heap.size w wx)
  case first =>
    go_region_held3 (fun w' => w'.cell? ⟨w.heap.size, 0, none⟩ = some (.int .i64 u) ∧ w'.cell? ⟨w.heap.size, 1, none⟩ = some (.int .i64 p) ∧ w'.cell? ⟨w.heap.size + 1, 0, none⟩ = some (.int .i64 v) ∧ w'.cell? ⟨w.heap.size + 1, 1, none⟩ = some (.int .i64 q))
      (first | (with_reducible exact ⟨x40, x41, z40, z41⟩) | (with_reducible exact ⟨x50, x51, z50, z51⟩) | (with_reducible exact ⟨x60, x61, z60, z61⟩) | (with_reducible exact ⟨x70, x71, z70, z71⟩) | (with_reducible exact ⟨x0, x1, z0, z1⟩) | (refine and4 (cell_heap (T := 23) ?_) (cell_heap (T := 23) ?_) <;> (repeat' (first | (with_reducible assumption) | (with_reducible refine heap_store2 (x := .bool false) (y := .slice none 0 0) ?_) | (with_reducible refine heap_far2 ?_ (by (first | omega | (dsimp only; omega) | (simp only [World.size_alloc, World.size_drew, World.size_setCell] <;> omega)))) | (with_reducible refine heap_far ?_ (by (first | omega | (dsimp only; omega) | (simp only [World.size_alloc, World.size_drew, World.size_setCell] <;> omega))) _) | (with_reducible refine heap_new _ _ ?_; (first | omega | (dsimp only; omega) | (simp only [World.size_alloc, World.size_drew, World.size_setCell] <;> omega)); done) | (with_reducible refine heap_drew ?_) | (with_reducible refine heap_old ?_ _))); done) | (go_keep; done))
      (first
        | (go_at_call_of 31 (Value.agg #[.int .i64 u, .int .i64 p]); refine (at_r u p 9 _ HA.out (by omega) (by omega)).mono ?_; rintro e w4 ⟨s4, A4, n4, c4, rfl, hv4, hb4⟩; have hh4 : Below w3.heap.size w3 w4 := below_then hb4 (by go_grown) (by first | exact Nat.le_refl _ | (simp only [World.size_alloc, World.size_drew] <;> omega)); have hX4 := heap_below hX3 hh4; have hZ4 := heap_below hZ3 hh4; have hR4 := heap_below hR3 hh4; have hbel4 := below_then hh4 hbel3 hbel3.size; have hl4 := hh4.size; obtain ⟨x40, x41, -, -, -⟩ := box2 hX4; obtain ⟨z40, z41, -, -, -⟩ := box2 hZ4; (first | have hN4 := news2d hb4 | have hN4 := news1d hb4 | have hN4 := True.intro))
        | (go_at_call 45; refine (power_r r _ (by omega)).mono ?_; rintro e w5 ⟨s5, A5, n5, c5, rfl, hv5, hb5⟩; have hh5 : Below w4.heap.size w4 w5 := below_then hb5 (by go_grown) (by first | exact Nat.le_refl _ | (simp only [World.size_alloc, World.size_drew] <;> omega)); have hX5 := heap_below hX4 hh5; have hZ5 := heap_below hZ4 hh5; have hR5 := heap_below hR4 hh5; have hbel5 := below_then hh5 hbel4 hbel4.size; have hl5 := hh5.size; obtain ⟨x50, x51, -, -, -⟩ := box2 hX5; obtain ⟨z50, z51, -, -, -⟩ := box2 hZ5; (first | have hN5 := And.intro (heap_below hN4.1 hh5) (heap_below hN4.2 hh5) | have hN5 := And.intro (heap_below hN4 hh5) (news1 hb5) | have hN5 := heap_below hN4 hh5 | have hN5 := news2 hb5 | have hN5 := news1 hb5 | have hN5 := True.intro); (try (have hln4 := lt_heap hN4)); have hv45 := hv4.below hh5)
        | (go_at_call 22; refine (timesof_r _ (by first | with_reducible exact hv45 | with_reducible exact hv45.alloc _ | with_reducible exact (hv45.alloc _).alloc _) (by first | with_reducible exact hv5 | with_reducible exact hv5.alloc _ | with_reducible exact (hv5.alloc _).alloc _) sm1.out sm2.out).mono ?_; rintro e w6 ⟨s6, A6, n6, c6, rfl, hv6, hb6⟩; have hh6 : Below w5.heap.size w5 w6 := below_then hb6 (by go_grown) (by first | exact Nat.le_refl _ | (simp only [World.size_alloc, World.size_drew] <;> omega)); have hX6 := heap_below hX5 hh6; have hZ6 := heap_below hZ5 hh6; have hR6 := heap_below hR5 hh6; have hbel6 := below_then hh6 hbel5 hbel5.size; have hl6 := hh6.size; obtain ⟨x60, x61, -, -, -⟩ := box2 hX6; obtain ⟨z60, z61, -, -, -⟩ := box2 hZ6; (first | have hN6 := And.intro (heap_below hN5.1 hh6) (heap_below hN5.2 hh6) | have hN6 := And.intro (heap_below hN5 hh6) (news1 hb6) | have hN6 := heap_below hN5 hh6 | have hN6 := news2 hb6 | have hN6 := news1 hb6 | have hN6 := True.intro); (try (have hln5 := lt_heap hN5)))
        | (go_at_call_of 31 (Value.agg #[.int .i64 v, .int .i64 q]); refine (at_r v q 9 _ HB.out (by omega) (by omega)).mono ?_; rintro e w7 ⟨s7, A7, n7, c7, rfl, hv7, hb7⟩; have hh7 : Below w6.heap.size w6 w7 := below_then hb7 (by go_grown) (by first | exact Nat.le_refl _ | (simp only [World.size_alloc, World.size_drew] <;> omega)); have hX7 := heap_below hX6 hh7; have hZ7 := heap_below hZ6 hh7; have hR7 := heap_below hR6 hh7; have hbel7 := below_then hh7 hbel6 hbel6.size; have hl7 := hh7.size; obtain ⟨x70, x71, -, -, -⟩ := box2 hX7; obtain ⟨z70, z71, -, -, -⟩ := box2 hZ7; (first | have hN7 := And.intro (heap_below hN6.1 hh7) (heap_below hN6.2 hh7) | have hN7 := And.intro (heap_below hN6 hh7) (news1 hb7) | have hN7 := heap_below hN6 hh7 | have hN7 := news2 hb7 | have hN7 := news1 hb7 | have hN7 := True.intro); (try (have hln6 := lt_heap hN6)); have hv67 := hv6.below hh7; (first | (have hP7 := hN7.1; have hQ7 := hN7.2; have hBP := box2 hP7; have hBQ := box2 hQ7; obtain ⟨p80, p81, p82, p83, p84⟩ := hBP; obtain ⟨q80, q81, q82, q83, q84⟩ := hBQ) | (have hBP := box2 hN7; obtain ⟨p80, p81, p82, p83, p84⟩ := hBP) | skip)))
    all_goals
      go_wp2_with fail
      go_meet
      exact ⟨_, _, s6, A6, n6, c6, s7, A7, n7, c7, rfl, rfl, (by (first | omega | (dsimp only; omega) | (simp only [World.size_alloc, World.size_drew, World.size_setCell] <;> omega))), (by (first | omega | (dsimp only; omega) | (simp only [World.size_alloc, World.size_drew, World.size_setCell] <;> omega))), (by (first | omega | (dsimp only; omega) | (simp only [World.size_alloc, World.size_drew, World.size_setCell] <;> omega))), (by (repeat' (first | (with_reducible assumption) | (with_reducible refine heap_store2 (x := .bool false) (y := .slice none 0 0) ?_) | (with_reducible refine heap_far2 ?_ (by (first | omega | (dsimp only; omega) | (simp only [World.size_alloc, World.size_drew, World.size_setCell] <;> omega)))) | (with_reducible refine heap_far ?_ (by (first | omega | (dsimp only; omega) | (simp only [World.size_alloc, World.size_drew, World.size_setCell] <;> omega))) _) | (with_reducible refine heap_new _ _ ?_; (first | omega | (dsimp only; omega) | (simp only [World.size_alloc, World.size_drew, World.size_setCell] <;> omega)); done) | (with_reducible refine heap_drew ?_) | (with_reducible refine heap_old ?_ _)))), (by (repeat' (first | (with_reducible assumption) | (with_reducible refine heap_store2 (x := .bool false) (y := .slice none 0 0) ?_) | (with_reducible refine heap_far2 ?_ (by (first | omega | (dsimp only; omega) | (simp only [World.size_alloc, World.size_drew, World.size_setCell] <;> omega)))) | (with_reducible refine heap_far ?_ (by (first | omega | (dsimp only; omega) | (simp only [World.size_alloc, World.size_drew, World.size_setCell] <;> omega))) _) | (with_reducible refine heap_new _ _ ?_; (first | omega | (dsimp only; omega) | (simp only [World.size_alloc, World.size_drew, World.size_setCell] <;> omega)); done) | (with_reducible refine heap_drew ?_) | (with_reducible refine heap_old ?_ _)))), (by (repeat' (first | (with_reducible assumption) | (with_reducible refine heap_store2 (x := .bool false) (y := .slice none 0 0) ?_) | (with_reducible refine heap_far2 ?_ (by (first | omega | (dsimp only; omega) | (simp only [World.size_alloc, World.size_drew, World.size_setCell] <;> omega)))) | (with_reducible refine heap_far ?_ (by (first | omega | (dsimp only; omega) | (simp only [World.size_alloc, World.size_drew, World.size_setCell] <;> omega))) _) | (with_reducible refine heap_new _ _ ?_; (first | omega | (dsimp only; omega) | (simp only [World.size_alloc, World.size_drew, World.size_setCell] <;> omega)); done) | (with_reducible refine heap_drew ?_) | (with_reducible refine heap_old ?_ _) | (with_reducible refine Big.box2 (cs := #[.bool false, .slice none 0 0]) (T := 41) ?_ ?_ (by decide) _ _) | (with_reducible refine Big.alloc ?_ _)))), (by (repeat' (first | (with_reducible assumption) | (with_reducible refine heap_store2 (x := .bool false) (y := .slice none 0 0) ?_) | (with_reducible refine heap_far2 ?_ (by (first | omega | (dsimp only; omega) | (simp only [World.size_alloc, World.size_drew, World.size_setCell] <;> omega)))) | (with_reducible refine heap_far ?_ (by (first | omega | (dsimp only; omega) | (simp only [World.size_alloc, World.size_drew, World.size_setCell] <;> omega))) _) | (with_reducible refine heap_new _ _ ?_; (first | omega | (dsimp only; omega) | (simp only [World.size_alloc, World.size_drew, World.size_setCell] <;> omega)); done) | (with_reducible refine heap_drew ?_) | (with_reducible refine heap_old ?_ _) | (with_reducible refine Big.box2 (cs := #[.bool false, .slice none 0 0]) (T := 41) ?_ ?_ (by decide) _ _) | (with_reducible refine Big.alloc ?_ _)))), (by (repeat' (first | (with_reducible assumption) | (with_reducible refine heap_store2 (x := .bool false) (y := .slice none 0 0) ?_) | (with_reducible refine heap_far2 ?_ (by (first | omega | (dsimp only; omega) | (simp only [World.size_alloc, World.size_drew, World.size_setCell] <;> omega)))) | (with_reducible refine heap_far ?_ (by (first | omega | (dsimp only; omega) | (simp only [World.size_alloc, World.size_drew, World.size_setCell] <;> omega))) _) | (with_reducible refine heap_new _ _ ?_; (first | omega | (dsimp only; omega) | (simp only [World.size_alloc, World.size_drew, World.size_setCell] <;> omega)); done) | (with_reducible refine heap_drew ?_) | (with_reducible refine heap_old ?_ _)))), (by go_grown)⟩
  case rest =>
    obtain ⟨h, k, s3, A3, n3, c3, s4, A4, n4, c4, rfl, rfl, hh, hk, hne, hH, hK, hv3, hv4, hR, hbel⟩ := hcut
    clear hX3 hZ3 hR3 hbel3 hz3 hlt3 x0 x1 z0 z1
    have hs4 : s4 = decide (v < 0) := by rw [big_sign' hv4]; exact decide_eq_decide.2 HSV.out.symm
    subst hs4
    have hz := hbel.size
    obtain ⟨h0, h1, h2, h3, h4⟩ := box2 hH
    obtain ⟨k0, k1, k2, k3, k4⟩ := box2 hK
    go_upto_if 42 with fail
    go_cut [] (fun wx => ∃ (s5 : Bool) (A5 : Option Addr) (n5 c5 : Nat) (s6 : Bool) (A6 : Option Addr) (n6 c6 : Nat), wx.heap[h]? = some (.cells #[.bool s5, .slice A5 n5 c5] 41 (0, 0)) ∧ wx.heap[k]? = some (.cells #[.bool s6, .slice A6 n6 c6] 41 (0, 0)) ∧ Big .i64 3 B6 wx s5 A5 n5 c5 Z ∧ Big .i64 3 B6 wx s6 A6 n6 c6 (((scaled v q 9).natAbs : Nat) : Int) ∧
      wx.heap[w.heap.size + 1 + 1]? = some (.cells #[.int .i64 0, .int .i64 0] 23 (0, 0)) ∧ Below w.heap.size w wx)
    case first =>
      by_cases hneg : v < 0
      · have HT2 := Lib.hid (HT.out.trans (if_pos hneg))
        have HAB : Hid (-(scaled v q 9) = (((scaled v q 9).natAbs : Nat) : Int)) := Lib.hid (by have := HSV.out.1 hneg; omega)
        rw [decide_eq_true hneg] at *
        clear HT hneg
        go_wp2_with fail
        generalize wc = w8 at *
        go_region_with
          (first
            | (go_at_call_of 24 (Value.agg #[.bool s3, .slice A3 n3 c3]); refine (minus_r (by exact hv3)).mono ?_; rintro e w9 ⟨s9, A9, n9, c9, rfl, hv9, hb9⟩; (have hH9 := heap_below (w := w8.drew) hH hb9); (have hK9 := heap_below (w := w8.drew) hK hb9); (have hR9 := heap_below (w := w8.drew) hR hb9); (have hv49 := Big.below (w := w8.drew) hv4 hb9); (have hbel9 := below_then hb9 hbel.drew hz); obtain ⟨h90, h91, -, -, -⟩ := box2 hH9; obtain ⟨k90, k91, -, -, -⟩ := box2 hK9)
            | (go_at_call_of 24 (Value.agg #[.bool true, .slice A4 n4 c4]); refine (minus_r hv49).mono ?_; rintro e w10 ⟨s10, A10, n10, c10, rfl, hv10, hb10⟩; (have hH10 := heap_below hH9 hb10); (have hK10 := heap_below hK9 hb10); (have hR10 := heap_below hR9 hb10); (have hv910 := hv9.below hb10); (have hbel10 := below_then hb10 hbel9 hbel9.size); obtain ⟨h100, h101, h102, h103, h104⟩ := box2 hH10; obtain ⟨k100, k101, k102, k103, k104⟩ := box2 hK10; have hz10 := hbel10.size))
        all_goals
          rw [← HT2.out] at hv910
          rw [HAB.out] at hv10
          go_wp2_with fail
          go_meet
          exact ⟨s9, A9, n9, c9, s10, A10, n10, c10, heap_far2 (heap_store2 hH10) (by omega), heap_store2 (heap_far2 hK10 (by omega)), (hv910.box2 hH10 (by decide) _ _).box2 (heap_far2 hK10 (by omega)) (by decide) _ _, (hv10.box2 hH10 (by decide) _ _).box2 (heap_far2 hK10 (by omega)) (by decide) _ _, heap_far2 (heap_far2 hR10 (by omega)) (by omega), by go_grown⟩
      · have HT2 := Lib.hid (HT.out.trans (if_neg hneg))
        have HAB : Hid (scaled v q 9 = (((scaled v q 9).natAbs : Nat) : Int)) := Lib.hid (by have : ¬ scaled v q 9 < 0 := fun h => hneg (HSV.out.2 h); omega)
        rw [decide_eq_false hneg] at *
        clear HT hneg
        go_wp2_with fail
        go_meet
        exact ⟨s3, A3, n3, c3, false, A4, n4, c4, hH, hK, by rw [HT2.out]; exact hv3, by rw [← HAB.out]; exact hv4, hR, hbel⟩
    case rest =>
      obtain ⟨s5, A5, n5, c5, s6, A6, n6, c6, hH5, hK5, hv5, hv6, hR5, hbel5⟩ := hcut
      clear hH hK hv3 hv4 hR hbel hz h0 h1 h2 h3 h4 k0 k1 k2 k3 k4
      obtain ⟨h0, h1, -, -, -⟩ := box2 hH5
      obtain ⟨k0, k1, -, -, -⟩ := box2 hK5
      go_wp2_with fail
      refine (round_r _ Z (scaled v q 9).natAbs way hv5 hv6 HTN.out HSC.out HPS.out ⟨hw1, hw2⟩).mono ?_
      rintro e w8 ⟨s8, A8, n8, c8, rfl, hv8, hb8⟩
      have hR8 := heap_below hR5 hb8
      have hbel8 := below_then hb8 hbel5 hbel5.size
      clear hH5 hK5 hv5 hv6 hR5 hbel5 h0 h1 k0 k1 hb8
      go_wp2_with fail
      refine (decimal_r _ (r : Int) hv8).mono ?_
      rw [HR0.out]
      rintro e w9 ⟨rfl, hb9⟩
      have hR9 := heap_below hR8 hb9
      have hbel9 := below_then hb9 hbel8 hbel8.size
      obtain ⟨g0, g1, g2, g3, g4⟩ := box2 hR9
      obtain ⟨R1, R2, R3⟩ := R
      have hz9 := hbel9.size
      go_wp2
      refine bodyPost_ret (v := .tuple #[.agg #[.int .i64 R1, .int .i64 R2], .int .i64 R3]) (by simp [results, Try.results19, go_sem, g0, g1]) rfl ⟨rfl, ?_⟩
      go_grown

theorem rquot_c (u p v q r way : Int) (w : World) :
    Calls Try.prog 19 #[.agg #[.int .i64 u, .int .i64 p], .agg #[.int .i64 v, .int .i64 q], .int .i64 r, .int .i64 way] w (RetD (quotR u p v q r way) w) := by
  by_cases h : decB u p = true ∧ decB v q = true
  · by_cases hr : 0 ≤ r ∧ r ≤ 9
    · by_cases hw : 1 ≤ way ∧ way ≤ 6
      · by_cases hv0 : v = 0
        · rw [quotR_zero h.1 h.2 hr hw hv0]; exact rquot_zero u p v q r way w h.1 h.2 hr hw hv0
        · rw [quotR_val h.1 h.2 hr hw hv0]
          obtain ⟨k, rfl⟩ : ∃ k : Nat, r = (k : Int) := ⟨r.toNat, by omega⟩
          exact rquot_ok u p v q k way w h.1 h.2 (by omega) hw hv0
      · have hW : wayF r way = 4 := by unfold wayF; rw [if_neg (fun h => h hr), if_pos hw]
        rw [quotR_way h.1 h.2 (by rw [hW]; omega), hW]; exact rquot_way u p v q r way w h.1 h.2 hr hw
    · have hW : wayF r way = 1 := by unfold wayF; rw [if_pos hr]
      rw [quotR_way h.1 h.2 (by rw [hW]; omega), hW]; exact rquot_places u p v q r way w h.1 h.2 hr
  · have h' : decB u p = false ∨ decB v q = false := by cases h1 : decB u p <;> cases h2 : decB v q <;> simp_all
    rw [quotR_bad h']; exact rquot_bad u p v q r way w h'

theorem rrounded_c (u p r way : Int) (w : World) :
    Calls Try.prog 17 #[.agg #[.int .i64 u, .int .i64 p], .int .i64 r, .int .i64 way] w (RetD (roundedR u p r way) w) := by
  rw [← quot_rounded]
  obtain ⟨R, hR0⟩ : ∃ R, quotR u p 1 0 r way = R := ⟨_, rfl⟩
  rw [hR0]
  have HR0 := Lib.hid hR0; clear hR0
  have hR : ((w.alloc (.cells #[.int .i64 u, .int .i64 p] 23)).alloc (.cells #[.int .i64 0, .int .i64 0] 23)).heap[w.heap.size + 1]? = some (.cells #[.int .i64 0, .int .i64 0] 23 (0, 0)) := heap_new _ _ (by simp)
  have hbel : Below w.heap.size w ((w.alloc (.cells #[.int .i64 u, .int .i64 p] 23)).alloc (.cells #[.int .i64 0, .int .i64 0] 23)) := by go_grown
  go_enter Try.func17, Try.ntmps17
  go_wp2_with fail
  refine (rquot_c u p 1 0 r way _).mono ?_
  rw [HR0.out]
  rintro e w9 ⟨rfl, hb9⟩
  have hR9 := heap_below hR hb9
  have hbel9 := below_then hb9 hbel hbel.size
  obtain ⟨g0, g1, g2, g3, g4⟩ := box2 hR9
  obtain ⟨R1, R2, R3⟩ := R
  have hz9 := hbel9.size
  go_wp2
  refine bodyPost_ret (v := .tuple #[.agg #[.int .i64 R1, .int .i64 R2], .int .i64 R3]) (by simp [results, Try.results17, go_sem, g0, g1]) rfl ⟨rfl, ?_⟩
  go_grown

end Go.Proofs.Ytegabimiegdcjaa
