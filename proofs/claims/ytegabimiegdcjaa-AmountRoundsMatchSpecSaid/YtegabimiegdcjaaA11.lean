
/- The walk of package amount: Rounded. -/
import Derived.Test.YtegabimiegdcjaaA10
import Derived.Test.YtegabimiegdcjaaN2
namespace Go.Proofs.Ytegabimiegdcjaa
open Go.RowKit Limb

theorem roundedR_bad {u p q v : Int} (h : decB u p = false) : roundedR u p q v = (0, 0, 1) := by unfold roundedR; rw [if_pos h]
theorem roundedR_way {u p q v : Int} (h : decB u p = true) (hw : wayF q v ≠ 0) : roundedR u p q v = (0, 0, wayF q v) := by
  unfold roundedR wayF at *
  rw [if_neg (by rw [h]; simp)]
  split
  · rfl
  · rename_i h1
    rw [if_neg h1] at hw
    split
    · rfl
    · rename_i h2; rw [if_neg h2] at hw; exact absurd rfl hw
theorem roundedR_val {u p q v : Int} (h : decB u p = true) (hw : wayF q v = 0) : (0 ≤ q ∧ q ≤ 9) ∧ (1 ≤ v ∧ v ≤ 6) ∧ roundedR u p q v = made (rnd (scaled u p 9) (10 ^ (9 - q.toNat)) v) q := by
  unfold wayF at hw
  split at hw
  · omega
  · rename_i h1
    split at hw
    · omega
    · rename_i h2
      refine ⟨by omega, by omega, ?_⟩
      unfold roundedR
      rw [if_neg (by rw [h]; simp), if_neg h1, if_neg h2]
theorem scaled_190 {u p : Int} (h : decB u p = true) : (scaled u p 9).natAbs < 10 ^ 190 := by
  have h1 := decB_out h
  have := scaled_bound (p := p) (u := u) (q := 9) (by omega) (by omega)
  have h2 : 10 ^ 25 ≤ 10 ^ 190 := Nat.pow_le_pow_right (by omega) (by omega)
  have h3 : 10 ^ 25 = 10000000000000000000000000 := by decide
  omega
theorem pow9_190 {k : Nat} (h : k ≤ 9) : 10 ^ k < 10 ^ 190 := Nat.pow_lt_pow_right (by omega) (by omega)

set_option maxHeartbeats 2000000 in
set_option maxRecDepth 100000 in
theorem rounded_c (u p q v : Int) (w : World) :
    Calls Try.prog 16 #[.agg #[.int .i64 u, .int .i64 p], .int .i64 q, .int .i64 v] w (RetD (roundedR u p q v) w) := by
  cases hd : decB u p with
  | false =>
    rw [roundedR_bad hd]
    have HD := Lib.hid hd; clear hd
    go_enter Try.func16, Try.ntmps16
    go_wp2_with fail
    refine (chk_bad _ _ _ HD.out).mono ?_
    rintro e w1 ⟨rfl, hb1⟩
    have hR := heap_below (heap_new (w.alloc _) (.cells #[.int .i64 0, .int .i64 0] 23) rfl) hb1
    simp only [World.size_alloc] at hR
    have hbel := below_then hb1 (B := w.heap.size) (w := w) (by go_grown) (by simp only [World.size_alloc]; omega)
    obtain ⟨g0, g1, g2, g3, g4⟩ := box2 hR
    go_wp2
    refine bodyPost_ret (v := .tuple #[.agg #[.int .i64 0, .int .i64 0], .int .i64 1]) (by simp [results, Try.results16, go_sem, g0, g1]) rfl ⟨rfl, ?_⟩
    go_grown
  | true =>
    have HD := Lib.hid hd
    obtain ⟨W, hW⟩ : ∃ W, wayF q v = W := ⟨_, rfl⟩
    have HW := Lib.hid hW
    by_cases h0 : W = 0
    · subst h0
      obtain ⟨hq, hv, hval⟩ := roundedR_val hd hW
      rw [hval]
      obtain ⟨Q, rfl⟩ : ∃ Q : Nat, q = (Q : Int) := ⟨q.toNat, by omega⟩
      rw [Int.toNat_natCast]
      have hQ9 : Q ≤ 9 := by omega
      have e9 : (9 : Int) - (Q : Int) = ((9 - Q : Nat) : Int) := by omega
      have HE := Lib.hid e9
      obtain ⟨R, hR0⟩ : ∃ R, made (rnd (scaled u p 9) (10 ^ (9 - Q)) v) (Q : Int) = R := ⟨_, rfl⟩
      rw [hR0]
      have HR0 := Lib.hid hR0
      obtain ⟨hv1, hv2⟩ := hv
      clear hd hW hval hq e9 hR0
      go_enter Try.func16, Try.ntmps16
      go_wp2_with fail
      refine (chk_ok _ _ _ HD.out).mono ?_
      rintro e w1 ⟨rfl, hb1⟩
      have hX := heap_below (heap_old (heap_new w (.cells #[.int .i64 u, .int .i64 p] 23) rfl) _) hb1
      have hR := heap_below (heap_new (w.alloc _) (.cells #[.int .i64 0, .int .i64 0] 23) rfl) hb1
      simp only [World.size_alloc] at hR
      have hbel := below_then hb1 (B := w.heap.size) (w := w) (by go_grown) (by simp only [World.size_alloc]; omega)
      clear hb1
      obtain ⟨x0, x1, -, -, -⟩ := box2 hX
      go_wp2_with fail
      refine (wayfault_c _ _ _).mono ?_
      rintro e w2 ⟨rfl, rfl⟩
      rw [HW.out]
      go_wp2_with fail
      refine (value_c u p _ HD.out).mono ?_
      rintro e w3 ⟨s3, A3, n3, c3, rfl, hv3, hb3⟩
      have hR3 := heap_below hR hb3
      have hbel3 := below_then hb3 hbel hbel.size
      clear hX hR hbel x0 x1
      go_wp2_with fail
      rw [HE.out]
      refine (power_c _ _ (by omega)).mono ?_
      rintro e w4 ⟨s4, A4, n4, c4, rfl, hv4, hb4⟩
      have hR4 := heap_below hR3 hb4
      have hbel4 := below_then hb4 hbel3 hbel3.size
      have hv3 := hv3.below hb4
      clear hR3 hbel3 hb3 hb4
      go_wp2_with fail
      refine (divided_c _ _ (10 ^ (9 - Q)) v hv3 hv4 (scaled_190 HD.out) (pow9_190 (by omega)) (Nat.pow_pos (by omega)) ⟨hv1, hv2⟩).mono ?_
      rintro e w5 ⟨s5, A5, n5, c5, rfl, hv5, hb5⟩
      have hR5 := heap_below hR4 hb5
      have hbel5 := below_then hb5 hbel4 hbel4.size
      clear hR4 hbel4 hb5 hv3 hv4
      go_wp2_with fail
      refine (mk_c _ (Q : Int) hv5).mono ?_
      rintro e w6 ⟨rfl, hb6⟩
      rw [HR0.out]
      have hR6 := heap_below hR5 hb6
      have hbel6 := below_then hb6 hbel5 hbel5.size
      obtain ⟨g0, g1, g2, g3, g4⟩ := box2 hR6
      obtain ⟨R1, R2, R3⟩ := R
      go_wp2
      refine bodyPost_ret (v := .tuple #[.agg #[.int .i64 R1, .int .i64 R2], .int .i64 R3]) (by simp [results, Try.results16, go_sem, g0, g1]) rfl ⟨rfl, ?_⟩
      go_grown
    · rw [roundedR_way hd (by rw [hW]; exact h0), hW]
      have h0' : (W != 0) = true := by simpa using h0
      clear hd hW h0
      go_enter Try.func16, Try.ntmps16
      go_wp2_with fail
      refine (chk_ok _ _ _ HD.out).mono ?_
      rintro e w1 ⟨rfl, hb1⟩
      have hR := heap_below (heap_new (w.alloc _) (.cells #[.int .i64 0, .int .i64 0] 23) rfl) hb1
      simp only [World.size_alloc] at hR
      have hbel := below_then hb1 (B := w.heap.size) (w := w) (by go_grown) (by simp only [World.size_alloc]; omega)
      obtain ⟨g0, g1, g2, g3, g4⟩ := box2 hR
      go_wp2_with fail
      refine (wayfault_c _ _ _).mono ?_
      rintro e w2 ⟨rfl, rfl⟩
      rw [HW.out]
      go_wp2
      refine bodyPost_ret (v := .tuple #[.agg #[.int .i64 0, .int .i64 0], .int .i64 W]) (by simp [results, Try.results16, go_sem, g0, g1]) rfl ⟨rfl, ?_⟩
      go_grown

end Go.Proofs.Ytegabimiegdcjaa
