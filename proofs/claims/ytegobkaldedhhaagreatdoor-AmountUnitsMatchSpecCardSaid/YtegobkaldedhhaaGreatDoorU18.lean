
/- The walk of the reference: divisor. -/
import Derived.Test.YtegobkaldedhhaaGreatDoorU17
import Derived.Deep.LoopGhost
namespace Go.Proofs.YtegobkaldedhhaaGreatDoor
open Go.RowKit Limb
set_option linter.unusedVariables false
set_option linter.unusedSimpArgs false

theorem sgn0 : (if ((0 : Nat) : Int) < 0 then (-1 : Int) else if ((0 : Nat) : Int) = 0 then 0 else 1) = 0 := by simp
theorem sgn1 {Y : Nat} (h : 0 < Y) : (if ((Y : Nat) : Int) < 0 then (-1 : Int) else if ((Y : Nat) : Int) = 0 then 0 else 1) = 1 := by rw [if_neg (by omega), if_neg (by omega)]

set_option maxHeartbeats 4000000 in
set_option maxRecDepth 100000 in
theorem rdivisor_c (w : World) {s t : Bool} {A B : Option Addr} {n c k d : Nat} (X Y : Nat) (ha : Big .i64 3 B6 w s A n c (X : Int)) (hb : Big .i64 3 B6 w t B k d (Y : Int)) (sx : X < 10 ^ 190) (sy : Y < 10 ^ 190) :
    Calls Tryz.prog 31 #[.agg #[.bool s, .slice A n c], .agg #[.bool t, .slice B k d]] w (Makes .i64 3 B6 w ((Nat.gcd X Y : Nat) : Int)) := by
  have SX := Lib.hid sx; have SY := Lib.hid sy; clear sx sy
  have HA := Lib.hid ha; have HB := Lib.hid hb; clear ha hb
  go_enter Tryz.func31, Tryz.ntmps31
  go_wp2_with fail
  obtain ⟨N, hN⟩ : ∃ N, w.heap.size = N := ⟨_, rfl⟩
  have h3 := boxes3 w (.bool s) (.slice A n c) (.bool t) (.slice B k d) (.bool false) (.slice none 0 0) 61 61 61
  generalize ((w.alloc (.cells #[.bool s, .slice A n c] 61)).alloc (.cells #[.bool t, .slice B k d] 61)).alloc (.cells #[.bool false, .slice none 0 0] 61) = w3 at h3 ⊢
  obtain ⟨hP, hQ, hR, hB⟩ := h3 _ rfl
  clear h3
  have hX0 := HA.out.below hB
  have hY0 := HB.out.below hB
  clear HA HB
  rw [hN] at hP hQ hR ⊢
  have HN := Lib.hid hN
  have hBN : Hid (Below N w w3) := Lib.hid (by rw [← hN]; exact hB)
  clear hN hB
  go_loopg [] Y (fun kx wr => ∃ (X1 Y1 : Nat) (s : Bool) (A : Option Addr) (n c : Nat) (t : Bool) (B : Option Addr) (k d : Nat), wr.heap[N]? = some (.cells #[.bool s, .slice A n c] 61 (0, 0)) ∧ wr.heap[N + 1]? = some (.cells #[.bool t, .slice B k d] 61 (0, 0)) ∧ wr.heap[N + 1 + 1]? = some (.cells #[.bool false, .slice none 0 0] 61 (0, 0)) ∧
      Hid (Big .i64 3 B6 wr s A n c (X1 : Int)) ∧ Hid (Big .i64 3 B6 wr t B k d (Y1 : Int)) ∧ Hid (X1 < 10 ^ 190 ∧ Y1 < 10 ^ 190 ∧ Nat.gcd X1 Y1 = Nat.gcd X Y) ∧ Y1 ≤ kx ∧ Hid (Below N w wr))
  case atStart => exact ⟨X, Y, s, A, n, c, t, B, k, d, hP, hQ, hR, Lib.hid hX0, Lib.hid hY0, Lib.hid ⟨SX.out, SY.out, rfl⟩, Nat.le_refl _, hBN⟩
  case round =>
    clear hP hQ hR hX0 hY0 hBN
    obtain ⟨X1, Y1, s, A, n, c, t, B, k, d, hP, hQ, hR, HX1, HY1, HG, hk, hB⟩ := hrel
    obtain ⟨p0, p1, p2, p3, p4⟩ := box2 hP
    obtain ⟨q0, q1, q2, q3, q4⟩ := box2 hQ
    obtain ⟨r0, r1, r2, r3, r4⟩ := box2 hR
    have hwN : w.heap.size ≤ N := by have := HN.out; omega
    rcases Nat.eq_zero_or_pos Y1 with h0 | h0
    · subst h0
      go_wp2_with fail
      refine (sign_r HY1.out).mono ?_
      rintro e w4 ⟨hb4, rfl⟩
      rw [sgn0]
      have hP4 := heap_below hP hb4
      have hR4 := heap_below hR hb4
      have hX4 := HX1.out.below hb4
      have hB4 := below_then hb4 hB.out (by omega)
      have HGG := Lib.hid (show Nat.gcd X Y = X1 by have := HG.out.2.2; rw [Nat.gcd_zero_right] at this; exact this.symm)
      clear hb4 p0 p1 p2 p3 p4 q0 q1 q2 q3 q4 r0 r1 r2 r3 r4 HX1 HY1 hP hQ hR hB HG
      obtain ⟨p0, p1, p2, p3, p4⟩ := box2 hP4
      obtain ⟨r0, r1, r2, r3, r4⟩ := box2 hR4
      have hR5 := heap_set (heap_set hR4 0 (.bool s)) 1 (.slice A n c)
      have hX5 := hX4.box2 hR4 (by decide) (.bool s) (.slice A n c)
      have hB5 := (hB4.setCell (p := ⟨N + 1 + 1, 0, none⟩) (by dsimp only; omega) (.bool s)).setCell (p := ⟨N + 1 + 1, 1, none⟩) (by dsimp only; omega) (.slice A n c)
      have HX5 := Lib.hid hX5; have HB5 := Lib.hid hB5
      clear hX4 hB4 hP4 hR4 hX5 hB5
      go_wp2
      refine bodyPost_ret (v := .agg #[.bool s, .slice A n c]) (by simp [results, Tryz.results31, go_sem, r0, r1]) rfl ⟨s, A, n, c, rfl, by rw [HGG.out]; exact HX5.out, by rw [HN.out]; exact HB5.out⟩
    · have HS := Lib.hid (sgn1 h0)
      have hlt := Nat.mod_lt X1 h0
      obtain ⟨q', hq'⟩ : ∃ q', X1 / Y1 = q' := ⟨_, rfl⟩
      obtain ⟨r', hr'⟩ : ∃ r', X1 % Y1 = r' := ⟨_, rfl⟩
      have HDM := Lib.hid (fun W {s t : Bool} {A B : Option Addr} {n c k d : Nat} (ha : Big .i64 3 B6 W s A n c (X1 : Int)) (hb : Big .i64 3 B6 W t B k d (Y1 : Int)) => divmod_r W X1 Y1 ha hb HG.out.1 HG.out.2.1 h0)
      rw [hq', hr'] at HDM
      have HG2 := Lib.hid (show Y1 < 10 ^ 190 ∧ r' < 10 ^ 190 ∧ Nat.gcd Y1 r' = Nat.gcd X Y from ⟨HG.out.2.1, by have := HG.out.2.1; rw [← hr']; omega, by rw [← HG.out.2.2, ← hr', Nat.gcd_comm X1 Y1, Nat.gcd_rec Y1 X1, Nat.gcd_comm]⟩)
      rw [hr'] at hlt
      clear hq' hr'
      go_wp2_with fail
      refine (sign_r HY1.out).mono ?_
      rintro e w4 ⟨hb4, rfl⟩
      rw [HS.out]
      have hP4 := heap_below hP hb4
      have hQ4 := heap_below hQ hb4
      have hR4 := heap_below hR hb4
      have hX4 := HX1.out.below hb4
      have hY4 := HY1.out.below hb4
      have hB4 := below_then hb4 hB.out (by omega)
      clear hb4 p0 p1 p2 p3 p4 q0 q1 q2 q3 q4 r0 r1 r2 r3 r4 HX1 HY1 hP hQ hR hB HG
      obtain ⟨p0, p1, p2, p3, p4⟩ := box2 hP4
      obtain ⟨q0, q1, q2, q3, q4⟩ := box2 hQ4
      go_wp2_with fail
      refine (HDM.out _ hX4 hY4).mono ?_
      rintro e w5 ⟨s5, A5, n5, c5, s6, A6, n6, c6, rfl, hv5, hv6, hb5⟩
      have hP5 := heap_below hP4 hb5
      have hQ5 := heap_below hQ4 hb5
      have hR5 := heap_below hR4 hb5
      have hY5 := hY4.below hb5
      have hB5 := below_then hb5 hB4 (by omega)
      clear hb5 p0 p1 p2 p3 p4 q0 q1 q2 q3 q4 hX4 hY4 hP4 hQ4 hR4 hB4
      obtain ⟨M, hM⟩ : ∃ M, w5.heap.size = M := ⟨_, rfl⟩
      have hlM := lt_heap hR5
      rw [hM] at hlM
      go_upto_region 3 with fail
      obtain ⟨hU6, hV6, hb6⟩ := four w5 M (.bool s5) (.slice A5 n5 c5) (.bool s6) (.slice A6 n6 c6) hM _ rfl
      have hb6' : Below w5.heap.size w5 ((w5.alloc (.cells #[.bool s5, .slice A5 n5 c5] 61)).alloc (.cells #[.bool s6, .slice A6 n6 c6] 61)) := by rw [hM]; exact hb6
      try rw [hM]
      generalize (w5.alloc (.cells #[.bool s5, .slice A5 n5 c5] 61)).alloc (.cells #[.bool s6, .slice A6 n6 c6] 61) = w6 at hU6 hV6 hb6' ⊢
      have hP6 := heap_below hP5 hb6'
      have hQ6 := heap_below hQ5 hb6'
      have hR6 := heap_below hR5 hb6'
      have hY6 := Lib.hid (hY5.below hb6')
      have hv66 := Lib.hid (hv6.below hb6')
      have hB6 := Lib.hid (below_then hb6' hB5 (by omega))
      clear hb6 hb6' hP5 hQ5 hR5 hY5 hv5 hv6 hB5 hU6 hM
      obtain ⟨p0, p1, p2, p3, p4⟩ := box2 hP6
      obtain ⟨q0, q1, q2, q3, q4⟩ := box2 hQ6
      obtain ⟨u0, u1, -, -, u4⟩ := box2 hV6
      have HP6 := Lib.hid hP6; have HQ6 := Lib.hid hQ6; have HR6 := Lib.hid hR6
      clear hP6 hQ6 hR6 hV6
      go_region
      all_goals
        obtain ⟨z1, z2, z3, z4, -, z6⟩ := two_sets (w := w) (.bool t) (.slice B k d) (.bool s6) (.slice A6 n6 c6) HP6.out HQ6.out _ rfl
        have hR7 := z3 _ _ (by omega) (by omega) HR6.out
        have hY7 := Lib.hid (z4 _ _ _ _ _ hY6.out)
        have hv7 := Lib.hid (z4 _ _ _ _ _ hv66.out)
        have hB7 : Below N w _ := z6 N (Nat.le_refl _) hB6.out
        have HB7 := Lib.hid hB7
        clear z3 z4 z6 hB7
        go_wp2
        go_roundg r'
        case measure => omega
        case rel => exact ⟨Y1, r', t, B, k, d, s6, A6, n6, c6, by exact z1, by exact z2, by exact hR7, Lib.hid (by exact hY7.out), Lib.hid (by exact hv7.out), HG2, Nat.le_refl _, Lib.hid (by exact HB7.out.drew)⟩
end Go.Proofs.YtegobkaldedhhaaGreatDoor
