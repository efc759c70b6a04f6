
/- The walk of the reference: factor. -/
import Derived.Test.YtegobkaldedhhaaGreatDoorU16
import Derived.Test.YtegobkaldedhhaaGreatDoorRX
namespace Go.Proofs.YtegobkaldedhhaaGreatDoor
open Go.RowKit Limb
set_option linter.unusedVariables false
set_option linter.unusedSimpArgs false

theorem four (w : World) (N : Nat) (x0 x1 y0 y1 : Value) (hN : w.heap.size = N) : ∀ w3, (w.alloc (.cells #[x0, x1] 61)).alloc (.cells #[y0, y1] 61) = w3 →
    w3.heap[N]? = some (.cells #[x0, x1] 61 (0, 0)) ∧ w3.heap[N + 1]? = some (.cells #[y0, y1] 61 (0, 0)) ∧ Below N w w3 := by
  intro w3 h
  subst h; subst hN
  exact ⟨heap_old (heap_new _ _ rfl) _, heap_new _ _ (by simp), by go_grown⟩
theorem chL_lens {us : List Unt} (h : chkU us = 0) {i : Nat} (hi : i < us.length) : prodN ((chL us i).map (xU us)) ≤ 1000000 ^ 5 ∧ prodN ((chL us i).map (yU us)) ≤ 1000000 ^ 5 := by
  obtain ⟨_, l1, b1⟩ := chL_ok h hi
  have h1 := prod_small (f := xU us) (l := chL us i) (j := (chL us i).length) (fun x hx => (fac_bounds h (b1 x hx)).1.2) l1
  have h2 := prod_small (f := yU us) (l := chL us i) (j := (chL us i).length) (fun x hx => (fac_bounds h (b1 x hx)).2.1.2) l1
  rw [List.take_length] at h1 h2
  exact ⟨h1, h2⟩

set_option maxHeartbeats 2000000 in
set_option maxRecDepth 100000 in
theorem rfactor_c (us : List Unt) (x y : ByteArray) (A : Option Addr) (n c i k : Nat) (w : World) (hU : Uns w A n us) (hn : n ≤ 9223372036854775807) (h0 : chkU us = 0) (hx : idxU us x.data.toList = some i) (hy : idxU us y.data.toList = some k) :
    Calls Tryz.prog 30 #[.slice A n c, .string x, .string y] w (Makes2 .i64 3 B6 w ((prodN (topL us i k) : Nat) : Int) ((prodN (botL us i k) : Nat) : Int)) := by
  have HU := Lib.hid hU; clear hU
  have H0 := Lib.hid h0; have HX := Lib.hid hx; have HY := Lib.hid hy
  have hli := chL_lens h0 (idxU_some hx).1
  have hlk := chL_lens h0 (idxU_some hy).1
  have htop : prodN (topL us i k) = prodN ((chL us i).map (xU us)) * prodN ((chL us k).map (yU us)) := by unfold topL; rw [prodN_append]
  have hbot : prodN (botL us i k) = prodN ((chL us i).map (yU us)) * prodN ((chL us k).map (xU us)) := by unfold botL; rw [prodN_append]
  rw [htop, hbot]
  clear htop hbot h0 hx hy
  have T1 := Lib.hid (fun W (h : Uns W A n us) => tobase_c us x A n c i W h hn H0.out HX.out)
  have T2 := Lib.hid (fun W (h : Uns W A n us) => tobase_c us y A n c k W h hn H0.out HY.out)
  obtain ⟨a, ha⟩ : ∃ a, prodN ((chL us i).map (xU us)) = a := ⟨_, rfl⟩
  obtain ⟨b, hb⟩ : ∃ b, prodN ((chL us i).map (yU us)) = b := ⟨_, rfl⟩
  obtain ⟨c', hc⟩ : ∃ c', prodN ((chL us k).map (xU us)) = c' := ⟨_, rfl⟩
  obtain ⟨d, hd⟩ : ∃ d, prodN ((chL us k).map (yU us)) = d := ⟨_, rfl⟩
  rw [ha, hb] at T1 hli
  rw [hc, hd] at T2 hlk
  rw [ha, hb, hc, hd]
  have sa := small_prod hli.1; have sb := small_prod hli.2; have sc := small_prod hlk.1; have sd := small_prod hlk.2
  have SA := Lib.hid sa; have SB := Lib.hid sb; have SC := Lib.hid sc; have SD := Lib.hid sd
  clear ha hb hc hd hli hlk HX HY H0 sa sb sc sd
  go_enter Tryz.func30, Tryz.ntmps30
  go_wp2_with fail
  refine (T1.out _ ((HU.out.alloc _).alloc _)).mono ?_
  rintro e w1 ⟨s1, A1, n1, c1, s2, A2, n2, c2, rfl, hv1, hv2, hb1⟩
  have hR1 := heap_below (heap_old (heap_new w (.cells #[.bool false, .slice none 0 0] 61) rfl) (.cells #[.bool false, .slice none 0 0] 61)) hb1
  have hS1 := heap_below (heap_new (w.alloc (.cells #[.bool false, .slice none 0 0] 61)) (.cells #[.bool false, .slice none 0 0] 61) rfl) hb1
  simp only [World.size_alloc] at hS1
  have hB1 := below_then hb1 (w := w) (B := w.heap.size) (by go_grown) (by simp only [World.size_alloc]; omega)
  clear hb1
  obtain ⟨N, hN⟩ : ∃ N, w1.heap.size = N := ⟨_, rfl⟩
  have hzN := hB1.size
  have hlS := lt_heap hS1
  rw [hN] at hzN hlS
  go_upto_region 2 with fail
  obtain ⟨hX1, hY1, hb2⟩ := four w1 N (.bool s1) (.slice A1 n1 c1) (.bool s2) (.slice A2 n2 c2) hN _ rfl
  have hb2' : Below w1.heap.size w1 ((w1.alloc (.cells #[.bool s1, .slice A1 n1 c1] 61)).alloc (.cells #[.bool s2, .slice A2 n2 c2] 61)) := by rw [hN]; exact hb2
  try rw [hN]
  generalize (w1.alloc (.cells #[.bool s1, .slice A1 n1 c1] 61)).alloc (.cells #[.bool s2, .slice A2 n2 c2] 61) = w2 at hX1 hY1 hb2' ⊢
  have hR2 := heap_below hR1 hb2'
  have hS2 := heap_below hS1 hb2'
  have hv12 := hv1.below hb2'
  have hv22 := hv2.below hb2'
  have hB2 := below_then hb2' hB1 hB1.size
  clear hb2 hb2' hB1 hR1 hS1 hv1 hv2 hN
  go_wp2_with fail
  refine (T2.out _ (HU.out.below hB2)).mono ?_
  rintro e w3 ⟨s3, A3, n3, c3, s4, A4, n4, c4, rfl, hv3, hv4, hb3⟩
  have hR3 := heap_below hR2 hb3
  have hS3 := heap_below hS2 hb3
  have hX3 := heap_below hX1 hb3
  have hY3 := heap_below hY1 hb3
  have hv13 := hv12.below hb3
  have hv23 := hv22.below hb3
  have hB3 := below_then hb3 hB2 hB2.size
  clear hb3 hB2 hR2 hS2 hX1 hY1 hv12 hv22
  obtain ⟨M, hM⟩ : ∃ M, w3.heap.size = M := ⟨_, rfl⟩
  have hlY := lt_heap hY3
  rw [hM] at hlY
  go_upto_region 3 with fail
  obtain ⟨hV1, hW1, hb4⟩ := four w3 M (.bool s3) (.slice A3 n3 c3) (.bool s4) (.slice A4 n4 c4) hM _ rfl
  have hb4' : Below w3.heap.size w3 ((w3.alloc (.cells #[.bool s3, .slice A3 n3 c3] 61)).alloc (.cells #[.bool s4, .slice A4 n4 c4] 61)) := by rw [hM]; exact hb4
  try rw [hM]
  generalize (w3.alloc (.cells #[.bool s3, .slice A3 n3 c3] 61)).alloc (.cells #[.bool s4, .slice A4 n4 c4] 61) = w4 at hV1 hW1 hb4' ⊢
  have hR4 := Lib.hid (heap_below hR3 hb4')
  have hS4 := Lib.hid (heap_below hS3 hb4')
  have hX4 := heap_below hX3 hb4'
  have hY4 := heap_below hY3 hb4'
  have hv14 := Lib.hid (hv13.below hb4')
  have hv24 := Lib.hid (hv23.below hb4')
  have hv34 := Lib.hid (hv3.below hb4')
  have hv44 := Lib.hid (hv4.below hb4')
  have HB4 := Lib.hid (below_then hb4' hB3 hB3.size)
  clear hb4 hb4' hB3 hR3 hS3 hX3 hY3 hv13 hv23 hv3 hv4 hM
  obtain ⟨x0, x1, -, -, x4⟩ := box2 hX4
  obtain ⟨y0, y1, -, -, y4⟩ := box2 hY4
  obtain ⟨z0, z1, -, -, z4⟩ := box2 hV1
  obtain ⟨u0, u1, -, -, u4⟩ := box2 hW1
  have HX4 := Lib.hid hX4; have HY4 := Lib.hid hY4; have HV4 := Lib.hid hV1; have HW4 := Lib.hid hW1
  clear hX4 hY4 hV1 hW1
  go_region_held3 (fun w' => w'.cell? ⟨N, 0, none⟩ = some (.bool s1) ∧ w'.cell? ⟨N, 1, none⟩ = some (.slice A1 n1 c1) ∧ w'.cell? ⟨N + 1, 0, none⟩ = some (.bool s2) ∧ w'.cell? ⟨N + 1, 1, none⟩ = some (.slice A2 n2 c2) ∧ w'.cell? ⟨M, 0, none⟩ = some (.bool s3) ∧ w'.cell? ⟨M, 1, none⟩ = some (.slice A3 n3 c3) ∧ w'.cell? ⟨M + 1, 0, none⟩ = some (.bool s4) ∧ w'.cell? ⟨M + 1, 1, none⟩ = some (.slice A4 n4 c4))
    (first | ((with_reducible refine ⟨cell_past2 k0 ?_, cell_past2 k1 ?_, cell_past2 k2 ?_, cell_past2 k3 ?_, cell_past2 k4 ?_, cell_past2 k5 ?_, cell_past2 k6 ?_, cell_past2 k7 ?_⟩) <;> omega; done) | ((with_reducible refine ⟨cell_past2 (cell_past2 k0 ?_) ?_, cell_past2 (cell_past2 k1 ?_) ?_, cell_past2 (cell_past2 k2 ?_) ?_, cell_past2 (cell_past2 k3 ?_) ?_, cell_past2 (cell_past2 k4 ?_) ?_, cell_past2 (cell_past2 k5 ?_) ?_, cell_past2 (cell_past2 k6 ?_) ?_, cell_past2 (cell_past2 k7 ?_) ?_⟩) <;> omega; done) | (go_keep; done) | (with_reducible refine ⟨?_, ?_, ?_, ?_, ?_, ?_, ?_, ?_⟩ <;> assumption))
    (first
      | (go_at_call_of 50 (Value.agg #[Value.bool s1, Value.slice A1 n1 c1]); refine (timesof_r _ (x := ((a : Nat) : Int)) (y := ((d : Nat) : Int)) (by exact hv14.out) (by exact hv44.out) SA.out SD.out).mono ?_; rintro e w5 ⟨s5, A5, n5, c5, rfl, hv5, hb5⟩; (have HV5 := Lib.hid hv5); (have HB5 := Lib.hid hb5); (have HX5 := Lib.hid (heap_below (w := w4.drew) HX4.out hb5)); (have HY5 := Lib.hid (heap_below (w := w4.drew) HY4.out hb5)); (have HZ5 := Lib.hid (heap_below (w := w4.drew) HV4.out hb5)); (have HW5 := Lib.hid (heap_below (w := w4.drew) HW4.out hb5)); (have hR5 := Lib.hid (heap_below (w := w4.drew) hR4.out hb5)); (have hS5 := Lib.hid (heap_below (w := w4.drew) hS4.out hb5)); clear hv5 hb5; obtain ⟨i0, i1, -, -, -⟩ := box2 HX5.out; obtain ⟨i2, i3, -, -, -⟩ := box2 HY5.out; obtain ⟨i4, i5, -, -, -⟩ := box2 HZ5.out; obtain ⟨i6, i7, -, -, -⟩ := box2 HW5.out)
      | (go_at_call_of 50 (Value.agg #[Value.bool s2, Value.slice A2 n2 c2]); refine (timesof_r _ (x := ((b : Nat) : Int)) (y := ((c' : Nat) : Int)) (by exact Big.below (w := w4.drew) hv24.out HB5.out) (by exact Big.below (w := w4.drew) hv34.out HB5.out) SB.out SC.out).mono ?_; rintro e w6 ⟨s6, A6, n6, c6, rfl, hv6, hb6⟩; (have HV6 := Lib.hid hv6); (have HB6 := Lib.hid hb6); (have HX6 := heap_below HX5.out hb6); (have HY6 := heap_below HY5.out hb6); (have HZ6 := heap_below HZ5.out hb6); (have HW6 := heap_below HW5.out hb6); (have hR6 := Lib.hid (heap_below hR5.out hb6)); (have hS6 := Lib.hid (heap_below hS5.out hb6)); clear hv6 hb6; obtain ⟨k0, k1, -, -, -⟩ := box2 HX6; obtain ⟨k2, k3, -, -, -⟩ := box2 HY6; obtain ⟨k4, k5, -, -, -⟩ := box2 HZ6; obtain ⟨k6, k7, -, -, -⟩ := box2 HW6; obtain ⟨f0, f1, f2, f3, -⟩ := box2 hR6.out; obtain ⟨g0, g1, g2, g3, -⟩ := box2 hS6.out)
      | fail)
  all_goals
    obtain ⟨t1, t2, -, t4, -, t6⟩ := two_sets (w := w) (.bool s5) (.slice A5 n5 c5) (.bool s6) (.slice A6 n6 c6) hR6.out hS6.out _ rfl
    have hB5 := below_then HB5.out HB4.out.drew (by exact HB4.out.size)
    have hB6 := below_then HB6.out hB5 hB5.size
    obtain ⟨o0, o1, -, -, -⟩ := box2 t1
    obtain ⟨q0, q1, -, -, -⟩ := box2 t2
    go_wp2
    refine bodyPost_ret (v := .tuple #[.agg #[.bool s5, .slice A5 n5 c5], .agg #[.bool s6, .slice A6 n6 c6]]) (by simp [results, Tryz.results30, go_sem, o0, o1, q0, q1]) rfl ⟨s5, A5, n5, c5, s6, A6, n6, c6, rfl, by exact t4 _ _ _ _ _ (HV5.out.below HB6.out), by exact t4 _ _ _ _ _ HV6.out, by exact t6 _ (Nat.le_refl _) hB6⟩
end Go.Proofs.YtegobkaldedhhaaGreatDoor
