
/- The walk of the reference: Factor. -/
import Derived.Test.YtegobkaldedhhaaGreatDoorU18
import Derived.Test.YtegobkaldedhhaaGreatDoorR8
namespace Go.Proofs.YtegobkaldedhhaaGreatDoor
open Go.RowKit Limb
set_option linter.unusedVariables false
set_option linter.unusedSimpArgs false

theorem facF_zero {us : List Unt} {x y : List UInt8} (h : facF us x y = 0) : chkU us = 0 ∧ ∃ i k, idxU us x = some i ∧ idxU us y = some k := by
  unfold facF at h
  split at h
  · rename_i h1; exact absurd h h1
  · rename_i h1
    refine ⟨by omega, ?_⟩
    cases hx : idxU us x with
    | none => rw [hx] at h; simp at h
    | some i =>
      cases hy : idxU us y with
      | none => rw [hx, hy] at h; simp at h
      | some k => exact ⟨i, k, rfl, rfl⟩
theorem pq_bounds {us : List Unt} (h : chkU us = 0) {i k : Nat} (hi : i < us.length) (hk : k < us.length) : (0 < prodN (topL us i k) ∧ prodN (topL us i k) < 10 ^ 190) ∧ (0 < prodN (botL us i k) ∧ prodN (botL us i k) < 10 ^ 190) := by
  obtain ⟨t1, t2, t3, t4⟩ := top_bounds h hi hk
  have a1 := prodN_le (l := topL us i k) fun x hx => (t1 x hx).2
  have a2 := prodN_le (l := botL us i k) fun x hx => (t3 x hx).2
  have a3 : 1000000 ^ (topL us i k).length ≤ 1000000 ^ 10 := Nat.pow_le_pow_right (by decide) t2
  have a4 : 1000000 ^ (botL us i k).length ≤ 1000000 ^ 10 := Nat.pow_le_pow_right (by decide) t4
  have a5 : (1000000 : Nat) ^ 10 < 10 ^ 190 := by decide
  exact ⟨⟨prodN_pos fun x hx => (t1 x hx).1, by omega⟩, ⟨prodN_pos fun x hx => (t3 x hx).1, by omega⟩⟩
theorem low_yes {P Q : Nat} (h1 : P / Nat.gcd P Q ≤ 1000000000000000) (h2 : Q / Nat.gcd P Q ≤ 1000000000000000) : lowest P Q = (((P / Nat.gcd P Q : Nat) : Int), ((Q / Nat.gcd P Q : Nat) : Int), 0) := by unfold lowest; rw [if_pos ⟨h1, h2⟩]
theorem low_no {P Q : Nat} (h : ¬ (P / Nat.gcd P Q ≤ 1000000000000000 ∧ Q / Nat.gcd P Q ≤ 1000000000000000)) : lowest P Q = (0, 0, 1) := by unfold lowest; rw [if_neg h]

set_option maxHeartbeats 4000000 in
set_option maxRecDepth 100000 in
theorem rFactor_c (us : List Unt) (x y : ByteArray) (A : Option Addr) (n c : Nat) (w : World) (hU : Uns w A n us) (hn : n ≤ 9223372036854775807) :
    Calls Tryz.prog 8 #[.slice A n c, .string x, .string y] w (RetQ (ratR us x.data.toList y.data.toList) w) := by
  have HU := Lib.hid hU
  clear hU
  by_cases hf : facF us x.data.toList y.data.toList = 0
  case neg =>
    have K := Lib.hid (rat_fault hf)
    have hf' : (facF us x.data.toList y.data.toList != 0) = true := by simpa using hf
    clear hf
    go_enter Tryz.func8, Tryz.ntmps8
    go_wp2_with fail
    refine (ask_c us x y A n c _ (HU.out.alloc _) hn).mono ?_
    rintro e w1 ⟨rfl, hb1⟩
    have hR := heap_below (heap_new w _ rfl) hb1
    obtain ⟨g0, g1, g2, g3, g4⟩ := box2 hR
    have hbel := below_then hb1 (w := w) (B := w.heap.size) (by go_grown) (by simp only [World.size_alloc]; omega)
    generalize facF us x.data.toList y.data.toList = F at hf' K ⊢
    clear hb1
    go_wp2
    refine bodyPost_ret (v := .tuple #[.agg #[.int .i64 0, .int .i64 0], .int .i64 F]) (by simp [results, Tryz.results8, go_sem, g0, g1]) rfl ⟨by rw [K.out], ?_⟩
    go_grown
  obtain ⟨hck, i, k, hx, hy⟩ := facF_zero hf
  have hrk := rat_ok hf hx hy
  have hb := pq_bounds hck (idxU_some hx).1 (idxU_some hy).1
  have HRF := Lib.hid (fun W (h : Uns W A n us) => rfactor_c us x y A n c i k W h hn hck hx hy)
  obtain ⟨P, hP⟩ : ∃ P, prodN (topL us i k) = P := ⟨_, rfl⟩
  obtain ⟨Q, hQ⟩ : ∃ Q, prodN (botL us i k) = Q := ⟨_, rfl⟩
  rw [hP, hQ] at HRF hrk hb
  have K := Lib.hid hrk
  have HF := Lib.hid hf
  have HB := Lib.hid hb
  have hg0 : 0 < Nat.gcd P Q := Nat.gcd_pos_of_pos_left _ hb.1.1
  have hgP : Nat.gcd P Q ≤ P := Nat.gcd_le_left _ hb.1.1
  have HDV := Lib.hid (fun W {s t : Bool} {A B : Option Addr} {n c k d : Nat} (h1 : Big .i64 3 B6 W s A n c (P : Int)) (h2 : Big .i64 3 B6 W t B k d (Q : Int)) => rdivisor_c W P Q h1 h2 hb.1.2 hb.2.2)
  have HDP := Lib.hid (fun W {s t : Bool} {A B : Option Addr} {n c k d : Nat} (h1 : Big .i64 3 B6 W s A n c (P : Int)) (h2 : Big .i64 3 B6 W t B k d ((Nat.gcd P Q : Nat) : Int)) => divmod_r W P (Nat.gcd P Q) h1 h2 hb.1.2 (Nat.lt_of_le_of_lt hgP hb.1.2) hg0)
  have HDQ := Lib.hid (fun W {s t : Bool} {A B : Option Addr} {n c k d : Nat} (h1 : Big .i64 3 B6 W s A n c (Q : Int)) (h2 : Big .i64 3 B6 W t B k d ((Nat.gcd P Q : Nat) : Int)) => divmod_r W Q (Nat.gcd P Q) h1 h2 hb.2.2 (Nat.lt_of_le_of_lt hgP hb.1.2) hg0)
  have HLY := Lib.hid (low_yes (P := P) (Q := Q)); have HLN := Lib.hid (low_no (P := P) (Q := Q))
  obtain ⟨g, hg⟩ : ∃ g, Nat.gcd P Q = g := ⟨_, rfl⟩
  rw [hg] at HDV HDP HDQ HLY HLN
  obtain ⟨X, hX⟩ : ∃ X, P / g = X := ⟨_, rfl⟩
  obtain ⟨Y, hY⟩ : ∃ Y, Q / g = Y := ⟨_, rfl⟩
  rw [hX] at HDP HLY HLN
  rw [hY] at HDQ HLY HLN
  clear hf hck hx hy hrk hb hP hQ hg0 hgP hg hX hY
  go_enter Tryz.func8, Tryz.ntmps8
  go_wp2_with fail
  refine (ask_c us x y A n c _ (HU.out.alloc _) hn).mono ?_
  rintro e w1 ⟨rfl, hb1⟩
  rw [HF.out]
  have hR1 := heap_below (heap_new w _ rfl) hb1
  have hB1 := below_then hb1 (w := w) (B := w.heap.size) (by go_grown) (by simp only [World.size_alloc]; omega)
  clear hb1
  go_wp2_with fail
  refine (HRF.out _ (HU.out.below hB1)).mono ?_
  rintro e w2 ⟨s1, A1, n1, c1, s2, A2, n2, c2, rfl, hv1, hv2, hb2⟩
  have hR2 := heap_below hR1 hb2
  have hB2 := below_then hb2 hB1 hB1.size
  clear hb2 hR1 hB1
  obtain ⟨N, hN⟩ : ∃ N, w2.heap.size = N := ⟨_, rfl⟩
  have hlR := lt_heap hR2
  have hwN := hB2.size
  rw [hN] at hlR hwN
  go_upto_region 5 with fail
  obtain ⟨hX3, hY3, hb3⟩ := four w2 N (.bool s1) (.slice A1 n1 c1) (.bool s2) (.slice A2 n2 c2) hN _ rfl
  have hb3' : Below w2.heap.size w2 ((w2.alloc (.cells #[.bool s1, .slice A1 n1 c1] 61)).alloc (.cells #[.bool s2, .slice A2 n2 c2] 61)) := by rw [hN]; exact hb3
  try rw [hN]
  generalize (w2.alloc (.cells #[.bool s1, .slice A1 n1 c1] 61)).alloc (.cells #[.bool s2, .slice A2 n2 c2] 61) = w3 at hX3 hY3 hb3' ⊢
  have hR3 := heap_below hR2 hb3'
  have hv13 := hv1.below hb3'
  have hv23 := hv2.below hb3'
  have hB3 := below_then hb3' hB2 hB2.size
  clear hb3 hb3' hR2 hv1 hv2 hB2 hN
  obtain ⟨x0, x1, -, -, x4⟩ := box2 hX3
  obtain ⟨y0, y1, -, -, y4⟩ := box2 hY3
  go_wp2_with fail
  refine (HDV.out _ hv13 hv23).mono ?_
  rintro e w4 ⟨s4, A4, n4, c4, rfl, hv4, hb4⟩
  have hX4 := heap_old (heap_below hX3 hb4) (.cells #[.bool s4, .slice A4 n4 c4] 61)
  have hY4 := heap_old (heap_below hY3 hb4) (.cells #[.bool s4, .slice A4 n4 c4] 61)
  have hR4 := heap_old (heap_below hR3 hb4) (.cells #[.bool s4, .slice A4 n4 c4] 61)
  have hv14 := (hv13.below hb4).alloc (.cells #[.bool s4, .slice A4 n4 c4] 61)
  have hv24 := (hv23.below hb4).alloc (.cells #[.bool s4, .slice A4 n4 c4] 61)
  have hv44 := hv4.alloc (.cells #[.bool s4, .slice A4 n4 c4] 61)
  have hB4a := below_then hb4 hB3 hB3.size
  have hB4 := hB4a.alloc hB4a.size (.cells #[.bool s4, .slice A4 n4 c4] 61)
  have hZ4 := heap_new w4 (.cells #[.bool s4, .slice A4 n4 c4] 61) rfl
  have hlM := lt_heap (heap_below hY3 hb4)
  clear hb4 hX3 hY3 hR3 hv13 hv23 hv4 hB3 hB4a x0 x1 x4 y0 y1 y4
  generalize hM : w4.heap.size = M at *
  go_upto_region 6 with fail
  generalize w4.alloc (.cells #[.bool s4, .slice A4 n4 c4] 61) = w5 at *
  clear hM
  obtain ⟨x0, x1, -, -, x4⟩ := box2 hX4
  obtain ⟨z0, z1, -, -, z4⟩ := box2 hZ4
  go_wp2_with fail
  refine (HDP.out _ hv14 hv44).mono ?_
  rintro e w6 ⟨s6, A6, n6, c6, s7, A7, n7, c7, rfl, hv6, hv7, hb6⟩
  have hX6 := heap_below hX4 hb6
  have hY6 := heap_below hY4 hb6
  have hZ6 := heap_below hZ4 hb6
  have hR6 := heap_below hR4 hb6
  have hv26 := hv24.below hb6
  have hv46 := hv44.below hb6
  have hB6 := below_then hb6 hB4 hB4.size
  clear hb6 hX4 hY4 hZ4 hR4 hv14 hv24 hv44 hB4 x0 x1 x4 z0 z1 z4 hv7
  obtain ⟨x0, x1, x2, x3, x4⟩ := box2 hX6
  go_upto_region 7 with fail
  have hX7 := heap_set (heap_set hX6 0 (.bool s6)) 1 (.slice A6 n6 c6)
  have hY7 := heap_far (heap_far hY6 (p := ⟨N, 0, none⟩) (by dsimp only; omega) (.bool s6)) (p := ⟨N, 1, none⟩) (by dsimp only; omega) (.slice A6 n6 c6)
  have hZ7 := heap_far (heap_far hZ6 (p := ⟨N, 0, none⟩) (by dsimp only; omega) (.bool s6)) (p := ⟨N, 1, none⟩) (by dsimp only; omega) (.slice A6 n6 c6)
  have hR7 := heap_far (heap_far hR6 (p := ⟨N, 0, none⟩) (by dsimp only; omega) (.bool s6)) (p := ⟨N, 1, none⟩) (by dsimp only; omega) (.slice A6 n6 c6)
  have hv67 := hv6.box2 hX6 (by decide) (.bool s6) (.slice A6 n6 c6)
  have hv27 := hv26.box2 hX6 (by decide) (.bool s6) (.slice A6 n6 c6)
  have hv47 := hv46.box2 hX6 (by decide) (.bool s6) (.slice A6 n6 c6)
  have hB7 := (hB6.setCell (p := ⟨N, 0, none⟩) (by dsimp only; omega) (.bool s6)).setCell (p := ⟨N, 1, none⟩) (by dsimp only; omega) (.slice A6 n6 c6)
  generalize (w6.setCell ⟨N, 0, none⟩ (.bool s6)).setCell ⟨N, 1, none⟩ (.slice A6 n6 c6) = w7 at hX7 hY7 hZ7 hR7 hv67 hv27 hv47 hB7 ⊢
  clear hX6 hY6 hZ6 hR6 hv6 hv26 hv46 hB6 x0 x1 x2 x3 x4
  obtain ⟨y0, y1, y2, y3, y4⟩ := box2 hY7
  obtain ⟨z0, z1, -, -, z4⟩ := box2 hZ7
  go_wp2_with fail
  refine (HDQ.out _ hv27 hv47).mono ?_
  rintro e w8 ⟨s8, A8, n8, c8, s9, A9, n9, c9, rfl, hv8, hv9, hb8⟩
  have hX8 := heap_below hX7 hb8
  have hY8 := heap_below hY7 hb8
  have hR8 := heap_below hR7 hb8
  have hv68 := hv67.below hb8
  have hB8 := below_then hb8 hB7 hB7.size
  clear hb8 hX7 hY7 hZ7 hR7 hv67 hv27 hv47 hB7 y0 y1 y2 y3 y4 z0 z1 z4 hv9
  obtain ⟨y0, y1, y2, y3, y4⟩ := box2 hY8
  go_upto_region 8 with fail
  have hX9 := heap_far (heap_far hX8 (p := ⟨N + 1, 0, none⟩) (by dsimp only; omega) (.bool s8)) (p := ⟨N + 1, 1, none⟩) (by dsimp only; omega) (.slice A8 n8 c8)
  have hY9 := heap_set (heap_set hY8 0 (.bool s8)) 1 (.slice A8 n8 c8)
  have hR9 := heap_far (heap_far hR8 (p := ⟨N + 1, 0, none⟩) (by dsimp only; omega) (.bool s8)) (p := ⟨N + 1, 1, none⟩) (by dsimp only; omega) (.slice A8 n8 c8)
  have hv69 := hv68.box2 hY8 (by decide) (.bool s8) (.slice A8 n8 c8)
  have hv89 := hv8.box2 hY8 (by decide) (.bool s8) (.slice A8 n8 c8)
  have hB9 := (hB8.setCell (p := ⟨N + 1, 0, none⟩) (by dsimp only; omega) (.bool s8)).setCell (p := ⟨N + 1, 1, none⟩) (by dsimp only; omega) (.slice A8 n8 c8)
  generalize (w8.setCell ⟨N + 1, 0, none⟩ (.bool s8)).setCell ⟨N + 1, 1, none⟩ (.slice A8 n8 c8) = w9 at hX9 hY9 hR9 hv69 hv89 hB9 ⊢
  clear hX8 hY8 hR8 hv68 hv8 hB8 y0 y1 y2 y3 y4
  simp only [List.setIfInBounds_toArray, List.set_cons_zero, List.set_cons_succ] at hX9 hY9
  obtain ⟨x0, x1, -, -, x4⟩ := box2 hX9
  obtain ⟨y0, y1, -, -, y4⟩ := box2 hY9
  go_wp2_with fail
  refine (small_r _ 1000000000000000 hv69 (by omega)).mono ?_
  rintro e wa ⟨rfl, hba⟩
  have hYa := heap_below hY9 hba
  have hRa := heap_below hR9 hba
  have hv8a := hv89.below hba
  have hBa := below_then hba hB9 hB9.size
  clear hba hX9 hY9 hR9 hv69 hv89 hB9 x0 x1 x4 y0 y1 y4
  obtain ⟨y0, y1, -, -, y4⟩ := box2 hYa
  go_wp2_with fail
  refine (small_r _ 1000000000000000 hv8a (by omega)).mono ?_
  rintro e wb ⟨rfl, hbb⟩
  have hRb := heap_below hRa hbb
  have hBb := below_then hbb hBa hBa.size
  clear hbb hYa hRa hv8a hBa y0 y1 y4
  obtain ⟨g0, g1, g2, g3, g4⟩ := box2 hRb
  by_cases xx : X ≤ 1000000000000000
  · by_cases yy : Y ≤ 1000000000000000
    · have v1 := made_fit ((X : Nat) : Int) 0 (by omega)
      have v2 := made_fit ((Y : Nat) : Int) 0 (by omega)
      rw [v1.2.1, v1.2.2, v2.2.1, v2.2.2]
      have HE := Lib.hid (K.out.trans (HLY.out xx yy))
      clear v1 v2
      go_wp2
      refine bodyPost_ret (v := .tuple #[.agg #[.int .i64 (X : Int), .int .i64 (Y : Int)], .int .i64 0]) (by simp [results, Tryz.results8, go_sem, g0, g1]) rfl ⟨by rw [HE.out], ?_⟩
      go_grown
    · have v1 := made_fit ((X : Nat) : Int) 0 (by omega)
      have v2 := made_not ((Y : Nat) : Int) 0 (by omega)
      rw [v1.2.1, v1.2.2, v2.2.1, v2.2.2]
      have HE := Lib.hid (K.out.trans (HLN.out (fun h => yy h.2)))
      clear v1 v2
      go_wp2
      refine bodyPost_ret (v := .tuple #[.agg #[.int .i64 0, .int .i64 0], .int .i64 1]) (by simp [results, Tryz.results8, go_sem, g0, g1]) rfl ⟨by rw [HE.out], ?_⟩
      go_grown
  · have v1 := made_not ((X : Nat) : Int) 0 (by omega)
    rw [v1.2.1, v1.2.2]
    have HE := Lib.hid (K.out.trans (HLN.out (fun h => xx h.1)))
    clear v1
    go_wp2
    refine bodyPost_ret (v := .tuple #[.agg #[.int .i64 0, .int .i64 0], .int .i64 1]) (by simp [results, Tryz.results8, go_sem, g0, g1]) rfl ⟨by rw [HE.out], ?_⟩
    go_grown
end Go.Proofs.YtegobkaldedhhaaGreatDoor
