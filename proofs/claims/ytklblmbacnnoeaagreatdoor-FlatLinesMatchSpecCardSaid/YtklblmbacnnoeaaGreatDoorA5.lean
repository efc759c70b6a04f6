/- The walks of package whole: Odd, Int, Power. The walk of package whole: Power. The walks of package amount: CheckDecimal, CheckDecimals. The walks of package amount: Value, Made, Compare, Sum. The walk of package amount: Sum. The walk of awake: ReadText at one text. The walks of Cut at one byte, isWhole, read, ReadText. -/
import Derived.Test.YtklblmbacnnoeaaGreatDoorW7
import Derived.Deep.RegionWith
import Derived.Test.YtklblmbacnnoeaaGreatDoorF0
import Derived.Lib.Strings
import Derived.Lib.IndexBytes
import Derived.Lib.Bytealg
import Derived.Lib.IndexLaws
-- merged: W8 W9 A1 A2 A3 A4 A5

namespace Go.Proofs.YtklblmbacnnoeaaGreatDoor
open Go.RowKit Limb

/-- A number as an int, if it is not beyond a bound. -/
def fitB (z : Int) (most : Nat) : Bool := decide (z.natAbs ≤ most)
def fitV (z : Int) (most : Nat) : Int := if z.natAbs ≤ most then z else 0

theorem val_len1 {l : List Nat} (h : l.length = 1) : val B32 l = dg l 0 := by
  match l, h with
  | [a], _ => simp [val, dg]
theorem val_len2 {l : List Nat} (h : l.length = 2) : val B32 l = dg l 0 + 4294967296 * dg l 1 := by
  match l, h with
  | [a, b], _ => simp [val, dg, B32]
theorem or_one (x : Nat) (h : x < 4294967296) : bits .or .u64 0 (x : Int) = (x : Int) := by
  have := u64_or_nat 0 x (by omega) (by omega)
  rw [Nat.zero_or] at this
  exact this
theorem or_two (x y : Nat) (h : x < 4294967296) (h2 : y < 4294967296) : bits .or .u64 (x : Int) ((y : Int) * 4294967296) = ((x + 4294967296 * y : Nat) : Int) := by
  have e : (y : Int) * 4294967296 = ((y * 4294967296 : Nat) : Int) := by rw [Int.natCast_mul]; rfl
  have h3 := u64_or_nat x (y * 4294967296) (by omega) (by omega)
  have h4 := Nat.two_pow_add_eq_or_of_lt (i := 32) (b := x) (by omega) y
  rw [Nat.or_comm] at h4
  have e2 : 2 ^ 32 * y = y * 4294967296 := by rw [Nat.mul_comm]
  rw [e2] at h4
  rw [e, h3, ← h4]
  congr 1
  omega

set_option maxHeartbeats 1000000 in
set_option maxRecDepth 100000 in
theorem int_c (w : World) {s : Bool} {A : Option Addr} {n c : Nat} {z : Int} (most : Nat) (h : Big .u32 161 B32 w s A n c z) (hm : most ≤ 4611686018427387904) :
    Calls Tryz.prog 183 #[.agg #[.bool s, .slice A n c], .int .i64 (most : Int)] w fun e w' => e = .returned (.tuple #[.int .i64 (fitV z most), .bool (fitB z most)]) ∧ Below w.heap.size w w' := by
  obtain ⟨l, hd, hnc, hcm, gl, nl, sl, rfl⟩ := h
  rcases Nat.lt_or_ge 2 n with h2 | h2
  · have hv : most < val B32 l := by
      have h1 := val_ge (b := B32) nl (by intro e; have := hd.1; rw [e] at this; simp at this; omega)
      have h3 : B32 ^ 2 ≤ B32 ^ (l.length - 1) := Nat.pow_le_pow_right (by decide) (by rw [hd.1]; omega)
      have h4 : B32 ^ 2 = 18446744073709551616 := by decide
      omega
    have e1 : fitV (sg s (val B32 l)) most = 0 := by unfold fitV; rw [sg_natAbs, if_neg (by omega)]
    have e2 : fitB (sg s (val B32 l)) most = false := by unfold fitB; rw [sg_natAbs]; simp; omega
    rw [e1, e2]
    clear e1 e2 hv
    go_enter Tryz.func183, Tryz.ntmps183
    go_wp2
    go_ret2
    exact ⟨rfl, by go_grown⟩
  · have hv : val B32 l < 18446744073709551616 := by
      have h1 := val_lt gl
      have h3 : B32 ^ l.length ≤ B32 ^ 2 := Nat.pow_le_pow_right (by decide) (by rw [hd.1]; omega)
      have h4 : B32 ^ 2 = 18446744073709551616 := by decide
      omega
    have b0 : dg l 0 < 4294967296 := dg_lt gl (by decide) _
    have b1 : dg l 1 < 4294967296 := dg_lt gl (by decide) _
    have hl := hd.1
    have h3 : n = 0 ∨ n = 1 ∨ n = 2 := by omega
    rcases h3 with rfl | rfl | rfl
    · have hl0 : l = [] := List.length_eq_zero_iff.1 hl
      subst hl0
      have hs : s = false := by cases s with | false => rfl | true => exact absurd rfl (sl rfl)
      subst hs
      have e1 : fitV (sg false (val B32 [])) most = 0 := by simp [fitV, sg, val]
      have e2 : fitB (sg false (val B32 [])) most = true := by simp [fitB, sg, val]
      rw [e1, e2]
      have hm0 : (0 : Int) ≤ (most : Int) := by omega
      clear e1 e2 hv sl
      go_enter Tryz.func183, Tryz.ntmps183
      go_wp2
      go_rounds 1
      go_ret2
      exact ⟨rfl, by go_grown⟩
    · obtain ⟨g, rfl, hg, hc1⟩ := hd.at_ (by omega)
      have hx := (World.cell?_alloc_lt (w := w) (o := .cells #[.bool s, .slice (some ⟨g, 0, none⟩) 1 c] 112) (a := ⟨g, 0, none⟩) hg).trans (hc1 0 (by omega))
      clear hc1
      have u1 : bits .or .u64 0 ((dg l 0 : Nat) : Int) = ((val B32 l : Nat) : Int) := by rw [val_len1 hl]; exact or_one _ b0
      clear hl
      rcases Nat.lt_or_ge most (val B32 l) with hcmp | hcmp
      · have e1 : fitV (sg s (val B32 l)) most = 0 := by unfold fitV; rw [sg_natAbs, if_neg (by omega)]
        have e2 : fitB (sg s (val B32 l)) most = false := by unfold fitB; rw [sg_natAbs]; simp; omega
        rw [e1, e2]
        clear e1 e2
        have hc' : (most : Int) < ((val B32 l : Nat) : Int) := by omega
        go_enter Tryz.func183, Tryz.ntmps183
        go_wp2
        go_rounds 2
        go_ret2
        exact ⟨rfl, by go_grown⟩
      · have e1 : fitV (sg s (val B32 l)) most = sg s (val B32 l) := by unfold fitV; rw [sg_natAbs, if_pos (by omega)]
        have e2 : fitB (sg s (val B32 l)) most = true := by unfold fitB; rw [sg_natAbs]; simp; omega
        rw [e1, e2]
        clear e1 e2
        have hc' : ¬ (most : Int) < ((val B32 l : Nat) : Int) := by omega
        cases s with
        | true =>
          go_enter Tryz.func183, Tryz.ntmps183
          go_wp2
          go_rounds 2
          go_ret2
          exact ⟨rfl, by go_grown⟩
        | false =>
          go_enter Tryz.func183, Tryz.ntmps183
          go_wp2
          go_rounds 2
          go_ret2
          exact ⟨rfl, by go_grown⟩
    · obtain ⟨g, rfl, hg, hc1⟩ := hd.at_ (by omega)
      have hx := (World.cell?_alloc_lt (w := w) (o := .cells #[.bool s, .slice (some ⟨g, 0, none⟩) 2 c] 112) (a := ⟨g, 0, none⟩) hg).trans (hc1 0 (by omega))
      have hx1 := (World.cell?_alloc_lt (w := w) (o := .cells #[.bool s, .slice (some ⟨g, 0, none⟩) 2 c] 112) (a := ⟨g, 1, none⟩) hg).trans (hc1 1 (by omega))
      clear hc1
      have u1 : bits .or .u64 0 ((dg l 0 : Nat) : Int) = ((dg l 0 : Nat) : Int) := or_one _ b0
      have u2 : bits .or .u64 ((dg l 0 : Nat) : Int) (((dg l 1 : Nat) : Int) * 4294967296) = ((val B32 l : Nat) : Int) := by rw [val_len2 hl]; exact or_two _ _ b0 b1
      clear hl
      rcases Nat.lt_or_ge most (val B32 l) with hcmp | hcmp
      · have e1 : fitV (sg s (val B32 l)) most = 0 := by unfold fitV; rw [sg_natAbs, if_neg (by omega)]
        have e2 : fitB (sg s (val B32 l)) most = false := by unfold fitB; rw [sg_natAbs]; simp; omega
        rw [e1, e2]
        clear e1 e2
        have hc' : (most : Int) < ((val B32 l : Nat) : Int) := by omega
        go_enter Tryz.func183, Tryz.ntmps183
        go_wp2
        go_rounds 3
        go_ret2
        exact ⟨rfl, by go_grown⟩
      · have e1 : fitV (sg s (val B32 l)) most = sg s (val B32 l) := by unfold fitV; rw [sg_natAbs, if_pos (by omega)]
        have e2 : fitB (sg s (val B32 l)) most = true := by unfold fitB; rw [sg_natAbs]; simp; omega
        rw [e1, e2]
        clear e1 e2
        have hc' : ¬ (most : Int) < ((val B32 l : Nat) : Int) := by omega
        cases s with
        | true =>
          go_enter Tryz.func183, Tryz.ntmps183
          go_wp2
          go_rounds 3
          go_ret2
          exact ⟨rfl, by go_grown⟩
        | false =>
          go_enter Tryz.func183, Tryz.ntmps183
          go_wp2
          go_rounds 3
          go_ret2
          exact ⟨rfl, by go_grown⟩

end Go.Proofs.YtklblmbacnnoeaaGreatDoor

namespace Go.Proofs.YtklblmbacnnoeaaGreatDoor
open Go.RowKit Limb

theorem small_pow {j : Nat} (h : j ≤ 150) : Small ((10 ^ j : Nat) : Int) := by
  unfold Small
  rw [Int.natAbs_natCast]
  exact Nat.pow_lt_pow_right (by omega) (by omega)
theorem small_of_le {z : Int} (h1 : -10000000000000000000000000000000000000000 ≤ z) (h2 : z ≤ 10000000000000000000000000000000000000000) : Small z := by
  unfold Small
  have : 10000000000000000000000000000000000000000 < 10 ^ 200 := by decide
  omega

set_option maxHeartbeats 4000000 in
set_option maxRecDepth 100000 in
theorem power_c (n : Nat) (w : World) (hn : n ≤ 100) :
    Calls Tryz.prog 182 #[.int .i64 (n : Int)] w (Makes .u32 161 B32 w ((10 ^ n : Nat) : Int)) := by
  have hs10 : Small 10 := small_of_le (by omega) (by omega)
  go_enter Tryz.func182, Tryz.ntmps182
  go_wp2_with fail
  refine (of_c 1 _ (by omega) (by omega)).mono ?_
  rintro e w1 ⟨s1, A1, n1, c1, rfl, hv, hb⟩
  have hB := heap_below (heap_new w _ rfl) hb
  have hbw := below_then hb ((Below.refl _ _).alloc (Nat.le_refl _) _) (by simp)
  obtain ⟨-, -, -, -, z1⟩ := box2 hB
  go_wp2
  have hz1 := hbw.size
  go_loopw [6] (fun i wr => ∃ (j : Nat) (t : Bool) (A : Option Addr) (k c : Nat), j ≤ n ∧ i = .int .i64 j ∧ wr.heap[w1.heap.size]? = some (.cells #[.bool t, .slice A k c] 112 (0, 0)) ∧ wr.heap[w.heap.size]? = some (.cells #[.bool false, .slice none 0 0] 112 (0, 0)) ∧
      Big .u32 161 B32 wr t A k c ((10 ^ j : Nat) : Int) ∧ Below w.heap.size w wr) (fun i _ => n - (intOf i).toNat)
  case atStart => exact ⟨0, s1, A1, n1, c1, Nat.zero_le _, rfl, heap_new _ _ rfl, heap_old hB _, by exact hv.alloc _, hbw.alloc hz1 _⟩
  case round =>
    obtain ⟨j, t, A, k, c, hj, rfl, hO, hR, hbig, hbel⟩ := hrel
    have hzr := hbel.size
    obtain ⟨o0, o1, of0, of1, oz⟩ := box2 hO
    rcases Nat.lt_or_ge j n with hjn | hjn
    · go_wp2_with fail
      go_region_with
        (first
          | (go_at_call 72; refine (of_c 10 _ (by omega) (by omega)).mono ?_; rintro e w4 ⟨s4, A4, n4, c4, rfl, hv4, hb4⟩; (have q1 := box2 (heap_below (w := wr.drew) hO hb4)); obtain ⟨r10, r11, -, -, -⟩ := q1)
          | (go_at_call 181; refine (times_c _ (by exact Big.below (w := wr.drew) hbig hb4) hv4 (small_pow (by omega)) hs10).mono ?_; rintro e w5 ⟨s5, A5, n5, c5, rfl, hv5, hb5⟩; (have hB5 := heap_below (heap_below (w := wr.drew) hO hb4) hb5); obtain ⟨g0, g1, g2, g3, g4⟩ := box2 hB5))
      all_goals
        have hR5 := heap_below (heap_below (w := wr.drew) hR hb4) hb5
        have hpw : ((10 ^ j : Nat) : Int) * 10 = ((10 ^ (j + 1) : Nat) : Int) := by rw [Nat.pow_succ, Int.natCast_mul]; rfl
        rw [hpw] at hv5
        clear hpw
        have hN : Big .u32 161 B32 ((w5.setCell ⟨w1.heap.size, 0, none⟩ (.bool s5)).setCell ⟨w1.heap.size, 1, none⟩ (.slice A5 n5 c5)) s5 A5 n5 c5 ((10 ^ (j + 1) : Nat) : Int) := hv5.box2 hB5 (by decide) _ _
        have hO' : ((w5.setCell ⟨w1.heap.size, 0, none⟩ (.bool s5)).setCell ⟨w1.heap.size, 1, none⟩ (.slice A5 n5 c5)).heap[w1.heap.size]? = some (.cells #[.bool s5, .slice A5 n5 c5] 112 (0, 0)) := heap_set (heap_set hB5 0 _) 1 _
        have hR' : ((w5.setCell ⟨w1.heap.size, 0, none⟩ (.bool s5)).setCell ⟨w1.heap.size, 1, none⟩ (.slice A5 n5 c5)).heap[w.heap.size]? = some (.cells #[.bool false, .slice none 0 0] 112 (0, 0)) := heap_far (heap_far hR5 (by simp; omega) _) (by simp; omega) _
        have hb' : Below w.heap.size w ((w5.setCell ⟨w1.heap.size, 0, none⟩ (.bool s5)).setCell ⟨w1.heap.size, 1, none⟩ (.slice A5 n5 c5)) := ((below_then hb5 (below_then hb4 hbel.drew hzr) (Nat.le_trans hzr hb4.size)).setCell (by simp; omega) _).setCell (by simp; omega) _
        generalize (w5.setCell ⟨w1.heap.size, 0, none⟩ (.bool s5)).setCell ⟨w1.heap.size, 1, none⟩ (.slice A5 n5 c5) = w6 at hN hO' hR' hb' ⊢
        clear hv5 hB5 hR5 hb5 hb4 g0 g1 g2 g3 g4
        go_wp2
        go_roundw
        case rel => exact ⟨j + 1, s5, A5, n5, c5, by omega, by go_num, hO', hR', hN, hb'⟩
        case measure => simp [intOf]; omega
    · obtain rfl : j = n := by omega
      obtain ⟨g0, g1, g2, g3, g4⟩ := box2 hR
      go_wp2
      refine bodyPost_ret (v := .agg #[.bool t, .slice A k c]) (by simp [results, Tryz.results182, go_sem, g0, g1]) rfl ⟨t, A, k, c, rfl, hbig.box2 hR (by decide) _ _, ?_⟩
      go_grown

end Go.Proofs.YtklblmbacnnoeaaGreatDoor

namespace Go.Proofs.YtklblmbacnnoeaaGreatDoor
open Go.RowKit Limb

theorem out_no (n lo hi : Int) (w : World) (h : lo ≤ n ∧ n ≤ hi) : Calls Tryz.prog 58 #[.int .i64 n, .int .i64 lo, .int .i64 hi] w fun e w' => w = w' ∧ e = .returned (.bool false) := by
  have h1 : ¬ n < lo := by omega
  have h2 : ¬ hi < n := by omega
  go_enter Tryz.func58, Tryz.ntmps58
  go_wp2
  go_ret
  exact ⟨rfl, rfl⟩
theorem out_yes (n lo hi : Int) (w : World) (h : ¬ (lo ≤ n ∧ n ≤ hi)) : Calls Tryz.prog 58 #[.int .i64 n, .int .i64 lo, .int .i64 hi] w fun e w' => w = w' ∧ e = .returned (.bool true) := by
  by_cases h1 : n < lo
  · go_enter Tryz.func58, Tryz.ntmps58
    go_wp2
    go_ret
    exact ⟨rfl, rfl⟩
  · have h2 : hi < n := by omega
    go_enter Tryz.func58, Tryz.ntmps58
    go_wp2
    go_ret
    exact ⟨rfl, rfl⟩

theorem small_mul9 {u : Int} (hu : -1000000000000000 ≤ u ∧ u ≤ 1000000000000000) : Small u := small_of_le (by omega) (by omega)

set_option maxHeartbeats 2000000 in
set_option maxRecDepth 100000 in
theorem scaled_c (u p : Int) (q : Nat) (w : World) (h : decB u p = true) (hp : p ≤ q) (hq : q ≤ 9) :
    Calls Tryz.prog 135 #[.agg #[.int .i64 u, .int .i64 p], .int .i64 (q : Int)] w (Makes .u32 161 B32 w (scaled u p q)) := by
  have h := decB_out h
  have su : Small u := small_mul9 (by omega)
  have e : IntKind.i64.wrap ((q : Int) - p) = ((q - p.toNat : Nat) : Int) := by rw [IntWalk.i64_in _ (by omega)]; omega
  have HE := Lib.hid e; clear e
  go_enter Tryz.func135, Tryz.ntmps135
  go_wp2_with fail
  have HW := boxes2 w (.int .i64 u) (.int .i64 p) (.bool false) (.slice none 0 0) 41 112
  generalize (w.alloc (.cells #[.int .i64 u, .int .i64 p] 41)).alloc (.cells #[.bool false, .slice none 0 0] 112) = w3 at HW ⊢
  obtain ⟨hB1, hB3, hbel⟩ := HW _ rfl
  clear HW
  have hz3 := hbel.size
  obtain ⟨c10, c11, -, -, z1⟩ := box2 hB1
  obtain ⟨-, -, -, -, z3⟩ := box2 hB3
  go_region_held3 (fun w' => w'.cell? ⟨w.heap.size, 0, none⟩ = some (.int .i64 u) ∧ w'.cell? ⟨w.heap.size, 1, none⟩ = some (.int .i64 p))
    (first | (go_keep; done) | (refine ⟨cell_past2 r10 ?_, cell_past2 r11 ?_⟩ <;> omega))
    (first
      | (go_at_call 72; refine (of_c u _ (by omega) (by omega)).mono ?_; rintro e w4 ⟨s4, A4, n4, c4, rfl, hv4, hb4⟩; (have hC1 := heap_below (w := w3.drew) hB1 hb4); (have hC3 := heap_below (w := w3.drew) hB3 hb4); (have hbel4 := below_then hb4 hbel.drew hz3); obtain ⟨r10, r11, -, -, -⟩ := box2 hC1)
      | (go_at_call 182; rw [HE.out]; refine (power_c _ _ (by omega)).mono ?_; rintro e w5 ⟨s5, A5, n5, c5, rfl, hv5, hb5⟩; (have hE1 := heap_below hC1 hb5); (have hE3 := heap_below hC3 hb5); (have hbel5 := below_then hb5 hbel4 hbel4.size); obtain ⟨r10, r11, -, -, -⟩ := box2 hE1)
      | (go_at_call 181; refine (times_c _ (hv4.below hb5) hv5 su (small_pow (by omega))).mono ?_; rintro e w6 ⟨s6, A6, n6, c6, rfl, hv6, hb6⟩; (have hF1 := heap_below hE1 hb6); (have hF3 := heap_below hE3 hb6); (have hbel6 := below_then hb6 hbel5 hbel5.size); obtain ⟨r10, r11, -, -, -⟩ := box2 hF1; obtain ⟨g0, g1, g2, g3, g4⟩ := box2 hF3))
  go_wp2
  refine bodyPost_ret (v := .agg #[.bool s6, .slice A6 n6 c6]) (by simp [results, Tryz.results135, go_sem, g0, g1]) rfl ⟨s6, A6, n6, c6, rfl, hv6.box2 hF3 (by decide) _ _, ?_⟩
  go_grown

end Go.Proofs.YtklblmbacnnoeaaGreatDoor

namespace Go.Proofs.YtklblmbacnnoeaaGreatDoor
open Go.RowKit Limb

theorem made_fit (z p : Int) (h : z.natAbs ≤ 1000000000000000) : made z p = (z, p, 0) ∧ fitV z 1000000000000000 = z ∧ fitB z 1000000000000000 = true := by
  unfold made fitV fitB; simp [h]
theorem made_not (z p : Int) (h : ¬ z.natAbs ≤ 1000000000000000) : made z p = (0, 0, 1) ∧ fitV z 1000000000000000 = 0 ∧ fitB z 1000000000000000 = false := by
  unfold made fitV fitB; simp [h]

set_option maxHeartbeats 1000000 in
theorem mk_c (w : World) {s : Bool} {A : Option Addr} {n c : Nat} {z : Int} (p : Int) (h : Big .u32 161 B32 w s A n c z) :
    Calls Tryz.prog 139 #[.agg #[.bool s, .slice A n c], .int .i64 p] w (RetD (made z p) w) := by
  by_cases hz : z.natAbs ≤ 1000000000000000
  · obtain ⟨e1, e2, e3⟩ := made_fit z p hz
    rw [e1]
    have E2 := Lib.hid e2; have E3 := Lib.hid e3; clear e1 e2 e3
    go_enter Tryz.func139, Tryz.ntmps139
    go_wp2_with fail
    refine (int_c _ 1000000000000000 ((h.alloc _).alloc _) (by omega)).mono ?_
    rintro e w1 ⟨rfl, hb⟩
    rw [E2.out, E3.out]
    have hB := heap_below (heap_new (w.alloc _) _ rfl) hb
    simp only [World.size_alloc] at hB
    obtain ⟨g0, g1, g2, g3, g4⟩ := box2 hB
    go_wp2
    refine bodyPost_ret (v := .tuple #[.agg #[.int .i64 z, .int .i64 p], .int .i64 0]) (by simp [results, Tryz.results139, go_sem, g0, g1]) rfl ⟨rfl, ?_⟩
    go_grown
    exact below_then hb (by go_grown) (by simp only [World.size_alloc]; omega)
  · obtain ⟨e1, e2, e3⟩ := made_not z p hz
    rw [e1]
    have E2 := Lib.hid e2; have E3 := Lib.hid e3; clear e1 e2 e3
    go_enter Tryz.func139, Tryz.ntmps139
    go_wp2_with fail
    refine (int_c _ 1000000000000000 ((h.alloc _).alloc _) (by omega)).mono ?_
    rintro e w1 ⟨rfl, hb⟩
    rw [E2.out, E3.out]
    have hB := heap_below (heap_new (w.alloc _) _ rfl) hb
    simp only [World.size_alloc] at hB
    obtain ⟨g0, g1, g2, g3, g4⟩ := box2 hB
    go_wp2
    refine bodyPost_ret (v := .tuple #[.agg #[.int .i64 0, .int .i64 0], .int .i64 1]) (by simp [results, Tryz.results139, go_sem, g0, g1]) rfl ⟨rfl, ?_⟩
    go_grown
    exact below_then hb (by go_grown) (by simp only [World.size_alloc]; omega)

end Go.Proofs.YtklblmbacnnoeaaGreatDoor

namespace Go.Proofs.YtklblmbacnnoeaaGreatDoor
open Go.RowKit Limb

end Go.Proofs.YtklblmbacnnoeaaGreatDoor

namespace Go.Proofs.YtklblmbacnnoeaaGreatDoor
open Go.RowKit Limb

/-! ### A string without one byte ahead -/
def hasB (s : ByteArray) (c : UInt8) : Bool := s.data.toList.head? == some c
theorem hasB_ext {s : ByteArray} {c : UInt8} (h : 0 < s.size) : ((s.extract 0 1).toList == [c]) = hasB s c := by
  rw [Lib.extract_toList]
  unfold hasB
  have hl : 0 < s.data.toList.length := by simpa using h
  cases hd : s.data.toList with
  | nil => rw [hd] at hl; simp at hl
  | cons x xs => simp
theorem hasB_empty {s : ByteArray} {c : UInt8} (h : s.size = 0) : hasB s c = false := by
  unfold hasB
  have hl : s.data.toList = [] := List.length_eq_zero_iff.1 (by simpa using h)
  rw [hl]; rfl

set_option maxRecDepth 100000 in
theorem hasp_yes (s : ByteArray) (c : UInt8) (w : World) (h : hasB s c = true) (hs : s.size ≤ 9223372036854775807) :
    Calls Tryz.prog 174 #[.string s, .string ⟨#[c]⟩] w fun e w' => w = w' ∧ e = .returned (.bool true) := by
  have h0 : 0 < s.size := by
    rcases Nat.eq_zero_or_pos s.size with h1 | h1
    · rw [hasB_empty h1] at h; cases h
    · exact h1
  have he := hasB_ext (c := c) h0
  rw [h] at he
  clear h
  have h1 : 1 ≤ s.size := h0
  go_enter Tryz.func174, Tryz.ntmps174
  go_wp2
  go_ret
  exact ⟨rfl, by simp⟩
set_option maxRecDepth 100000 in
theorem hasp_no (s : ByteArray) (c : UInt8) (w : World) (h : hasB s c = false) (hs : s.size ≤ 9223372036854775807) :
    Calls Tryz.prog 174 #[.string s, .string ⟨#[c]⟩] w fun e w' => w = w' ∧ e = .returned (.bool false) := by
  rcases Nat.eq_zero_or_pos s.size with h0 | h0
  · clear h
    go_enter Tryz.func174, Tryz.ntmps174
    go_wp2
    go_ret
    exact ⟨rfl, by simp⟩
  · have he := hasB_ext (c := c) h0
    rw [h] at he
    clear h
    have h1 : 1 ≤ s.size := h0
    go_enter Tryz.func174, Tryz.ntmps174
    go_wp2
    go_ret
    exact ⟨rfl, by simp⟩

/-- What CutPrefix comes to. -/
def CutP (s : ByteArray) (c : UInt8) (w : World) (e : Ending) (w' : World) : Prop :=
  w = w' ∧ ∃ t : ByteArray, e = .returned (.tuple #[.string t, .bool (hasB s c)]) ∧ t.data.toList = (if hasB s c then s.data.toList.tail else s.data.toList)

set_option maxRecDepth 100000 in
theorem lcutp_c (s : ByteArray) (c : UInt8) (w : World) (hs : s.size ≤ 9223372036854775807) :
    Calls Tryz.prog 140 #[.string s, .string ⟨#[c]⟩] w (CutP s c w) := by
  by_cases h : hasB s c = true
  · have h0 : 0 < s.size := by
      rcases Nat.eq_zero_or_pos s.size with h1 | h1
      · rw [hasB_empty h1] at h; cases h
      · exact h1
    have h1 : 1 ≤ s.size := h0
    have H := Lib.hid h; clear h
    go_enter Tryz.func140, Tryz.ntmps140
    go_wp2_with (go_at_call 174; refine (hasp_yes s c _ H.out hs).mono ?_; rintro e w1 ⟨rfl, rfl⟩)
    go_ret2
    refine ⟨rfl, s.extract 1 s.size, ?_, ?_⟩
    · rw [H.out]; simp
    · rw [H.out, Lib.extract_to_end]; simp
  · have h : hasB s c = false := by simpa using h
    have H := Lib.hid h; clear h
    go_enter Tryz.func140, Tryz.ntmps140
    go_wp2_with (go_at_call 174; refine (hasp_no s c _ H.out hs).mono ?_; rintro e w1 ⟨rfl, rfl⟩)
    go_ret2
    refine ⟨rfl, s, ?_, ?_⟩
    · rw [H.out]; simp
    · rw [H.out]; simp
set_option maxRecDepth 100000 in
theorem cutp_c (s : ByteArray) (c : UInt8) (w : World) (hs : s.size ≤ 9223372036854775807) :
    Calls Tryz.prog 77 #[.string s, .string ⟨#[c]⟩] w (CutP s c w) := by
  go_enter Tryz.func77, Tryz.ntmps77
  go_wp2_with fail
  refine (lcutp_c s c _ hs).mono ?_
  rintro e w1 ⟨rfl, t, rfl, ht⟩
  have HT := Lib.hid ht; clear ht
  go_wp2
  go_ret2
  exact ⟨rfl, t, by simp, HT.out⟩

/-! ### Digits -/
def inB (l : List UInt8) (lo hi : Nat) : Bool := l.all fun c => decide (lo ≤ c.toNat ∧ c.toNat ≤ hi)
theorem data_get (s : ByteArray) (j : Nat) (h : j < s.size) : s.data.toList[j]'(by simpa using h) = s[j] := rfl
theorem inB_at {s : ByteArray} {lo hi : Nat} (h : inB s.data.toList lo hi = true) (j : Nat) (hj : j < s.size) : lo ≤ s[j].toNat ∧ s[j].toNat ≤ hi := by
  have := List.all_eq_true.1 h _ (List.getElem_mem (l := s.data.toList) (n := j) (by simpa using hj))
  rw [data_get s j hj] at this
  exact of_decide_eq_true this
theorem inB_bad {l : List UInt8} {lo hi : Nat} (h : inB l lo hi = false) : ∃ j, ∃ hj : j < l.length, ¬ (lo ≤ l[j].toNat ∧ l[j].toNat ≤ hi) ∧ ∀ i, ∀ hi' : i < j, lo ≤ (l[i]'(by omega)).toNat ∧ (l[i]'(by omega)).toNat ≤ hi := by
  induction l with
  | nil => simp [inB] at h
  | cons c l ih =>
    by_cases hc : lo ≤ c.toNat ∧ c.toNat ≤ hi
    · have h2 : inB l lo hi = false := by
        unfold inB at h ⊢
        rw [List.all_cons, decide_eq_true hc] at h
        simpa using h
      obtain ⟨j, hj, h3, h4⟩ := ih h2
      refine ⟨j + 1, by simpa using hj, by simpa using h3, fun i hi' => ?_⟩
      cases i with
      | zero => simpa using hc
      | succ i => simpa using h4 i (by omega)
    · exact ⟨0, by simp, by simpa using hc, fun i hi' => by omega⟩

set_option maxHeartbeats 400000 in
set_option maxRecDepth 100000 in
theorem inb_yes (s : ByteArray) (lo hi : Nat) (w : World) (h : inB s.data.toList lo hi = true) (hs : s.size ≤ 9223372036854775807) :
    Calls Tryz.prog 107 #[.string s, .int .u8 (lo : Int), .int .u8 (hi : Int)] w fun e w' => w = w' ∧ e = .returned (.bool true) := by
  go_enter Tryz.func107, Tryz.ntmps107
  go_wp2
  go_loop [10] (fun i => ∃ j : Nat, j ≤ s.size ∧ i = .int .i64 j) (fun i => s.size - (intOf i).toNat)
  case atStart => exact ⟨0, Nat.zero_le _, rfl⟩
  case round =>
    obtain ⟨j, hj, rfl⟩ := hrel
    rcases Nat.lt_or_ge j s.size with hjn | hjn
    · have hb := inB_at h j hjn
      have h1 : (lo : Int) ≤ (s[j].toNat : Int) := by omega
      have h2 : (s[j].toNat : Int) ≤ (hi : Int) := by omega
      clear hb
      go_wp2
      go_round
      case rel => exact ⟨j + 1, by omega, by go_num⟩
      case measure => simp [intOf]; omega
    · go_wp2
      go_ret
      exact ⟨rfl, rfl⟩

set_option maxHeartbeats 400000 in
set_option maxRecDepth 100000 in
theorem inb_no (s : ByteArray) (lo hi : Nat) (w : World) (h : inB s.data.toList lo hi = false) (hs : s.size ≤ 9223372036854775807) :
    Calls Tryz.prog 107 #[.string s, .int .u8 (lo : Int), .int .u8 (hi : Int)] w fun e w' => w = w' ∧ e = .returned (.bool false) := by
  obtain ⟨m, hm, hbad, hgood⟩ := inB_bad h
  have hm' : m < s.size := by simpa using hm
  clear h
  go_enter Tryz.func107, Tryz.ntmps107
  go_wp2
  go_loop [10] (fun i => ∃ j : Nat, j ≤ m ∧ i = .int .i64 j) (fun i => s.size - (intOf i).toNat)
  case atStart => exact ⟨0, Nat.zero_le _, rfl⟩
  case round =>
    obtain ⟨j, hj, rfl⟩ := hrel
    have hjn : j < s.size := by omega
    rcases Nat.lt_or_ge j m with hjm | hjm
    · have hb := hgood j hjm
      rw [data_get s j hjn] at hb
      have h1 : (lo : Int) ≤ (s[j].toNat : Int) := by omega
      have h2 : (s[j].toNat : Int) ≤ (hi : Int) := by omega
      clear hb hbad hgood
      go_wp2
      go_round
      case rel => exact ⟨j + 1, by omega, by go_num⟩
      case measure => simp [intOf]; omega
    · obtain rfl : j = m := by omega
      have hb := hbad
      rw [data_get s j hjn] at hb
      clear hbad hgood
      by_cases h1 : (s[j].toNat : Int) < (lo : Int)
      · clear hb
        go_wp2
        go_ret
        exact ⟨rfl, rfl⟩
      · have h2 : (hi : Int) < (s[j].toNat : Int) := by omega
        clear hb
        go_wp2
        go_ret
        exact ⟨rfl, rfl⟩

/-- Digits, at least one. -/
def digB (l : List UInt8) : Bool := !l.isEmpty && inB l 48 57
theorem isdig_c (s : ByteArray) (w : World) (hs : s.size ≤ 9223372036854775807) :
    Calls Tryz.prog 130 #[.string s] w fun e w' => w = w' ∧ e = .returned (.bool (digB s.data.toList)) := by
  by_cases h0 : s.data.toList.isEmpty = true
  · have e : digB s.data.toList = false := by unfold digB; rw [h0]; rfl
    rw [e]; clear e
    have hn : s.toList.isEmpty = true := by rw [Lib.toList_data]; exact h0
    clear h0
    go_enter Tryz.func130, Tryz.ntmps130
    go_wp2
    go_ret
    exact ⟨rfl, by simp⟩
  · have h0 : s.data.toList.isEmpty = false := by simpa using h0
    have hn : s.toList.isEmpty = false := by rw [Lib.toList_data]; exact h0
    by_cases hb : inB s.data.toList 48 57 = true
    · have e : digB s.data.toList = true := by unfold digB; rw [h0, hb]; rfl
      rw [e]
      have HB := Lib.hid hb; clear e hb h0
      go_enter Tryz.func130, Tryz.ntmps130
      go_wp2_with (go_at_call 107; refine (inb_yes s 48 57 _ HB.out hs).mono ?_; rintro e w1 ⟨rfl, rfl⟩)
      go_ret
      exact ⟨rfl, by simp⟩
    · have hb : inB s.data.toList 48 57 = false := by simpa using hb
      have e : digB s.data.toList = false := by unfold digB; rw [h0, hb]; rfl
      rw [e]
      have HB := Lib.hid hb; clear e hb h0
      go_enter Tryz.func130, Tryz.ntmps130
      go_wp2_with (go_at_call 107; refine (inb_no s 48 57 _ HB.out hs).mono ?_; rintro e w1 ⟨rfl, rfl⟩)
      go_ret
      exact ⟨rfl, by simp⟩

end Go.Proofs.YtklblmbacnnoeaaGreatDoor

namespace Go.Proofs.YtklblmbacnnoeaaGreatDoor
open Go.RowKit Limb

/-- What lies ahead of the first such byte, what lies behind it, whether there is one. -/
def cutL : List UInt8 → UInt8 → List UInt8 × List UInt8 × Bool
  | [], _ => ([], [], false)
  | x :: l, c => if x == c then ([], l, true) else (x :: (cutL l c).1, (cutL l c).2.1, (cutL l c).2.2)

theorem cutL_index (l : List UInt8) (c : UInt8) : (Lib.indexByte l c = -1 ∧ cutL l c = (l, [], false)) ∨ ∃ o : Nat, o < l.length ∧ Lib.indexByte l c = o ∧ cutL l c = (l.take o, l.drop (o + 1), true) := by
  induction l with
  | nil => exact .inl ⟨rfl, rfl⟩
  | cons x l ih =>
    unfold Lib.indexByte cutL
    by_cases h : (x == c) = true
    · rw [if_pos h, if_pos h]
      exact .inr ⟨0, by simp, rfl, by simp⟩
    · rw [if_neg h, if_neg h]
      rcases ih with ⟨h1, h2⟩ | ⟨o, ho, h1, h2⟩
      · rw [h1, h2]
        exact .inl ⟨rfl, rfl⟩
      · rw [h1, h2]
        refine .inr ⟨o + 1, by simpa using ho, ?_, by simp⟩
        rw [if_neg (by simp)]
        simp

theorem ixb (s : ByteArray) (c : UInt8) (w : World) : (callFunc 171 #[.string s, .int .u8 (c.toNat : Int)]).run Tryz.prog w = .ok (.value (.int .i64 (Lib.indexByte s.data.toList c))) w := by
  rw [run_callFunc_extern Tryz.func171 (by kernel_rfl) (by kernel_rfl) (by kernel_rfl) (e := Extern.BytealgIndexByte.indexByte) (by kernel_rfl), Lib.run_indexByteString]
  simp [Result.andThen]

set_option maxRecDepth 100000 in
theorem index1_c (s : ByteArray) (c : UInt8) (w : World) : Calls Tryz.prog 184 #[.string s, .string ⟨#[c]⟩] w fun e w' => w = w' ∧ e = .returned (.int .i64 (Lib.indexByte s.data.toList c)) := by
  have h94 := ixb s c
  have e46 : (⟨#[c]⟩ : ByteArray)[0]'(by show 0 < 1; decide) = c := rfl
  by_cases hq : ([c] == s.toList) = true
  · have e : Lib.indexByte s.data.toList c = 0 := by
      have : s.data.toList = [c] := by rw [← Lib.toList_data]; exact (beq_iff_eq.1 hq).symm
      rw [this]; simp [Lib.indexByte]
    have E := Lib.hid e; clear e
    go_enter Tryz.func184, Tryz.ntmps184
    go_wp2
    all_goals
      go_ret
      exact ⟨rfl, by rw [E.out]; simp⟩
  · have hq : ([c] == s.toList) = false := by simpa using hq
    go_enter Tryz.func184, Tryz.ntmps184
    go_wp2
    go_ret
    exact ⟨rfl, by simp⟩

/-- What Cut at one byte comes to. -/
def Cut1 (s : ByteArray) (c : UInt8) (w : World) (e : Ending) (w' : World) : Prop :=
  (∃ n, w' = w.drewN n) ∧ ∃ t u : ByteArray, e = .returned (.tuple #[.string t, .string u, .bool (cutL s.data.toList c).2.2]) ∧ t.data.toList = (cutL s.data.toList c).1 ∧ u.data.toList = (cutL s.data.toList c).2.1

set_option maxHeartbeats 1000000 in
set_option maxRecDepth 100000 in
theorem lcut_c (s : ByteArray) (c : UInt8) (w : World) (hs : s.size ≤ 9223372036854775807) : Calls Tryz.prog 141 #[.string s, .string ⟨#[c]⟩] w (Cut1 s c w) := by
  rcases cutL_index s.data.toList c with ⟨h1, h2⟩ | ⟨o, ho, h1, h2⟩
  · have H1 := Lib.hid h1; have H2 := Lib.hid h2; clear h1 h2
    go_enter Tryz.func141, Tryz.ntmps141
    go_wp2_with (go_at_call 184; refine (index1_c s c _).mono ?_; rintro e w1 ⟨rfl, rfl⟩; rw [H1.out])
    go_ret3
    refine ⟨⟨0, rfl⟩, s, ⟨#[]⟩, ?_, ?_, ?_⟩
    · rw [H2.out]; simp
    · rw [H2.out]
    · rw [H2.out]
  · have ho' : o < s.size := by simpa using ho
    have H1 := Lib.hid h1; have H2 := Lib.hid h2; clear h1 h2
    have i1 : (0 : Int) ≤ (o : Int) := by omega
    have i2 : (o : Int) + 1 ≤ (s.size : Int) := by omega
    have i3 : (o : Int) ≤ (s.size : Int) := by omega
    have e1 : IntKind.i64.wrap ((o : Int) + 1) = (o : Int) + 1 := IntWalk.i64_in _ (by omega)
    have e2 : (0 : Int) ≤ (o : Int) + 1 := by omega
    have e3 : ((o : Int) + 1).toNat = o + 1 := by omega
    have E1 := Lib.hid e1; have E2 := Lib.hid e2; have E3 := Lib.hid e3; clear e1 e2 e3
    go_enter Tryz.func141, Tryz.ntmps141
    go_wp2_with (go_at_call 184; refine (index1_c s c _).mono ?_; rintro e w1 ⟨rfl, rfl⟩; rw [H1.out])
    have e1 := E1.out; have e2 := E2.out; have e3 := E3.out
    go_quiet (fail)
    clear e1 e2 e3
    go_wp2
    go_ret3
    refine ⟨⟨_, rfl⟩, s.extract 0 o, s.extract (o + 1) s.size, ?_, ?_, ?_⟩
    · rw [H2.out]; simp
    · rw [H2.out, Lib.extract_data]; simp
    · rw [H2.out, Lib.extract_to_end]
set_option maxRecDepth 100000 in
theorem cut_c (s : ByteArray) (c : UInt8) (w : World) (hs : s.size ≤ 9223372036854775807) : Calls Tryz.prog 78 #[.string s, .string ⟨#[c]⟩] w (Cut1 s c w) := by
  go_enter Tryz.func78, Tryz.ntmps78
  go_wp2_with fail
  refine (lcut_c s c _ hs).mono ?_
  rintro e w1 ⟨⟨n, rfl⟩, t, u, rfl, ht, hu⟩
  have HT := Lib.hid ht; have HU := Lib.hid hu; clear ht hu
  go_wp2
  go_ret3
  exact ⟨⟨_, rfl⟩, t, u, by simp, HT.out, HU.out⟩

/-- Digits without a needless 0. -/
def wholeB (l : List UInt8) : Bool := digB l && (l.length == 1 || !(l.head? == some 48))
theorem head_get {s : ByteArray} (h : 0 < s.size) : s.data.toList.head? = some s[0] := by
  rw [List.head?_eq_getElem?, List.getElem?_eq_getElem (by simpa using h)]
  rfl
theorem dig_size {s : ByteArray} (h : digB s.data.toList = true) : 0 < s.size := by
  unfold digB at h
  rcases Nat.eq_zero_or_pos s.size with h0 | h0
  · have hl : s.data.toList = [] := List.length_eq_zero_iff.1 (by simpa using h0)
    rw [hl] at h; simp at h
  · exact h0
set_option maxRecDepth 100000 in
theorem iswhole_c (s : ByteArray) (w : World) (hs : s.size ≤ 9223372036854775807) :
    Calls Tryz.prog 129 #[.string s] w fun e w' => w = w' ∧ e = .returned (.bool (wholeB s.data.toList)) := by
  by_cases hd : digB s.data.toList = true
  · have h0 := dig_size hd
    have hlen : s.data.toList.length = s.size := by simp
    have hw : wholeB s.data.toList = (s.size == 1 || !(s[0] == 48)) := by
      unfold wholeB; rw [hd, head_get h0, hlen]; simp
    rw [hw]
    have HD := Lib.hid hd; clear hw hd hlen
    by_cases h1 : s.size = 1
    · have h1' : ((s.size : Int) == 1) = true := by simp; omega
      have e1 : (s.size == 1 || !(s[0] == 48)) = true := by simp [h1]
      rw [e1]
      clear h1 e1
      go_enter Tryz.func129, Tryz.ntmps129
      go_wp2_with (go_at_call 130; refine (isdig_c s _ hs).mono ?_; rintro e w1 ⟨rfl, rfl⟩; rw [HD.out])
      go_ret
      exact ⟨rfl, by simp⟩
    · have h1' : ((s.size : Int) == 1) = false := by simp; omega
      have e1 : (s.size == 1 || !(s[0] == 48)) = ((s[0].toNat : Int) != 48) := by
        have e2 : s[0] = 48 ↔ s[0].toNat = 48 := ⟨fun h => by rw [h]; rfl, fun h => UInt8.toNat_inj.1 (by rw [h]; rfl)⟩
        have e3 : (s[0] == 48) = (s[0].toNat == 48) := by rw [Bool.eq_iff_iff]; simpa using e2
        rw [e3, Bool.eq_iff_iff]
        simp [h1]
        omega
      rw [e1]
      clear h1 e1
      go_enter Tryz.func129, Tryz.ntmps129
      go_wp2_with (go_at_call 130; refine (isdig_c s _ hs).mono ?_; rintro e w1 ⟨rfl, rfl⟩; rw [HD.out])
      go_ret
      exact ⟨rfl, by simp⟩
  · have hd : digB s.data.toList = false := by simpa using hd
    have hw : wholeB s.data.toList = false := by unfold wholeB; rw [hd]; rfl
    rw [hw]
    have HD := Lib.hid hd; clear hw hd
    go_enter Tryz.func129, Tryz.ntmps129
    go_wp2_with (go_at_call 130; refine (isdig_c s _ hs).mono ?_; rintro e w1 ⟨rfl, rfl⟩; rw [HD.out])
    go_ret
    exact ⟨rfl, by simp⟩

end Go.Proofs.YtklblmbacnnoeaaGreatDoor
