/- The walk of package whole: By. The walks of package whole: Odd, Int, Power. The walk of package whole: Power. -/
import Derived.Test.YthjlleifpnpfgaaGreatDoorW6
import Derived.Deep.RegionWith
import Derived.Test.YthjlleifpnpfgaaGreatDoorM2
-- merged: W7 W8 W9 A1 A2 A3
namespace Go.Proofs.YthjlleifpnpfgaaGreatDoor
open Go.RowKit Limb
def fitB (z : Int) (most : Nat) : Bool := decide (z.natAbs <= most)
def fitV (z : Int) (most : Nat) : Int := if z.natAbs <= most then z else 0
theorem val_len1 {l : List Nat} (h : l.length = 1) : val B32 l = dg l 0 := by
 match l, h with
 | [a], _ => simp [val, dg]
theorem val_len2 {l : List Nat} (h : l.length = 2) : val B32 l = dg l 0 + 4294967296 * dg l 1 := by
 match l, h with
 | [a, b], _ => simp [val, dg, B32]
theorem or_one (x : Nat) (h : x < 4294967296) : bits .or .u64 0 (x : Int) = (x : Int) := by
 have := u64_or_nat 0 x (by omega) (by omega)
 rw [Nat.zero_or] at this
 exact this
theorem or_two (x y : Nat) (h : x < 4294967296) (h2 : y < 4294967296) : bits .or .u64 (x : Int) ((y : Int) * 4294967296) = ((x + 4294967296 * y : Nat) : Int) := by
 have e : (y : Int) * 4294967296 = ((y * 4294967296 : Nat) : Int) := by rw [Int.natCast_mul]; rfl
 have h3 := u64_or_nat x (y * 4294967296) (by omega) (by omega)
 have h4 := Nat.two_pow_add_eq_or_of_lt (i := 32) (b := x) (by omega) y
 rw [Nat.or_comm] at h4
 have e2 : 2 ^ 32 * y = y * 4294967296 := by rw [Nat.mul_comm]
 rw [e2] at h4
 rw [e, h3, <- h4]
 congr 1
 omega
set_option maxHeartbeats 1000000 in
set_option maxRecDepth 100000 in
theorem int_c (w : World) {s : Bool} {A : Option Addr} {n c : Nat} {z : Int} (most : Nat) (h : Big .u32 189 B32 w s A n c z) (hm : most <= 4611686018427387904) :
  Calls Tryz.prog 209 #[.agg #[.bool s, .slice A n c], .int .i64 (most : Int)] w fun e w' => e = .returned (.tuple #[.int .i64 (fitV z most), .bool (fitB z most)]) /\ Below w.heap.size w w' := by
 obtain ⟨l, hd, hnc, hcm, gl, nl, sl, rfl⟩ := h
 rcases Nat.lt_or_ge 2 n with h2 | h2
 ·have hv : most < val B32 l := by
   have h1 := val_ge (b := B32) nl (by intro e; have := hd.1; rw [e] at this; simp at this; omega)
   have h3 : B32 ^ 2 <= B32 ^ (l.length - 1) := Nat.pow_le_pow_right (by decide) (by rw [hd.1]; omega)
   have h4 : B32 ^ 2 = 18446744073709551616 := by decide
   omega
  have e1 : fitV (sg s (val B32 l)) most = 0 := by unfold fitV; rw [sg_natAbs, if_neg (by omega)]
  have e2 : fitB (sg s (val B32 l)) most = false := by unfold fitB; rw [sg_natAbs]; simp; omega
  rw [e1, e2]
  clear e1 e2 hv
  go_enter Tryz.func209, Tryz.ntmps209
  go_wp2
  go_ret2
  exact ⟨rfl, by go_grown⟩
 ·have hv : val B32 l < 18446744073709551616 := by
   have h1 := val_lt gl
   have h3 : B32 ^ l.length <= B32 ^ 2 := Nat.pow_le_pow_right (by decide) (by rw [hd.1]; omega)
   have h4 : B32 ^ 2 = 18446744073709551616 := by decide
   omega
  have b0 : dg l 0 < 4294967296 := dg_lt gl (by decide) _
  have b1 : dg l 1 < 4294967296 := dg_lt gl (by decide) _
  have hl := hd.1
  have h3 : n = 0 ∨ n = 1 ∨ n = 2 := by omega
  rcases h3 with rfl | rfl | rfl
  ·have hl0 : l = [] := List.length_eq_zero_iff.1 hl
   subst hl0
   have hs : s = false := by cases s with | false => rfl | true => exact absurd rfl (sl rfl)
   subst hs
   have e1 : fitV (sg false (val B32 [])) most = 0 := by simp [fitV, sg, val]
   have e2 : fitB (sg false (val B32 [])) most = true := by simp [fitB, sg, val]
   rw [e1, e2]
   have hm0 : (0 : Int) <= (most : Int) := by omega
   clear e1 e2 hv sl
   go_enter Tryz.func209, Tryz.ntmps209
   go_wp2
   go_rounds 1
   go_ret2
   exact ⟨rfl, by go_grown⟩
  ·obtain ⟨g, rfl, hg, hc1⟩ := hd.at_ (by omega)
   have hx := (World.cell?_alloc_lt (w := w) (o := .cells #[.bool s, .slice (some ⟨g, 0, none⟩) 1 c] 123) (a := ⟨g, 0, none⟩) hg).trans (hc1 0 (by omega))
   clear hc1
   have u1 : bits .or .u64 0 ((dg l 0 : Nat) : Int) = ((val B32 l : Nat) : Int) := by rw [val_len1 hl]; exact or_one _ b0
   clear hl
   rcases Nat.lt_or_ge most (val B32 l) with hcmp | hcmp
   ·have e1 : fitV (sg s (val B32 l)) most = 0 := by unfold fitV; rw [sg_natAbs, if_neg (by omega)]
    have e2 : fitB (sg s (val B32 l)) most = false := by unfold fitB; rw [sg_natAbs]; simp; omega
    rw [e1, e2]
    clear e1 e2
    have hc' : (most : Int) < ((val B32 l : Nat) : Int) := by omega
    go_enter Tryz.func209, Tryz.ntmps209
    go_wp2
    go_rounds 2
    go_ret2
    exact ⟨rfl, by go_grown⟩
   ·have e1 : fitV (sg s (val B32 l)) most = sg s (val B32 l) := by unfold fitV; rw [sg_natAbs, if_pos (by omega)]
    have e2 : fitB (sg s (val B32 l)) most = true := by unfold fitB; rw [sg_natAbs]; simp; omega
    rw [e1, e2]
    clear e1 e2
    have hc' : ¬ (most : Int) < ((val B32 l : Nat) : Int) := by omega
    cases s with
    | true =>
     go_enter Tryz.func209, Tryz.ntmps209
     go_wp2
     go_rounds 2
     go_ret2
     exact ⟨rfl, by go_grown⟩
    | false =>
     go_enter Tryz.func209, Tryz.ntmps209
     go_wp2
     go_rounds 2
     go_ret2
     exact ⟨rfl, by go_grown⟩
  ·obtain ⟨g, rfl, hg, hc1⟩ := hd.at_ (by omega)
   have hx := (World.cell?_alloc_lt (w := w) (o := .cells #[.bool s, .slice (some ⟨g, 0, none⟩) 2 c] 123) (a := ⟨g, 0, none⟩) hg).trans (hc1 0 (by omega))
   have hx1 := (World.cell?_alloc_lt (w := w) (o := .cells #[.bool s, .slice (some ⟨g, 0, none⟩) 2 c] 123) (a := ⟨g, 1, none⟩) hg).trans (hc1 1 (by omega))
   clear hc1
   have u1 : bits .or .u64 0 ((dg l 0 : Nat) : Int) = ((dg l 0 : Nat) : Int) := or_one _ b0
   have u2 : bits .or .u64 ((dg l 0 : Nat) : Int) (((dg l 1 : Nat) : Int) * 4294967296) = ((val B32 l : Nat) : Int) := by rw [val_len2 hl]; exact or_two _ _ b0 b1
   clear hl
   rcases Nat.lt_or_ge most (val B32 l) with hcmp | hcmp
   ·have e1 : fitV (sg s (val B32 l)) most = 0 := by unfold fitV; rw [sg_natAbs, if_neg (by omega)]
    have e2 : fitB (sg s (val B32 l)) most = false := by unfold fitB; rw [sg_natAbs]; simp; omega
    rw [e1, e2]
    clear e1 e2
    have hc' : (most : Int) < ((val B32 l : Nat) : Int) := by omega
    go_enter Tryz.func209, Tryz.ntmps209
    go_wp2
    go_rounds 3
    go_ret2
    exact ⟨rfl, by go_grown⟩
   ·have e1 : fitV (sg s (val B32 l)) most = sg s (val B32 l) := by unfold fitV; rw [sg_natAbs, if_pos (by omega)]
    have e2 : fitB (sg s (val B32 l)) most = true := by unfold fitB; rw [sg_natAbs]; simp; omega
    rw [e1, e2]
    clear e1 e2
    have hc' : ¬ (most : Int) < ((val B32 l : Nat) : Int) := by omega
    cases s with
    | true =>
     go_enter Tryz.func209, Tryz.ntmps209
     go_wp2
     go_rounds 3
     go_ret2
     exact ⟨rfl, by go_grown⟩
    | false =>
     go_enter Tryz.func209, Tryz.ntmps209
     go_wp2
     go_rounds 3
     go_ret2
     exact ⟨rfl, by go_grown⟩
theorem small_pow {j : Nat} (h : j <= 150) : Small ((10 ^ j : Nat) : Int) := by
 unfold Small
 rw [Int.natAbs_natCast]
 exact Nat.pow_lt_pow_right (by omega) (by omega)
theorem small_of_le {z : Int} (h1 : -10000000000000000000000000000000000000000 <= z) (h2 : z <= 10000000000000000000000000000000000000000) : Small z := by
 unfold Small
 have : 10000000000000000000000000000000000000000 < 10 ^ 200 := by decide
 omega
set_option maxHeartbeats 4000000 in
set_option maxRecDepth 100000 in
theorem power_c (n : Nat) (w : World) (hn : n <= 100) :
  Calls Tryz.prog 160 #[.int .i64 (n : Int)] w (Makes .u32 189 B32 w ((10 ^ n : Nat) : Int)) := by
 have hs10 : Small 10 := small_of_le (by omega) (by omega)
 go_enter Tryz.func160, Tryz.ntmps160
 go_wp2_with fail
 refine (of_c 1 _ (by omega) (by omega)).mono ?_
 rintro e w1 ⟨s1, A1, n1, c1, rfl, hv, hb⟩
 have hB := heap_below (heap_new w _ rfl) hb
 have hbw := below_then hb ((Below.refl _ _).alloc (Nat.le_refl _) _) (by simp)
 obtain ⟨-, -, -, -, z1⟩ := box2 hB
 go_wp2
 have hz1 := hbw.size
 go_loopw [6] (fun i wr => ∃ (j : Nat) (t : Bool) (A : Option Addr) (k c : Nat), j <= n /\ i = .int .i64 j /\ wr.heap[w1.heap.size]? = some (.cells #[.bool t, .slice A k c] 123 (0, 0)) /\ wr.heap[w.heap.size]? = some (.cells #[.bool false, .slice none 0 0] 123 (0, 0)) /\
   Big .u32 189 B32 wr t A k c ((10 ^ j : Nat) : Int) /\ Below w.heap.size w wr) (fun i _ => n - (intOf i).toNat)
 case atStart => exact ⟨0, s1, A1, n1, c1, Nat.zero_le _, rfl, heap_new _ _ rfl, heap_old hB _, by exact hv.alloc _, hbw.alloc hz1 _⟩
 case round =>
  obtain ⟨j, t, A, k, c, hj, rfl, hO, hR, hbig, hbel⟩ := hrel
  have hzr := hbel.size
  obtain ⟨o0, o1, of0, of1, oz⟩ := box2 hO
  rcases Nat.lt_or_ge j n with hjn | hjn
  ·go_wp2_with fail
   go_region_with
    (first
     | (go_at_call 155; refine (of_c 10 _ (by omega) (by omega)).mono ?_; rintro e w4 ⟨s4, A4, n4, c4, rfl, hv4, hb4⟩; (have q1 := box2 (heap_below (w := wr.drew) hO hb4)); obtain ⟨r10, r11, -, -, -⟩ := q1)
     | (go_at_call 156; refine (times_c _ (by exact Big.below (w := wr.drew) hbig hb4) hv4 (small_pow (by omega)) hs10).mono ?_; rintro e w5 ⟨s5, A5, n5, c5, rfl, hv5, hb5⟩; (have hB5 := heap_below (heap_below (w := wr.drew) hO hb4) hb5); obtain ⟨g0, g1, g2, g3, g4⟩ := box2 hB5))
   all_goals
    have hR5 := heap_below (heap_below (w := wr.drew) hR hb4) hb5
    have hpw : ((10 ^ j : Nat) : Int) * 10 = ((10 ^ (j + 1) : Nat) : Int) := by rw [Nat.pow_succ, Int.natCast_mul]; rfl
    rw [hpw] at hv5
    clear hpw
    have hN : Big .u32 189 B32 ((w5.setCell ⟨w1.heap.size, 0, none⟩ (.bool s5)).setCell ⟨w1.heap.size, 1, none⟩ (.slice A5 n5 c5)) s5 A5 n5 c5 ((10 ^ (j + 1) : Nat) : Int) := hv5.box2 hB5 (by decide) _ _
    have hO' : ((w5.setCell ⟨w1.heap.size, 0, none⟩ (.bool s5)).setCell ⟨w1.heap.size, 1, none⟩ (.slice A5 n5 c5)).heap[w1.heap.size]? = some (.cells #[.bool s5, .slice A5 n5 c5] 123 (0, 0)) := heap_set (heap_set hB5 0 _) 1 _
    have hR' : ((w5.setCell ⟨w1.heap.size, 0, none⟩ (.bool s5)).setCell ⟨w1.heap.size, 1, none⟩ (.slice A5 n5 c5)).heap[w.heap.size]? = some (.cells #[.bool false, .slice none 0 0] 123 (0, 0)) := heap_far (heap_far hR5 (by simp; omega) _) (by simp; omega) _
    have hb' : Below w.heap.size w ((w5.setCell ⟨w1.heap.size, 0, none⟩ (.bool s5)).setCell ⟨w1.heap.size, 1, none⟩ (.slice A5 n5 c5)) := ((below_then hb5 (below_then hb4 hbel.drew hzr) (Nat.le_trans hzr hb4.size)).setCell (by simp; omega) _).setCell (by simp; omega) _
    generalize (w5.setCell ⟨w1.heap.size, 0, none⟩ (.bool s5)).setCell ⟨w1.heap.size, 1, none⟩ (.slice A5 n5 c5) = w6 at hN hO' hR' hb' ⊢
    clear hv5 hB5 hR5 hb5 hb4 g0 g1 g2 g3 g4
    go_wp2
    go_roundw
    case rel => exact ⟨j + 1, s5, A5, n5, c5, by omega, by go_num, hO', hR', hN, hb'⟩
    case measure => simp [intOf]; omega
  ·obtain rfl : j = n := by omega
   obtain ⟨g0, g1, g2, g3, g4⟩ := box2 hR
   go_wp2
   refine bodyPost_ret (v := .agg #[.bool t, .slice A k c]) (by simp [results, Tryz.results160, go_sem, g0, g1]) rfl ⟨t, A, k, c, rfl, hbig.box2 hR (by decide) _ _, ?_⟩
   go_grown
theorem out_no (n lo hi : Int) (w : World) (h : lo <= n /\ n <= hi) : Calls Tryz.prog 86 #[.int .i64 n, .int .i64 lo, .int .i64 hi] w fun e w' => w = w' /\ e = .returned (.bool false) := by
 have h1 : ¬ n < lo := by omega
 have h2 : ¬ hi < n := by omega
 go_enter Tryz.func86, Tryz.ntmps86
 go_wp2
 go_ret
 exact ⟨rfl, rfl⟩
theorem out_yes (n lo hi : Int) (w : World) (h : ¬ (lo <= n /\ n <= hi)) : Calls Tryz.prog 86 #[.int .i64 n, .int .i64 lo, .int .i64 hi] w fun e w' => w = w' /\ e = .returned (.bool true) := by
 by_cases h1 : n < lo
 ·go_enter Tryz.func86, Tryz.ntmps86
  go_wp2
  go_ret
  exact ⟨rfl, rfl⟩
 ·have h2 : hi < n := by omega
  go_enter Tryz.func86, Tryz.ntmps86
  go_wp2
  go_ret
  exact ⟨rfl, rfl⟩
theorem small_mul9 {u : Int} (hu : -1000000000000000 <= u /\ u <= 1000000000000000) : Small u := small_of_le (by omega) (by omega)
set_option maxHeartbeats 2000000 in
set_option maxRecDepth 100000 in
theorem scaled_c (u p : Int) (q : Nat) (w : World) (h : decB u p = true) (hp : p <= q) (hq : q <= 9) :
  Calls Tryz.prog 110 #[.agg #[.int .i64 u, .int .i64 p], .int .i64 (q : Int)] w (Makes .u32 189 B32 w (scaled u p q)) := by
 have h := decB_out h
 have su : Small u := small_mul9 (by omega)
 have e : IntKind.i64.wrap ((q : Int) - p) = ((q - p.toNat : Nat) : Int) := by rw [IntWalk.i64_in _ (by omega)]; omega
 have HE := Lib.hid e; clear e
 go_enter Tryz.func110, Tryz.ntmps110
 go_wp2_with fail
 have HW := boxes2 w (.int .i64 u) (.int .i64 p) (.bool false) (.slice none 0 0) 118 123
 generalize (w.alloc (.cells #[.int .i64 u, .int .i64 p] 118)).alloc (.cells #[.bool false, .slice none 0 0] 123) = w3 at HW ⊢
 obtain ⟨hB1, hB3, hbel⟩ := HW _ rfl
 clear HW
 have hz3 := hbel.size
 obtain ⟨c10, c11, -, -, z1⟩ := box2 hB1
 obtain ⟨-, -, -, -, z3⟩ := box2 hB3
 go_region_held3 (fun w' => w'.cell? ⟨w.heap.size, 0, none⟩ = some (.int .i64 u) /\ w'.cell? ⟨w.heap.size, 1, none⟩ = some (.int .i64 p))
  (first | (go_keep; done) | (refine ⟨cell_past2 r10 ?_, cell_past2 r11 ?_⟩ <;> omega))
  (first
   | (go_at_call 155; refine (of_c u _ (by omega) (by omega)).mono ?_; rintro e w4 ⟨s4, A4, n4, c4, rfl, hv4, hb4⟩; (have hC1 := heap_below (w := w3.drew) hB1 hb4); (have hC3 := heap_below (w := w3.drew) hB3 hb4); (have hbel4 := below_then hb4 hbel.drew hz3); obtain ⟨r10, r11, -, -, -⟩ := box2 hC1)
   | (go_at_call 160; rw [HE.out]; refine (power_c _ _ (by omega)).mono ?_; rintro e w5 ⟨s5, A5, n5, c5, rfl, hv5, hb5⟩; (have hE1 := heap_below hC1 hb5); (have hE3 := heap_below hC3 hb5); (have hbel5 := below_then hb5 hbel4 hbel4.size); obtain ⟨r10, r11, -, -, -⟩ := box2 hE1)
   | (go_at_call 156; refine (times_c _ (hv4.below hb5) hv5 su (small_pow (by omega))).mono ?_; rintro e w6 ⟨s6, A6, n6, c6, rfl, hv6, hb6⟩; (have hF1 := heap_below hE1 hb6); (have hF3 := heap_below hE3 hb6); (have hbel6 := below_then hb6 hbel5 hbel5.size); obtain ⟨r10, r11, -, -, -⟩ := box2 hF1; obtain ⟨g0, g1, g2, g3, g4⟩ := box2 hF3))
 go_wp2
 refine bodyPost_ret (v := .agg #[.bool s6, .slice A6 n6 c6]) (by simp [results, Tryz.results110, go_sem, g0, g1]) rfl ⟨s6, A6, n6, c6, rfl, hv6.box2 hF3 (by decide) _ _, ?_⟩
 go_grown
theorem made_fit (z p : Int) (h : z.natAbs <= 1000000000000000) : made z p = (z, p, 0) /\ fitV z 1000000000000000 = z /\ fitB z 1000000000000000 = true := by
 unfold made fitV fitB; simp [h]
theorem made_not (z p : Int) (h : ¬ z.natAbs <= 1000000000000000) : made z p = (0, 0, 1) /\ fitV z 1000000000000000 = 0 /\ fitB z 1000000000000000 = false := by
 unfold made fitV fitB; simp [h]
set_option maxHeartbeats 1000000 in
theorem mk_c (w : World) {s : Bool} {A : Option Addr} {n c : Nat} {z : Int} (p : Int) (h : Big .u32 189 B32 w s A n c z) :
  Calls Tryz.prog 159 #[.agg #[.bool s, .slice A n c], .int .i64 p] w (RetD (made z p) w) := by
 by_cases hz : z.natAbs <= 1000000000000000
 ·obtain ⟨e1, e2, e3⟩ := made_fit z p hz
  rw [e1]
  have E2 := Lib.hid e2; have E3 := Lib.hid e3; clear e1 e2 e3
  go_enter Tryz.func159, Tryz.ntmps159
  go_wp2_with fail
  refine (int_c _ 1000000000000000 ((h.alloc _).alloc _) (by omega)).mono ?_
  rintro e w1 ⟨rfl, hb⟩
  rw [E2.out, E3.out]
  have hB := heap_below (heap_new (w.alloc _) _ rfl) hb
  simp only [World.size_alloc] at hB
  obtain ⟨g0, g1, g2, g3, g4⟩ := box2 hB
  go_wp2
  refine bodyPost_ret (v := .tuple #[.agg #[.int .i64 z, .int .i64 p], .int .i64 0]) (by simp [results, Tryz.results159, go_sem, g0, g1]) rfl ⟨rfl, ?_⟩
  go_grown
  exact below_then hb (by go_grown) (by simp only [World.size_alloc]; omega)
 ·obtain ⟨e1, e2, e3⟩ := made_not z p hz
  rw [e1]
  have E2 := Lib.hid e2; have E3 := Lib.hid e3; clear e1 e2 e3
  go_enter Tryz.func159, Tryz.ntmps159
  go_wp2_with fail
  refine (int_c _ 1000000000000000 ((h.alloc _).alloc _) (by omega)).mono ?_
  rintro e w1 ⟨rfl, hb⟩
  rw [E2.out, E3.out]
  have hB := heap_below (heap_new (w.alloc _) _ rfl) hb
  simp only [World.size_alloc] at hB
  obtain ⟨g0, g1, g2, g3, g4⟩ := box2 hB
  go_wp2
  refine bodyPost_ret (v := .tuple #[.agg #[.int .i64 0, .int .i64 0], .int .i64 1]) (by simp [results, Tryz.results159, go_sem, g0, g1]) rfl ⟨rfl, ?_⟩
  go_grown
  exact below_then hb (by go_grown) (by simp only [World.size_alloc]; omega)
end Go.Proofs.YthjlleifpnpfgaaGreatDoor
