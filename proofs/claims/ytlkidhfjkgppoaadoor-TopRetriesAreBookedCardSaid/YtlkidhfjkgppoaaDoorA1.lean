
/- The walks of package amount: CheckDecimal, CheckDecimals. -/
import Derived.Test.YtlkidhfjkgppoaaDoorW9
import Derived.Test.YtlkidhfjkgppoaaDoorSpec
namespace Go.Proofs.YtlkidhfjkgppoaaDoor
open Go.RowKit Limb

theorem out_no (n lo hi : Int) (w : World) (h : lo ≤ n ∧ n ≤ hi) : Calls Tryd.prog 21 #[.int .i64 n, .int .i64 lo, .int .i64 hi] w fun e w' => w = w' ∧ e = .returned (.bool false) := by
  have h1 : ¬ n < lo := by omega
  have h2 : ¬ hi < n := by omega
  go_enter Tryd.func21, Tryd.ntmps21
  go_wp2
  go_ret
  exact ⟨rfl, rfl⟩
theorem out_yes (n lo hi : Int) (w : World) (h : ¬ (lo ≤ n ∧ n ≤ hi)) : Calls Tryd.prog 21 #[.int .i64 n, .int .i64 lo, .int .i64 hi] w fun e w' => w = w' ∧ e = .returned (.bool true) := by
  by_cases h1 : n < lo
  · go_enter Tryd.func21, Tryd.ntmps21
    go_wp2
    go_ret
    exact ⟨rfl, rfl⟩
  · have h2 : hi < n := by omega
    go_enter Tryd.func21, Tryd.ntmps21
    go_wp2
    go_ret
    exact ⟨rfl, rfl⟩

theorem chk_ok (u p : Int) (w : World) (h : decB u p = true) : Calls Tryd.prog 39 #[.agg #[.int .i64 u, .int .i64 p]] w fun e w' => e = .returned (.int .i64 0) ∧ Below w.heap.size w w' := by
  have h := decB_out h
  have h1 : ¬ u < -1000000000000000 := by omega
  have h2 : ¬ 1000000000000000 < u := by omega
  have h3 : ¬ p < 0 := by omega
  have h4 : ¬ 9 < p := by omega
  go_enter Tryd.func39, Tryd.ntmps39
  go_wp2
  go_ret
  exact ⟨rfl, by go_grown⟩
theorem chk_bad (u p : Int) (w : World) (h : decB u p = false) : Calls Tryd.prog 39 #[.agg #[.int .i64 u, .int .i64 p]] w fun e w' => e = .returned (.int .i64 1) ∧ Below w.heap.size w w' := by
  have h := decB_not h
  by_cases h1 : u < -1000000000000000
  · go_enter Tryd.func39, Tryd.ntmps39
    go_wp2
    go_ret
    exact ⟨rfl, by go_grown⟩
  by_cases h2 : 1000000000000000 < u
  · go_enter Tryd.func39, Tryd.ntmps39
    go_wp2
    go_ret
    exact ⟨rfl, by go_grown⟩
  by_cases h3 : p < 0
  · go_enter Tryd.func39, Tryd.ntmps39
    go_wp2
    go_ret
    exact ⟨rfl, by go_grown⟩
  have h4 : 9 < p := by omega
  go_enter Tryd.func39, Tryd.ntmps39
  go_wp2
  go_ret
  exact ⟨rfl, by go_grown⟩

set_option maxHeartbeats 1000000 in
set_option maxRecDepth 100000 in
theorem chks_ok (ds : List (Int × Int)) (A : Option Addr) (n c : Nat) (w : World) (hd : Decs w A n ds) (hn : n ≤ 9223372036854775807) (h : allB ds = true) :
    Calls Tryd.prog 28 #[.slice A n c] w fun e w' => e = .returned (.int .i64 0) ∧ Below w.heap.size w w' := by
  have hl := hd.1
  go_enter Tryd.func28, Tryd.ntmps28
  go_wp2
  go_loopw [8] (fun i wr => ∃ j : Nat, j ≤ n ∧ i = .int .i64 j ∧ Below w.heap.size w wr) (fun i _ => n - (intOf i).toNat)
  case atStart => exact ⟨0, Nat.zero_le _, rfl, Below.refl _ _⟩
  case round =>
    obtain ⟨j, hj, rfl, hbel⟩ := hrel
    have hz := hbel.size
    rcases Nat.lt_or_ge j n with hjn | hjn
    · obtain ⟨b, off, rfl, hb, hc⟩ := hd.2.2 (by omega)
      have hx := (hbel.cell (p := ⟨b, off + j * 2, none⟩) hb).trans (hc j hjn).1
      have hy := (hbel.cell (p := ⟨b, off + j * 2 + 1, none⟩) hb).trans (hc j hjn).2
      have hk := allB_at h (j := j) (by omega)
      clear hc
      go_wp2_with (go_at_call 39; refine (chk_ok _ _ _ hk).mono ?_; rintro e w1 ⟨rfl, hb1⟩)
      go_roundw
      case rel => exact ⟨j + 1, by omega, by go_num, below_then hb1 (by go_grown) (by simp; omega)⟩
      case measure => simp [intOf]; omega
    · go_wp2
      go_ret
      exact ⟨rfl, hbel⟩

set_option maxHeartbeats 1000000 in
set_option maxRecDepth 100000 in
theorem chks_bad (ds : List (Int × Int)) (A : Option Addr) (n c : Nat) (w : World) (hd : Decs w A n ds) (hn : n ≤ 9223372036854775807) (h : allB ds = false) :
    Calls Tryd.prog 28 #[.slice A n c] w fun e w' => e = .returned (.int .i64 1) ∧ Below w.heap.size w w' := by
  have hl := hd.1
  obtain ⟨m, hm, hbad, hgood⟩ := allB_bad h
  clear h
  go_enter Tryd.func28, Tryd.ntmps28
  go_wp2
  go_loopw [8] (fun i wr => ∃ j : Nat, j ≤ m ∧ i = .int .i64 j ∧ Below w.heap.size w wr) (fun i _ => n - (intOf i).toNat)
  case atStart => exact ⟨0, Nat.zero_le _, rfl, Below.refl _ _⟩
  case round =>
    obtain ⟨j, hj, rfl, hbel⟩ := hrel
    have hz := hbel.size
    obtain ⟨b, off, rfl, hb, hc⟩ := hd.2.2 (by omega)
    have hx := (hbel.cell (p := ⟨b, off + j * 2, none⟩) hb).trans (hc j (by omega)).1
    have hy := (hbel.cell (p := ⟨b, off + j * 2 + 1, none⟩) hb).trans (hc j (by omega)).2
    clear hc
    have hjn : j < n := by omega
    rcases Nat.lt_or_ge j m with hjm | hjm
    · have hk := hgood j hjm
      clear hgood hbad
      go_wp2_with (go_at_call 39; refine (chk_ok _ _ _ hk).mono ?_; rintro e w1 ⟨rfl, hb1⟩)
      go_roundw
      case rel => exact ⟨j + 1, by omega, by go_num, below_then hb1 (by go_grown) (by simp; omega)⟩
      case measure => simp [intOf]; omega
    · obtain rfl : j = m := by omega
      clear hgood
      go_wp2_with (go_at_call 39; refine (chk_bad _ _ _ hbad).mono ?_; rintro e w1 ⟨rfl, hb1⟩)
      go_ret
      exact ⟨rfl, below_then hb1 (by go_grown) (by simp; omega)⟩

theorem small_mul9 {u : Int} (hu : -1000000000000000 ≤ u ∧ u ≤ 1000000000000000) : Small u := small_of_le (by omega) (by omega)

set_option maxHeartbeats 2000000 in
set_option maxRecDepth 100000 in
theorem scaled_c (u p : Int) (q : Nat) (w : World) (h : decB u p = true) (hp : p ≤ q) (hq : q ≤ 9) :
    Calls Tryd.prog 31 #[.agg #[.int .i64 u, .int .i64 p], .int .i64 (q : Int)] w (Makes .u32 92 B32 w (scaled u p q)) := by
  have h := decB_out h
  have su : Small u := small_mul9 (by omega)
  have e : IntKind.i64.wrap ((q : Int) - p) = ((q - p.toNat : Nat) : Int) := by rw [IntWalk.i64_in _ (by omega)]; omega
  have HE := Lib.hid e; clear e
  go_enter Tryd.func31, Tryd.ntmps31
  go_wp2_with fail
  have HW := boxes2 w (.int .i64 u) (.int .i64 p) (.bool false) (.slice none 0 0) 51 76
  generalize (w.alloc (.cells #[.int .i64 u, .int .i64 p] 51)).alloc (.cells #[.bool false, .slice none 0 0] 76) = w3 at HW ⊢
  obtain ⟨hB1, hB3, hbel⟩ := HW _ rfl
  clear HW
  have hz3 := hbel.size
  obtain ⟨c10, c11, -, -, z1⟩ := box2 hB1
  obtain ⟨-, -, -, -, z3⟩ := box2 hB3
  go_region_held3 (fun w' => w'.cell? ⟨w.heap.size, 0, none⟩ = some (.int .i64 u) ∧ w'.cell? ⟨w.heap.size, 1, none⟩ = some (.int .i64 p))
    (first | (go_keep; done) | (refine ⟨cell_past2 r10 ?_, cell_past2 r11 ?_⟩ <;> omega))
    (first
      | (go_at_call 29; refine (of_c u _ (by omega) (by omega)).mono ?_; rintro e w4 ⟨s4, A4, n4, c4, rfl, hv4, hb4⟩; (have hC1 := heap_below (w := w3.drew) hB1 hb4); (have hC3 := heap_below (w := w3.drew) hB3 hb4); (have hbel4 := below_then hb4 hbel.drew hz3); obtain ⟨r10, r11, -, -, -⟩ := box2 hC1)
      | (go_at_call 45; rw [HE.out]; refine (power_c _ _ (by omega)).mono ?_; rintro e w5 ⟨s5, A5, n5, c5, rfl, hv5, hb5⟩; (have hE1 := heap_below hC1 hb5); (have hE3 := heap_below hC3 hb5); (have hbel5 := below_then hb5 hbel4 hbel4.size); obtain ⟨r10, r11, -, -, -⟩ := box2 hE1)
      | (go_at_call 44; refine (times_c _ (hv4.below hb5) hv5 su (small_pow (by omega))).mono ?_; rintro e w6 ⟨s6, A6, n6, c6, rfl, hv6, hb6⟩; (have hF1 := heap_below hE1 hb6); (have hF3 := heap_below hE3 hb6); (have hbel6 := below_then hb6 hbel5 hbel5.size); obtain ⟨r10, r11, -, -, -⟩ := box2 hF1; obtain ⟨g0, g1, g2, g3, g4⟩ := box2 hF3))
  go_wp2
  refine bodyPost_ret (v := .agg #[.bool s6, .slice A6 n6 c6]) (by simp [results, Tryd.results31, go_sem, g0, g1]) rfl ⟨s6, A6, n6, c6, rfl, hv6.box2 hF3 (by decide) _ _, ?_⟩
  go_grown

end Go.Proofs.YtlkidhfjkgppoaaDoor
