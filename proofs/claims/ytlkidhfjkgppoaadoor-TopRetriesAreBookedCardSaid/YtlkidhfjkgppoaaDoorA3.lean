
/- The walk of package amount: Sum. -/
import Derived.Test.YtlkidhfjkgppoaaDoorA2
import Derived.Deep.RegionWith
namespace Go.Proofs.YtlkidhfjkgppoaaDoor
open Go.RowKit Limb

theorem sumR_big {ds : List (Int × Int)} (h : 1000 < ds.length) : sumR ds = (0, 0, 2) := by unfold sumR; rw [if_pos h]
theorem sumR_bad {ds : List (Int × Int)} (h : ¬ 1000 < ds.length) (h2 : allB ds = false) : sumR ds = (0, 0, 1) := by unfold sumR; rw [if_neg h, h2]; rfl
theorem sumR_ok {ds : List (Int × Int)} (h : ¬ 1000 < ds.length) (h2 : allB ds = true) : sumR ds = made (sumZ ds (maxP ds).toNat) (maxP ds) := by unfold sumR; rw [if_neg h, h2]; rfl

set_option maxHeartbeats 1000000 in
theorem sum_big (ds : List (Int × Int)) (A : Option Addr) (n c : Nat) (w : World) (hd : Decs w A n ds) (hn : n ≤ 9223372036854775807) (h : 1000 < n) :
    Calls Tryd.prog 13 #[.slice A n c] w (RetD (sumR ds) w) := by
  rw [sumR_big (by rw [hd.1]; exact h)]
  clear hd
  go_enter Tryd.func13, Tryd.ntmps13
  go_wp2
  refine bodyPost_ret (v := .tuple #[.agg #[.int .i64 0, .int .i64 0], .int .i64 2]) (by simp [results, Tryd.results13, go_sem]) rfl ⟨rfl, ?_⟩
  go_grown

set_option maxHeartbeats 1000000 in
theorem sum_bad (ds : List (Int × Int)) (A : Option Addr) (n c : Nat) (w : World) (hd : Decs w A n ds) (h : ¬ 1000 < n) (hb : allB ds = false) :
    Calls Tryd.prog 13 #[.slice A n c] w (RetD (sumR ds) w) := by
  rw [sumR_bad (by rw [hd.1]; exact h) hb]
  have HB := Lib.hid hb; clear hb
  go_enter Tryd.func13, Tryd.ntmps13
  go_wp2_with fail
  refine (chks_bad ds A n c _ (hd.alloc _) (by omega) HB.out).mono ?_
  rintro e w1 ⟨rfl, hb1⟩
  have hB := heap_below (heap_new w _ rfl) hb1
  obtain ⟨g0, g1, g2, g3, g4⟩ := box2 hB
  go_wp2
  refine bodyPost_ret (v := .tuple #[.agg #[.int .i64 0, .int .i64 0], .int .i64 1]) (by simp [results, Tryd.results13, go_sem, g0, g1]) rfl ⟨rfl, ?_⟩
  go_grown
  exact below_then hb1 (by go_grown) (by simp only [World.size_alloc]; omega)

set_option maxHeartbeats 4000000 in
set_option maxRecDepth 100000 in
theorem sum_ok (ds : List (Int × Int)) (A : Option Addr) (n c : Nat) (w : World) (hd : Decs w A n ds) (h : ¬ 1000 < n) (hok : allB ds = true) :
    Calls Tryd.prog 13 #[.slice A n c] w (RetD (sumR ds) w) := by
  rw [sumR_ok (by rw [hd.1]; exact h) hok]
  have HL := Lib.hid hd.1
  have HB := Lib.hid hok; clear hok
  go_enter Tryd.func13, Tryd.ntmps13
  go_wp2_with fail
  refine (chks_ok ds A n c _ (hd.alloc _) (by omega) HB.out).mono ?_
  rintro e w1 ⟨rfl, hb1⟩
  have hR := heap_below (heap_new w _ rfl) hb1
  have hbw := below_then hb1 (B := w.heap.size) (w := w) (by go_grown) (by simp only [World.size_alloc]; omega)
  clear hb1
  go_wp2_with fail
  go_loopw [5, 23] (fun q i wr => ∃ j : Nat, j ≤ n ∧ i = .int .i64 j ∧ q = .int .i64 (maxP (ds.take j)) ∧ Below w.heap.size w wr ∧ wr.heap[w.heap.size]? = some (.cells #[.int .i64 0, .int .i64 0] 51 (0, 0))) (fun _ i _ => n - (intOf i).toNat)
  case atStart => exact ⟨0, Nat.zero_le _, rfl, rfl, hbw, hR⟩
  case round =>
    obtain ⟨j, hj, rfl, rfl, hbel, hR⟩ := hrel
    have hz := hbel.size
    have hmp := maxP_bound HB.out j (by rw [HL.out]; exact hj)
    rcases Nat.lt_or_ge j n with hjn | hjn
    · obtain ⟨b, off, rfl, hb, hc⟩ := hd.2.2 (by omega)
      have hx := (hbel.cell (p := ⟨b, off + j * 2, none⟩) hb).trans (hc j hjn).1
      have hy := (hbel.cell (p := ⟨b, off + j * 2 + 1, none⟩) hb).trans (hc j hjn).2
      clear hc
      go_wp2
      go_roundw
      case rel => exact ⟨j + 1, by omega, by go_num, congrArg _ (by rw [maxP_step (by rw [HL.out]; exact hjn)]; split <;> omega), hbel.alloc hz _, heap_old hR _⟩
      case measure => simp [intOf]; omega
    · obtain rfl : j = n := by omega
      rw [show ds.take j = ds from List.take_of_length_le (by rw [HL.out]; exact Nat.le_refl _)] at *
      go_wp2_with fail
      obtain ⟨q, hq⟩ : ∃ q : Nat, maxP ds = (q : Int) := ⟨(maxP ds).toNat, by omega⟩
      have hge : ∀ k, k < j → dP ds k ≤ (q : Int) := fun k hk => by
        have := maxP_ge (ds := ds) j k hk (by rw [HL.out]; exact Nat.le_refl _)
        rw [show ds.take j = ds from List.take_of_length_le (by rw [HL.out]; exact Nat.le_refl _), hq] at this
        exact this
      rw [hq] at hmp ⊢
      have HQ := Lib.hid hq; have HG := Lib.hid hge
      clear hq hge
      refine (of_c 0 _ (by omega) (by omega)).mono ?_
      rintro e w2 ⟨s2, A2, n2, c2, rfl, hv2, hb2⟩
      have hR2 := heap_below hR hb2
      have hbel2 := below_then hb2 hbel hz
      have hz2 := hbel2.size
      have hlt2 := lt_heap hR2
      clear hR hb2 hbel hz
      go_wp2_with fail
      go_loopw [35] (fun i wr => ∃ (k : Nat) (s : Bool) (B : Option Addr) (m d : Nat), k ≤ j ∧ i = .int .i64 k ∧ wr.heap[w2.heap.size]? = some (.cells #[.bool s, .slice B m d] 76 (0, 0)) ∧ wr.heap[w.heap.size]? = some (.cells #[.int .i64 0, .int .i64 0] 51 (0, 0)) ∧
        Big .u32 92 B32 wr s B m d (sumZ (ds.take k) q) ∧ Below w.heap.size w wr) (fun i _ => j - (intOf i).toNat)
      case atStart => exact ⟨0, s2, A2, n2, c2, Nat.zero_le _, rfl, heap_new _ _ rfl, heap_old hR2 _, by exact hv2.alloc _, hbel2.alloc hz2 _⟩
      case round =>
        obtain ⟨k, s, B, m, d, hk, rfl, hO, hR, hbig, hbel⟩ := hrel
        have hz := hbel.size
        have hlt := lt_heap hO
        rcases Nat.lt_or_ge k j with hkj | hkj
        · obtain ⟨b, off, rfl, hb, hc⟩ := hd.2.2 (by omega)
          have hx := (hbel.cell (p := ⟨b, off + k * 2, none⟩) hb).trans (hc k hkj).1
          have hy := (hbel.cell (p := ⟨b, off + k * 2 + 1, none⟩) hb).trans (hc k hkj).2
          clear hc
          have hdk := allB_at HB.out (j := k) (by rw [HL.out]; exact hkj)
          have hpk := HG.out k hkj
          have hsm : Small (sumZ (ds.take k) q) := by
            have h1 := sumZ_bound HB.out (q := q) (by omega) k (by rw [HL.out]; omega)
            exact small_of_le (by omega) (by omega)
          go_wp2_with fail
          have hN := heap_new wr (.cells #[.int .i64 (dU ds k), .int .i64 (dP ds k)] 51) rfl
          have hO := heap_old hO (.cells #[.int .i64 (dU ds k), .int .i64 (dP ds k)] 51)
          have hR := heap_old hR (.cells #[.int .i64 (dU ds k), .int .i64 (dP ds k)] 51)
          have hbig := hbig.alloc (.cells #[.int .i64 (dU ds k), .int .i64 (dP ds k)] 51)
          have hbel := hbel.alloc hz (.cells #[.int .i64 (dU ds k), .int .i64 (dP ds k)] 51)
          generalize hgen : wr.alloc (.cells #[.int .i64 (dU ds k), .int .i64 (dP ds k)] 51) = w3 at hN hO hR hbig hbel ⊢
          have hz3 := hbel.size
          obtain ⟨o0, o1, of0, of1, oz⟩ := box2 hO
          obtain ⟨d0, d1, -, -, dz⟩ := box2 hN
          clear hgen hx hy
          go_region_with
            (first
              | (go_at_call 31; refine (scaled_c (dU ds k) (dP ds k) q _ hdk hpk (by omega)).mono ?_; rintro e w4 ⟨s4, A4, n4, c4, rfl, hv4, hb4⟩; (have hO4 := heap_below (w := w3.drew) hO hb4); (have hR4 := heap_below (w := w3.drew) hR hb4); (have hbel4 := below_then hb4 hbel.drew hz3); obtain ⟨r10, r11, -, -, -⟩ := box2 hO4)
              | (go_at_call 30; refine (plus_c _ (by exact Big.below (w := w3.drew) hbig hb4) hv4 hsm (scaled_small hdk (by omega))).mono ?_; rintro e w5 ⟨s5, A5, n5, c5, rfl, hv5, hb5⟩; (have hO5 := heap_below hO4 hb5); (have hR5 := heap_below hR4 hb5); (have hbel5 := below_then hb5 hbel4 hbel4.size); obtain ⟨g0, g1, g2, g3, g4⟩ := box2 hO5))
          all_goals
            rw [← sumZ_step (by rw [HL.out]; exact hkj)] at hv5
            have hN := hv5.box2 hO5 (by decide) (.bool s5) (.slice A5 n5 c5)
            have hO6 := heap_set (heap_set hO5 0 (.bool s5)) 1 (.slice A5 n5 c5)
            have hR6 := heap_far (heap_far hR5 (p := ⟨w2.heap.size, 0, none⟩) (by dsimp only; omega) (.bool s5)) (p := ⟨w2.heap.size, 1, none⟩) (by dsimp only; omega) (.slice A5 n5 c5)
            have hb' := (hbel5.setCell (p := ⟨w2.heap.size, 0, none⟩) hz2 (.bool s5)).setCell (p := ⟨w2.heap.size, 1, none⟩) hz2 (.slice A5 n5 c5)
            generalize (w5.setCell ⟨w2.heap.size, 0, none⟩ (.bool s5)).setCell ⟨w2.heap.size, 1, none⟩ (.slice A5 n5 c5) = w6 at hN hO6 hR6 hb' ⊢
            clear hv5 hO5 hR5 hb5 hb4 hO4 hR4 g0 g1 g2 g3 g4
            go_wp2
            go_roundw
            case rel => exact ⟨k + 1, s5, A5, n5, c5, by omega, by go_num, hO6, hR6, hN, hb'⟩
            case measure => simp [intOf]; omega
        · obtain rfl : k = j := by omega
          rw [show ds.take k = ds from List.take_of_length_le (by rw [HL.out]; exact Nat.le_refl _)] at hbig
          obtain ⟨o0, o1, of0, of1, oz⟩ := box2 hO
          go_wp2_with fail
          refine (mk_c _ (q : Int) hbig).mono ?_
          rintro e w3 ⟨rfl, hb3⟩
          have hR3 := heap_below hR hb3
          obtain ⟨g0, g1, g2, g3, g4⟩ := box2 hR3
          have hbel3 := below_then hb3 hbel hz
          rw [show made (sumZ ds q) (q : Int) = made (sumZ ds (maxP ds).toNat) (maxP ds) by rw [HQ.out, Int.toNat_natCast]]
          generalize made (sumZ ds (maxP ds).toNat) (maxP ds) = R at *
          obtain ⟨R1, R2, R3⟩ := R
          go_wp2
          refine bodyPost_ret (v := .tuple #[.agg #[.int .i64 R1, .int .i64 R2], .int .i64 R3]) (by simp [results, Tryd.results13, go_sem, g0, g1]) rfl ⟨rfl, ?_⟩
          go_grown

end Go.Proofs.YtlkidhfjkgppoaaDoor
