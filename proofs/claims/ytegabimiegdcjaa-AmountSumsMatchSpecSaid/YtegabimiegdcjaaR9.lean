
/- The walks of the reference: Compare at wrong decimals, Sum. -/
import Derived.Test.YtegabimiegdcjaaR8
import Derived.Test.YtegabimiegdcjaaA3
namespace Go.Proofs.Ytegabimiegdcjaa
open Go.RowKit Limb

set_option maxHeartbeats 1000000 in
theorem rcmp_bad (u p v q : Int) (w : World) (h : decB u p = false ∨ decB v q = false) :
    Calls Try.prog 8 #[.agg #[.int .i64 u, .int .i64 p], .agg #[.int .i64 v, .int .i64 q]] w (RetIF 0 1 w) := by
  have hB2 := heap_new (w.alloc (.cells #[.int .i64 u, .int .i64 p] 23)) (.cells #[.int .i64 v, .int .i64 q] 23) rfl
  rw [World.size_alloc] at hB2
  have hbel : Below w.heap.size w ((w.alloc (.cells #[.int .i64 u, .int .i64 p] 23)).alloc (.cells #[.int .i64 v, .int .i64 q] 23)) := by go_grown
  cases ha : decB u p with
  | false =>
    have HA := Lib.hid ha; clear ha h
    go_enter Try.func8, Try.ntmps8
    go_wp2_with fail
    generalize (w.alloc (.cells #[.int .i64 u, .int .i64 p] 23)).alloc (.cells #[.int .i64 v, .int .i64 q] 23) = w1 at hB2 hbel ⊢
    refine (rchk_bad _ _ _ HA.out).mono ?_
    rintro e w2 ⟨rfl, hb2⟩
    go_wp2
    go_ret2
    exact ⟨rfl, below_then hb2 hbel hbel.size⟩
  | true =>
    have hb : decB v q = false := by rcases h with h | h; rw [ha] at h; cases h; exact h
    have HA := Lib.hid ha; have HB := Lib.hid hb; clear ha h hb
    go_enter Try.func8, Try.ntmps8
    go_wp2_with fail
    generalize (w.alloc (.cells #[.int .i64 u, .int .i64 p] 23)).alloc (.cells #[.int .i64 v, .int .i64 q] 23) = w1 at hB2 hbel ⊢
    refine (rchk_ok _ _ _ HA.out).mono ?_
    rintro e w2 ⟨rfl, hb2⟩
    have hC2 := heap_below hB2 hb2
    have hbel2 := below_then hb2 hbel hbel.size
    obtain ⟨c20, c21, -, -, -⟩ := box2 hC2
    go_wp2_with fail
    refine (rchk_bad _ _ _ HB.out).mono ?_
    rintro e w3 ⟨rfl, hb3⟩
    go_wp2
    go_ret2
    exact ⟨rfl, below_then hb3 hbel2 hbel2.size⟩

set_option maxHeartbeats 1000000 in
theorem rsum_big (ds : List (Int × Int)) (A : Option Addr) (n c : Nat) (w : World) (hd : Decs w A n ds) (hn : n ≤ 9223372036854775807) (h : 1000 < n) :
    Calls Try.prog 12 #[.slice A n c] w (RetD (sumR ds) w) := by
  rw [sumR_big (by rw [hd.1]; exact h)]
  clear hd
  go_enter Try.func12, Try.ntmps12
  go_wp2
  refine bodyPost_ret (v := .tuple #[.agg #[.int .i64 0, .int .i64 0], .int .i64 2]) (by simp [results, Try.results12, go_sem]) rfl ⟨rfl, ?_⟩
  go_grown

set_option maxHeartbeats 2000000 in
set_option maxRecDepth 100000 in
theorem rsum_bad (ds : List (Int × Int)) (A : Option Addr) (n c : Nat) (w : World) (hd : Decs w A n ds) (h : ¬ 1000 < n) (hb : allB ds = false) :
    Calls Try.prog 12 #[.slice A n c] w (RetD (sumR ds) w) := by
  rw [sumR_bad (by rw [hd.1]; exact h) hb]
  have hl := hd.1
  obtain ⟨m, hm, hbad, hgood⟩ := allB_bad hb
  have HG := Lib.hid hgood; have HBD := Lib.hid hbad; have HL := Lib.hid hl
  have hmn : m < n := by omega
  have hrng := fun j (hj : j < n) => hd.rng hj
  have HRG := Lib.hid hrng
  clear hb hgood hbad hl hm hrng
  go_enter Try.func12, Try.ntmps12
  go_wp2_with fail
  have hR := heap_new w (.cells #[.int .i64 0, .int .i64 0] 23) rfl
  have hbw : Below w.heap.size w (w.alloc (.cells #[.int .i64 0, .int .i64 0] 23)) := by go_grown
  go_loopw [4, 16] (fun q i wr => ∃ (j : Nat) (p : Int), j ≤ m ∧ i = .int .i64 j ∧ q = .int .i64 p ∧ 0 ≤ p ∧ p ≤ 9 ∧ Below w.heap.size w wr ∧ wr.heap[w.heap.size]? = some (.cells #[.int .i64 0, .int .i64 0] 23 (0, 0))) (fun _ i _ => n - (intOf i).toNat)
  case atStart => exact ⟨0, 0, Nat.zero_le _, rfl, rfl, by omega, by omega, hbw, hR⟩
  case round =>
    clear hR hbw
    obtain ⟨j, p, hj, rfl, rfl, hp0, hp9, hbel, hR⟩ := hrel
    have hz := hbel.size
    have hjn : j < n := by omega
    obtain ⟨b, off, rfl, hb, hc⟩ := hd.2.2 (by omega)
    have hx := (hbel.cell (p := ⟨b, off + j * 2, none⟩) hb).trans (hc j hjn).1
    have hy := (hbel.cell (p := ⟨b, off + j * 2 + 1, none⟩) hb).trans (hc j hjn).2
    clear hc
    rcases Nat.lt_or_ge j m with hjm | hjm
    · have hk := HG.out j hjm
      have hkb := decB_out hk
      obtain ⟨hk1, hk2, hk3, hk4⟩ := hkb
      have HK := Lib.hid hk; clear hk
      go_wp2_with fail
      refine (rchk_ok _ _ _ HK.out).mono ?_
      rintro e w1 ⟨rfl, hb1⟩
      have hN := heap_below (heap_new wr (.cells #[.int .i64 (dU ds j), .int .i64 (dP ds j)] 23) rfl) hb1
      have hR1 := heap_below (heap_old hR (.cells #[.int .i64 (dU ds j), .int .i64 (dP ds j)] 23)) hb1
      have hbel1 := below_then hb1 (hbel.alloc hz _) (by simp; omega)
      clear hbel hR hb1 hx hy
      obtain ⟨n0, n1, -, -, -⟩ := box2 hN
      go_wp2
      go_roundw
      case rel => exact ⟨j + 1, max p (dP ds j), by omega, by go_num, congrArg _ (by split <;> omega), by omega, by omega, hbel1, hR1⟩
      case measure => simp [intOf]; omega
    · obtain rfl : j = m := by omega
      go_wp2_with fail
      refine (rchk_bad _ _ _ HBD.out).mono ?_
      rintro e w1 ⟨rfl, hb1⟩
      have hR1 := heap_below (heap_old hR (.cells #[.int .i64 (dU ds j), .int .i64 (dP ds j)] 23)) hb1
      have hbel1 := below_then hb1 (hbel.alloc hz _) (by simp; omega)
      obtain ⟨g0, g1, g2, g3, g4⟩ := box2 hR1
      go_wp2
      refine bodyPost_ret (v := .tuple #[.agg #[.int .i64 0, .int .i64 0], .int .i64 1]) (by simp [results, Try.results12, go_sem, g0, g1]) rfl ⟨rfl, ?_⟩
      go_grown

set_option maxHeartbeats 4000000 in
set_option maxRecDepth 100000 in
theorem rsum_ok (ds : List (Int × Int)) (A : Option Addr) (n c : Nat) (w : World) (hd : Decs w A n ds) (h : ¬ 1000 < n) (hok : allB ds = true) :
    Calls Try.prog 12 #[.slice A n c] w (RetD (sumR ds) w) := by
  rw [sumR_ok (by rw [hd.1]; exact h) hok]
  have HL := Lib.hid hd.1
  have HB := Lib.hid hok; clear hok
  go_enter Try.func12, Try.ntmps12
  go_wp2_with fail
  have hR := heap_new w (.cells #[.int .i64 0, .int .i64 0] 23) rfl
  have hbw : Below w.heap.size w (w.alloc (.cells #[.int .i64 0, .int .i64 0] 23)) := by go_grown
  go_loopw [4, 16] (fun q i wr => ∃ j : Nat, j ≤ n ∧ i = .int .i64 j ∧ q = .int .i64 (maxP (ds.take j)) ∧ Below w.heap.size w wr ∧ wr.heap[w.heap.size]? = some (.cells #[.int .i64 0, .int .i64 0] 23 (0, 0))) (fun _ i _ => n - (intOf i).toNat)
  case atStart => exact ⟨0, Nat.zero_le _, rfl, rfl, hbw, hR⟩
  case round =>
    clear hR hbw
    obtain ⟨j, hj, rfl, rfl, hbel, hR⟩ := hrel
    have hz := hbel.size
    have hmp := maxP_bound HB.out j (by rw [HL.out]; exact hj)
    rcases Nat.lt_or_ge j n with hjn | hjn
    · obtain ⟨b, off, rfl, hb, hc⟩ := hd.2.2 (by omega)
      have hx := (hbel.cell (p := ⟨b, off + j * 2, none⟩) hb).trans (hc j hjn).1
      have hy := (hbel.cell (p := ⟨b, off + j * 2 + 1, none⟩) hb).trans (hc j hjn).2
      clear hc
      have hk := allB_at HB.out (j := j) (by rw [HL.out]; exact hjn)
      obtain ⟨hk1, hk2, hk3, hk4⟩ := decB_out hk
      have HK := Lib.hid hk; clear hk
      go_wp2_with fail
      refine (rchk_ok _ _ _ HK.out).mono ?_
      rintro e w1 ⟨rfl, hb1⟩
      have hN := heap_below (heap_new wr (.cells #[.int .i64 (dU ds j), .int .i64 (dP ds j)] 23) rfl) hb1
      have hR1 := heap_below (heap_old hR (.cells #[.int .i64 (dU ds j), .int .i64 (dP ds j)] 23)) hb1
      have hbel1 := below_then hb1 (hbel.alloc hz _) (by simp; omega)
      clear hbel hR hb1 hx hy
      obtain ⟨n0, n1, -, -, -⟩ := box2 hN
      go_wp2
      go_roundw
      case rel => exact ⟨j + 1, by omega, by go_num, congrArg _ (by rw [maxP_step (by rw [HL.out]; exact hjn)]; split <;> omega), hbel1, hR1⟩
      case measure => simp [intOf]; omega
    · obtain rfl : j = n := by omega
      rw [show ds.take j = ds from List.take_of_length_le (by rw [HL.out]; exact Nat.le_refl _)] at *
      obtain ⟨q, hq⟩ : ∃ q : Nat, maxP ds = (q : Int) := ⟨(maxP ds).toNat, by omega⟩
      have hge : ∀ k, k < j → dP ds k ≤ (q : Int) := fun k hk => by
        have := maxP_ge (ds := ds) j k hk (by rw [HL.out]; exact Nat.le_refl _)
        rw [show ds.take j = ds from List.take_of_length_le (by rw [HL.out]; exact Nat.le_refl _), hq] at this
        exact this
      rw [hq] at hmp ⊢
      have HQ := Lib.hid hq; have HG := Lib.hid hge
      clear hq hge
      go_wp2_with fail
      have hO := heap_new wr (.cells #[.bool false, .slice none 0 0] 41) rfl
      have hR2 := heap_old hR (.cells #[.bool false, .slice none 0 0] 41)
      have hbel2 := hbel.alloc hz (.cells #[.bool false, .slice none 0 0] 41)
      have hlt2 := lt_heap hR
      generalize wr.heap.size = N at hO hlt2 ⊢
      generalize wr.alloc (.cells #[.bool false, .slice none 0 0] 41) = w2 at hO hR2 hbel2 ⊢
      clear hR hbel hz
      go_loopw [31] (fun i wr => ∃ (k : Nat) (s : Bool) (B : Option Addr) (m d : Nat), k ≤ j ∧ i = .int .i64 k ∧ wr.heap[N]? = some (.cells #[.bool s, .slice B m d] 41 (0, 0)) ∧ wr.heap[w.heap.size]? = some (.cells #[.int .i64 0, .int .i64 0] 23 (0, 0)) ∧
        Big .i64 3 B6 wr s B m d (sumZ (ds.take k) q) ∧ Below w.heap.size w wr) (fun i _ => j - (intOf i).toNat)
      case atStart => exact ⟨0, false, none, 0, 0, Nat.zero_le _, rfl, hO, hR2, ⟨[], Dig.nil_, Nat.le_refl _, by unfold maxLen; omega, Digs.nil _, norm_nil, (fun h => by cases h), rfl⟩, hbel2⟩
      case round =>
        clear hO hR2 hbel2 w2
        obtain ⟨k, s, B, m, d, hk, rfl, hO, hR, hbig, hbel⟩ := hrel
        have hz := hbel.size
        have hlt := lt_heap hO
        rcases Nat.lt_or_ge k j with hkj | hkj
        · obtain ⟨b, off, rfl, hb, hc⟩ := hd.2.2 (by omega)
          have hx := (hbel.cell (p := ⟨b, off + k * 2, none⟩) hb).trans (hc k hkj).1
          have hy := (hbel.cell (p := ⟨b, off + k * 2 + 1, none⟩) hb).trans (hc k hkj).2
          clear hc
          have hdk := allB_at HB.out (j := k) (by rw [HL.out]; exact hkj)
          have hpk := HG.out k hkj
          have hsm : Small (sumZ (ds.take k) q) := by
            have h1 := sumZ_bound HB.out (q := q) (by omega) k (by rw [HL.out]; omega)
            exact small_of_le (by omega) (by omega)
          go_wp2_with fail
          have hN := heap_new wr (.cells #[.int .i64 (dU ds k), .int .i64 (dP ds k)] 23) rfl
          have hO := heap_old hO (.cells #[.int .i64 (dU ds k), .int .i64 (dP ds k)] 23)
          have hR := heap_old hR (.cells #[.int .i64 (dU ds k), .int .i64 (dP ds k)] 23)
          have hbig := hbig.alloc (.cells #[.int .i64 (dU ds k), .int .i64 (dP ds k)] 23)
          have hbel := hbel.alloc hz (.cells #[.int .i64 (dU ds k), .int .i64 (dP ds k)] 23)
          generalize hgen : wr.alloc (.cells #[.int .i64 (dU ds k), .int .i64 (dP ds k)] 23) = w3 at hN hO hR hbig hbel ⊢
          have hz3 := hbel.size
          obtain ⟨o0, o1, of0, of1, oz⟩ := box2 hO
          obtain ⟨d0, d1, -, -, dz⟩ := box2 hN
          clear hgen hx hy
          go_region_with
            (first
              | (go_at_call 31; refine (at_r (dU ds k) (dP ds k) q _ hdk hpk (by omega)).mono ?_; rintro e w4 ⟨s4, A4, n4, c4, rfl, hv4, hb4⟩; (have hO4 := heap_below (w := w3.drew) hO hb4); (have hR4 := heap_below (w := w3.drew) hR hb4); (have hbel4 := below_then hb4 hbel.drew hz3); obtain ⟨r10, r11, -, -, -⟩ := box2 hO4)
              | (go_at_call 21; refine (plus_r _ (by exact Big.below (w := w3.drew) hbig hb4) hv4 hsm (scaled_small hdk (by omega))).mono ?_; rintro e w5 ⟨s5, A5, n5, c5, rfl, hv5, hb5⟩; (have hO5 := heap_below hO4 hb5); (have hR5 := heap_below hR4 hb5); (have hbel5 := below_then hb5 hbel4 hbel4.size); obtain ⟨g0, g1, g2, g3, g4⟩ := box2 hO5))
          all_goals
            rw [← sumZ_step (by rw [HL.out]; exact hkj)] at hv5
            have hN := hv5.box2 hO5 (by decide) (.bool s5) (.slice A5 n5 c5)
            have hO6 := heap_set (heap_set hO5 0 (.bool s5)) 1 (.slice A5 n5 c5)
            have hR6 := heap_far (heap_far hR5 (p := ⟨N, 0, none⟩) (by dsimp only; omega) (.bool s5)) (p := ⟨N, 1, none⟩) (by dsimp only; omega) (.slice A5 n5 c5)
            have hb' := (hbel5.setCell (p := ⟨N, 0, none⟩) (by dsimp only; omega) (.bool s5)).setCell (p := ⟨N, 1, none⟩) (by dsimp only; omega) (.slice A5 n5 c5)
            generalize (w5.setCell ⟨N, 0, none⟩ (.bool s5)).setCell ⟨N, 1, none⟩ (.slice A5 n5 c5) = w6 at hN hO6 hR6 hb' ⊢
            clear hv5 hO5 hR5 hb5 hb4 hO4 hR4 g0 g1 g2 g3 g4
            go_wp2
            go_roundw
            case rel => exact ⟨k + 1, s5, A5, n5, c5, by omega, by go_num, hO6, hR6, hN, hb'⟩
            case measure => simp [intOf]; omega
        · obtain rfl : k = j := by omega
          rw [show ds.take k = ds from List.take_of_length_le (by rw [HL.out]; exact Nat.le_refl _)] at hbig
          obtain ⟨o0, o1, of0, of1, oz⟩ := box2 hO
          go_wp2_with fail
          refine (decimal_r _ (q : Int) hbig).mono ?_
          rintro e w3 ⟨rfl, hb3⟩
          have hR3 := heap_below hR hb3
          obtain ⟨g0, g1, g2, g3, g4⟩ := box2 hR3
          have hbel3 := below_then hb3 hbel hz
          rw [show made (sumZ ds q) (q : Int) = made (sumZ ds (maxP ds).toNat) (maxP ds) by rw [HQ.out, Int.toNat_natCast]]
          generalize made (sumZ ds (maxP ds).toNat) (maxP ds) = R at *
          obtain ⟨R1, R2, R3⟩ := R
          go_wp2
          refine bodyPost_ret (v := .tuple #[.agg #[.int .i64 R1, .int .i64 R2], .int .i64 R3]) (by simp [results, Try.results12, go_sem, g0, g1]) rfl ⟨rfl, ?_⟩
          go_grown

theorem rsum_c (ds : List (Int × Int)) (A : Option Addr) (n c : Nat) (w : World) (hd : Decs w A n ds) (hn : n ≤ 9223372036854775807) :
    Calls Try.prog 12 #[.slice A n c] w (RetD (sumR ds) w) := by
  by_cases h : 1000 < n
  · exact rsum_big ds A n c w hd hn h
  · by_cases hb : allB ds = true
    · exact rsum_ok ds A n c w hd h hb
    · exact rsum_bad ds A n c w hd h (by simpa using hb)

end Go.Proofs.Ytegabimiegdcjaa
