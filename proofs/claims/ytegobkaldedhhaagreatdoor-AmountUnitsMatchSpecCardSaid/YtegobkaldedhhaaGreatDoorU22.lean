
/- The walk of the reference: InUnit. -/
import Derived.Test.YtegobkaldedhhaaGreatDoorU19
import Derived.Test.YtegobkaldedhhaaGreatDoorU20
import Derived.Test.YtegobkaldedhhaaGreatDoorR11
import Derived.Test.YtegobkaldedhhaaGreatDoorRX
import Derived.Deep.DeepCutAuto
namespace Go.Proofs.YtegobkaldedhhaaGreatDoor
open Go.RowKit Limb
set_option linter.unusedVariables false
set_option linter.unusedSimpArgs false

theorem uisway_c (v : Int) (w : World) : Calls Tryz.prog 49 #[.int .i64 v] w fun e w' => w = w' ∧ e = .returned (.bool (decide (1 ≤ v ∧ v ≤ 6))) := by
  go_enter Tryz.func49, Tryz.ntmps49
  go_wp2_with (go_at_call 48; refine (within_c _ _ _ _).mono ?_; rintro e w1 ⟨rfl, rfl⟩)
  go_ret
  exact ⟨rfl, by simp⟩

set_option maxHeartbeats 4000000 in
set_option maxRecDepth 100000 in
theorem rinunit_c (us : List Unt) (x y : ByteArray) (u p r v : Int) (A : Option Addr) (n c : Nat) (w : World) (hU : Uns w A n us) (hn : n ≤ 9223372036854775807) :
    Calls Tryz.prog 12 #[.slice A n c, .agg #[.int .i64 u, .int .i64 p], .string x, .string y, .int .i64 r, .int .i64 v] w (RetD (inuR us x.data.toList y.data.toList u p r v) w) := by
  have HU := Lib.hid hU
  clear hU
  go_enter Tryz.func12, Tryz.ntmps12
  go_wp2_with fail
  have h2 := boxes2 w (.int .i64 u) (.int .i64 p) (.int .i64 0) (.int .i64 0) 24 24
  generalize (w.alloc (.cells #[.int .i64 u, .int .i64 p] 24)).alloc (.cells #[.int .i64 0, .int .i64 0] 24) = w2 at h2 ⊢
  obtain ⟨hP2, hR2, hB2⟩ := h2 _ rfl
  clear h2
  refine (ask_c us x y A n c _ (HU.out.below hB2) hn).mono ?_
  rintro e w3 ⟨rfl, hb3⟩
  have hP3 := heap_below hP2 hb3
  have hR3 := heap_below hR2 hb3
  have hB3 := below_then hb3 hB2 hB2.size
  obtain ⟨g0, g1, g2, g3, g4⟩ := box2 hR3
  obtain ⟨p0, p1, -, -, p4⟩ := box2 hP3
  clear hb3 hP2 hR2 hB2
  by_cases hf : facF us x.data.toList y.data.toList = 0
  case neg =>
    have K := Lib.hid (inu_fac (u := u) (p := p) (r := r) (v := v) hf)
    have hf' : (facF us x.data.toList y.data.toList != 0) = true := by simpa using hf
    clear hf
    generalize facF us x.data.toList y.data.toList = F at hf' K ⊢
    go_wp2
    refine bodyPost_ret (v := .tuple #[.agg #[.int .i64 0, .int .i64 0], .int .i64 F]) (by simp [results, Tryz.results12, go_sem, g0, g1]) rfl ⟨by rw [K.out], ?_⟩
    go_grown
  have HF := Lib.hid hf
  obtain ⟨hck, i0, k0, hix, hiy⟩ := facF_zero hf
  have hsz := facF_pq hck (idxU_some hix).1 (idxU_some hiy).1
  have HX := Lib.hid hix; have HY := Lib.hid hiy; have HSZ := Lib.hid hsz
  have HRF := Lib.hid (fun W (h : Uns W A n us) => rfactor_c us x y A n c i0 k0 W h hn hck hix hiy)
  rw [hf]
  clear hf hck hix hiy hsz
  cases hdec : decB u p with
  | false =>
    have K := Lib.hid (inu_dec (r := r) (v := v) HF.out hdec)
    have HD := Lib.hid hdec
    clear hdec
    go_wp2_with fail
    refine (rchk_bad u p _ HD.out).mono ?_
    rintro e w4 ⟨rfl, hb4⟩
    have hR4 := heap_below hR3 hb4
    have hB4 := below_then hb4 hB3 hB3.size
    clear g0 g1 g2 g3 g4 p0 p1 p4
    obtain ⟨g0, g1, g2, g3, g4⟩ := box2 hR4
    go_wp2
    refine bodyPost_ret (v := .tuple #[.agg #[.int .i64 0, .int .i64 0], .int .i64 1]) (by simp [results, Tryz.results12, go_sem, g0, g1]) rfl ⟨by rw [K.out], ?_⟩
    go_grown
  | true =>
    have HD := Lib.hid hdec
    obtain ⟨d1, d2, d3, d4⟩ := decB_out hdec
    clear hdec
    go_wp2_with fail
    refine (rchk_ok u p _ HD.out).mono ?_
    rintro e w4 ⟨rfl, hb4⟩
    have hP4 := heap_below hP3 hb4
    have hR4 := heap_below hR3 hb4
    have hB4 := below_then hb4 hB3 hB3.size
    clear hb4 hP3 hR3 hB3 g0 g1 g2 g3 g4 p0 p1 p4
    obtain ⟨g0, g1, g2, g3, g4⟩ := box2 hR4
    obtain ⟨p0, p1, -, -, p4⟩ := box2 hP4
    by_cases hr : 0 ≤ r ∧ r ≤ 9
    case neg =>
      have hw1 : wayF r v = 1 := by unfold wayF; rw [if_pos hr]
      have K := Lib.hid (inu_way (r := r) (v := v) HF.out HD.out (by rw [hw1]; decide))
      rw [hw1] at K
      have DR := Lib.hid (decide_eq_false hr)
      clear hw1 hr
      go_wp2_with (go_at_call 48; refine (within_c _ _ _ _).mono ?_; rintro e w5 ⟨rfl, rfl⟩; rw [DR.out])
      refine bodyPost_ret (v := .tuple #[.agg #[.int .i64 0, .int .i64 0], .int .i64 1]) (by simp [results, Tryz.results12, go_sem, g0, g1]) rfl ⟨by rw [K.out], ?_⟩
      go_grown
    have DR := Lib.hid (decide_eq_true hr)
    by_cases hv : 1 ≤ v ∧ v ≤ 6
    case neg =>
      have hw1 : wayF r v = 4 := by unfold wayF; rw [if_neg (by omega), if_pos hv]
      have K := Lib.hid (inu_way (r := r) (v := v) HF.out HD.out (by rw [hw1]; decide))
      rw [hw1] at K
      have DV := Lib.hid (decide_eq_false hv)
      clear hw1 hr hv
      go_wp2_with (first | (go_at_call 48; refine (within_c _ _ _ _).mono ?_; rintro e w5 ⟨rfl, rfl⟩; rw [DR.out]) | (go_at_call 49; refine (uisway_c _ _).mono ?_; rintro e w5 ⟨rfl, rfl⟩; rw [DV.out]))
      refine bodyPost_ret (v := .tuple #[.agg #[.int .i64 0, .int .i64 0], .int .i64 4]) (by simp [results, Tryz.results12, go_sem, g0, g1]) rfl ⟨by rw [K.out], ?_⟩
      go_grown
    have DV := Lib.hid (decide_eq_true hv)
    have hw : wayF r v = 0 := by unfold wayF; rw [if_neg (by omega), if_neg (by omega)]
    have hrk := inu_ok (r := r) (v := v) HF.out HD.out hw HX.out HY.out
    obtain ⟨r1, r2⟩ := hr
    obtain ⟨q, rfl⟩ := Int.eq_ofNat_of_zero_le r1
    obtain ⟨s, rfl⟩ := Int.eq_ofNat_of_zero_le d3
    rw [Int.toNat_natCast, Int.toNat_natCast] at hrk
    obtain ⟨P, hPe⟩ : ∃ P, prodN (topL us i0 k0) = P := ⟨_, rfl⟩
    obtain ⟨Q, hQe⟩ : ∃ Q, prodN (botL us i0 k0) = Q := ⟨_, rfl⟩
    have hsz := HSZ.out
    rw [hPe, hQe] at hrk hsz HRF
    obtain ⟨z1, z2, z3, z4, z5, z6, z7, z8, z9⟩ := inu_sizes (u := u) (r := q) (p := s) ⟨d1, d2⟩ hsz.1 hsz.2 (by omega) (by omega)
    have Z1 := Lib.hid z1; have Z2 := Lib.hid z2; have Z3 := Lib.hid z3; have Z4 := Lib.hid z4; have Z5 := Lib.hid z5; have Z6 := Lib.hid z6; have Z7 := Lib.hid z7; have Z8 := Lib.hid z8; have Z9 := Lib.hid z9
    obtain ⟨⟨R1, R2, R3⟩, hRR⟩ : ∃ R, made (rnd (u * ((P : Nat) : Int) * ((10 ^ q : Nat) : Int)) (Q * 10 ^ s) v) (q : Int) = R := ⟨_, rfl⟩
    have HRR := Lib.hid hRR
    rw [hRR] at hrk
    have K := Lib.hid hrk
    clear hRR hw hsz hrk z1 z2 z3 z4 z5 z6 z7 z8 z9 hPe hQe
    go_wp2_with (first | (go_at_call 48; refine (within_c _ _ _ _).mono ?_; rintro e w5 ⟨rfl, rfl⟩; rw [DR.out]) | (go_at_call 49; refine (uisway_c _ _).mono ?_; rintro e w5 ⟨rfl, rfl⟩; rw [DV.out]) | fail)
    refine (HRF.out _ (HU.out.below hB4)).mono ?_
    rintro e w5 ⟨s1, A1, n1, c1, s2, A2, n2, c2, rfl, hv1, hv2, hb5⟩
    have hP5 := heap_below hP4 hb5
    have hR5 := heap_below hR4 hb5
    have hB5 := below_then hb5 hB4 hB4.size
    clear hb5 hP4 hR4 hB4 g0 g1 g2 g3 g4 p0 p1 p4
    obtain ⟨N, hN⟩ : ∃ N, w5.heap.size = N := ⟨_, rfl⟩
    have hlR := lt_heap hR5
    rw [hN] at hlR
    go_upto_region 9 with fail
    obtain ⟨hX6, hY6, hb6⟩ := four w5 N (.bool s1) (.slice A1 n1 c1) (.bool s2) (.slice A2 n2 c2) hN _ rfl
    have hb6' : Below w5.heap.size w5 ((w5.alloc (.cells #[.bool s1, .slice A1 n1 c1] 61)).alloc (.cells #[.bool s2, .slice A2 n2 c2] 61)) := by rw [hN]; exact hb6
    try rw [hN]
    generalize (w5.alloc (.cells #[.bool s1, .slice A1 n1 c1] 61)).alloc (.cells #[.bool s2, .slice A2 n2 c2] 61) = w6 at hX6 hY6 hb6' ⊢
    have HP6 := Lib.hid (heap_below hP5 hb6'); have HR6 := Lib.hid (heap_below hR5 hb6')
    have HV1 := Lib.hid (hv1.below hb6'); have HV2 := Lib.hid (hv2.below hb6')
    have HB6 := Lib.hid (below_then hb6' hB5 hB5.size)
    clear hb6 hb6' hP5 hR5 hB5 hv1 hv2 hN
    have HX6 := Lib.hid hX6; have HY6 := Lib.hid hY6
    obtain ⟨x0, x1, -, -, x4⟩ := box2 hX6
    obtain ⟨p0, p1, -, -, p4⟩ := box2 HP6.out
    have hz6 := HB6.out.size
    clear hX6 hY6
    go_upto_region 10 with fail
    go_cut [17] (fun c17 wx => ∃ (L : Nat) (sa : Bool) (Aa : Option Addr) (na ca : Nat), c17 = .pointer (some ⟨L, 0, none⟩) ∧ w6.heap.size ≤ L ∧ wx.heap[L]? = some (.cells #[.bool sa, .slice Aa na ca] 61 (0, 0)) ∧ Big .i64 3 B6 wx sa Aa na ca (u * ((P : Nat) : Int) * ((10 ^ q : Nat) : Int)) ∧ Below w6.heap.size w6 wx)
    case first =>
      go_region_held3 (fun w' => w'.cell? ⟨w.heap.size, 0, none⟩ = some (.int .i64 u) ∧ w'.cell? ⟨N, 0, none⟩ = some (.bool s1) ∧ w'.cell? ⟨N, 1, none⟩ = some (.slice A1 n1 c1))
        (first | ((with_reducible refine ⟨cell_past2 ia2 ?_, cell_past2 ia0 ?_, cell_past2 ia1 ?_⟩) <;> omega; done) | (with_reducible refine ⟨?_, ?_, ?_⟩ <;> assumption) | (go_keep; done))
        (first
          | (go_at_call 51; refine (of_r u _ (by omega)).mono ?_; rintro e w7 ⟨s7, A7, n7, c7, rfl, hv7, hb7⟩; (have T7 : Below w6.heap.size w6 w7 := by first | exact below_then hb7 (Below.refl w6.heap.size w6).drew (Nat.le_refl _) | exact below_then hb7 (by go_grown) (by simp)); (try (have G := news1d hb7)); (have tz7 := T7.size); (have HV7 := Lib.hid hv7); (have HB7 := Lib.hid hb7); clear hv7 hb7; obtain ⟨i70, i71, -, -, i74⟩ := box2 (heap_below HX6.out T7); obtain ⟨i72, -, -, -, i75⟩ := box2 (heap_below HP6.out T7))
          | (go_at_call_of 50 (Value.agg #[Value.bool s7, Value.slice A7 n7 c7]); refine (timesof_r _ (x := u) (y := ((P : Nat) : Int)) (by first | exact HV7.out | exact HV7.out.alloc _) (by first | exact HV1.out.below T7 | exact (HV1.out.below T7).alloc _) Z1.out Z2.out).mono ?_; rintro e w8 ⟨s8, A8, n8, c8, rfl, hv8, hb8⟩; (have T8 : Below w6.heap.size w6 w8 := by first | exact below_then hb8 T7 T7.size | exact below_then hb8 (T7.alloc T7.size _) (by simp; omega)); (first | (have G := heap_below G hb8) | (have G := news1 hb8) | skip); (have tz8 := T8.size); (have HV8 := Lib.hid hv8); (have HB8 := Lib.hid hb8); clear hv8 hb8; obtain ⟨i80, i81, -, -, i84⟩ := box2 (heap_below HX6.out T8); obtain ⟨i82, -, -, -, i85⟩ := box2 (heap_below HP6.out T8))
          | (go_at_call 52; refine (power_r q _ (by omega)).mono ?_; rintro e w9 ⟨s9, A9, n9, c9, rfl, hv9, hb9⟩; (have T9 : Below w6.heap.size w6 w9 := by first | exact below_then hb9 T8 T8.size | exact below_then hb9 (T8.alloc T8.size _) (by simp; omega)); (first | (have G := heap_below G hb9) | (have G := news1 hb9) | skip); (have tz9 := T9.size); (have HV9 := Lib.hid hv9); (have HB9 := Lib.hid hb9); clear hv9 hb9; obtain ⟨i90, i91, -, -, i94⟩ := box2 (heap_below HX6.out T9); obtain ⟨i92, -, -, -, i95⟩ := box2 (heap_below HP6.out T9))
          | (go_at_call_of 50 (Value.agg #[Value.bool s8, Value.slice A8 n8 c8]); refine (timesof_r _ (x := u * ((P : Nat) : Int)) (y := ((10 ^ q : Nat) : Int)) (by first | exact HV8.out.below HB9.out | exact (HV8.out.below HB9.out).alloc _ | exact (HV8.out.alloc _).below HB9.out) (by first | exact HV9.out | exact HV9.out.alloc _) Z3.out Z4.out).mono ?_; rintro e wa ⟨sa, Aa, na, ca, rfl, hva, hba⟩; (have Ta : Below w6.heap.size w6 wa := by first | exact below_then hba T9 T9.size | exact below_then hba (T9.alloc T9.size _) (by simp; omega)); (first | (have G := heap_below G hba) | (have G := news1 hba) | skip); (have tza := Ta.size); (have HVa := Lib.hid hva); (have HBa := Lib.hid hba); clear hva hba; obtain ⟨ia0, ia1, -, -, ia4⟩ := box2 (heap_below HX6.out Ta); obtain ⟨ia2, -, -, -, ia5⟩ := box2 (heap_below HP6.out Ta); (first | (have hf := box2 G; obtain ⟨f0, f1, f2, f3, f4⟩ := hf) | skip))
          | fail)
      all_goals
        go_wp2_with fail
        go_meet
        first
          | exact ⟨wa.heap.size, sa, Aa, na, ca, rfl, tza, heap_new _ _ rfl, HVa.out.alloc _, Ta.alloc tza _⟩
          | exact ⟨_, sa, Aa, na, ca, rfl, by omega, heap_store2 G, HVa.out.box2 G (by decide) _ _, (Ta.setCell (by dsimp only; omega) _).setCell (by dsimp only; omega) _⟩
    case rest =>
      obtain ⟨L, sa, Aa, na, ca, rfl, hL, hG, hva, hTb⟩ := hcut
      have HL0 := Lib.hid hG
      have HY0 := Lib.hid (heap_below HY6.out hTb)
      have HP0 := Lib.hid (heap_below HP6.out hTb)
      have HR0 := Lib.hid (heap_below HR6.out hTb)
      have HVa := Lib.hid hva
      have HVb := Lib.hid (HV2.out.below hTb)
      have HBc := Lib.hid (below_then hTb HB6.out HB6.out.size)
      have hlN := lt_heap HR6.out
      clear hG hva hTb x0 x1 x4 p0 p1 p4 HX6 HY6 HP6 HR6 HV1 HV2 HB6
      obtain ⟨l0, l1, -, -, l4⟩ := box2 HL0.out
      obtain ⟨y0, y1, -, -, y4⟩ := box2 HY0.out
      obtain ⟨p0, p1, -, -, p4⟩ := box2 HP0.out
      go_wp2_with fail
      go_region_held3 (fun w' => w'.cell? ⟨L, 0, none⟩ = some (.bool sa) ∧ w'.cell? ⟨L, 1, none⟩ = some (.slice Aa na ca) ∧ w'.cell? ⟨N + 1, 0, none⟩ = some (.bool s2) ∧ w'.cell? ⟨N + 1, 1, none⟩ = some (.slice A2 n2 c2) ∧ w'.cell? ⟨w.heap.size, 1, none⟩ = some (.int .i64 (s : Int)))
        (first | ((with_reducible refine ⟨cell_past2 ie0 ?_, cell_past2 ie1 ?_, cell_past2 ie2 ?_, cell_past2 ie3 ?_, cell_past2 ie4 ?_⟩) <;> omega; done) | (with_reducible refine ⟨?_, ?_, ?_, ?_, ?_⟩ <;> assumption) | (go_keep; done))
        (first
          | (go_at_call 52; refine (power_r s _ (by omega)).mono ?_; rintro e w7 ⟨s7, A7, n7, c7, rfl, hv7, hb7⟩; (have HV7 := Lib.hid hv7); (have HB7 := Lib.hid hb7); (have HL7 := Lib.hid (heap_below (w := wc.drew) HL0.out hb7)); (have HY7 := Lib.hid (heap_below (w := wc.drew) HY0.out hb7)); (have HP7 := Lib.hid (heap_below (w := wc.drew) HP0.out hb7)); (have HR7 := Lib.hid (heap_below (w := wc.drew) HR0.out hb7)); clear hv7 hb7; obtain ⟨i70, i71, -, -, -⟩ := box2 HL7.out; obtain ⟨i72, i73, -, -, -⟩ := box2 HY7.out; obtain ⟨-, i74, -, -, -⟩ := box2 HP7.out)
          | (go_at_call 50; refine (timesof_r _ (x := ((Q : Nat) : Int)) (y := ((10 ^ s : Nat) : Int)) (by exact Big.below (w := wc.drew) HVb.out HB7.out) HV7.out Z6.out Z7.out).mono ?_; rintro e w8 ⟨s8, A8, n8, c8, rfl, hv8, hb8⟩; (have HV8 := Lib.hid hv8); (have HB8 := Lib.hid hb8); (have HL8 := Lib.hid (heap_below HL7.out hb8)); (have HY8 := Lib.hid (heap_below HY7.out hb8)); (have HP8 := Lib.hid (heap_below HP7.out hb8)); (have HR8 := Lib.hid (heap_below HR7.out hb8)); clear hv8 hb8; obtain ⟨i80, i81, -, -, -⟩ := box2 HL8.out; obtain ⟨i82, i83, -, -, -⟩ := box2 HY8.out; obtain ⟨-, i84, -, -, -⟩ := box2 HP8.out)
          | (go_at_call 54; refine (round_r _ (u * ((P : Nat) : Int) * ((10 ^ q : Nat) : Int)) (Q * 10 ^ s) v (by exact (Big.below (w := wc.drew) HVa.out HB7.out).below HB8.out) (by rw [Int.natCast_mul]; exact HV8.out) Z5.out Z8.out Z9.out hv).mono ?_; rintro e w9 ⟨s9, A9, n9, c9, rfl, hv9, hb9⟩; (have HV9 := Lib.hid hv9); (have HB9 := Lib.hid hb9); (have HL9 := Lib.hid (heap_below HL8.out hb9)); (have HY9 := Lib.hid (heap_below HY8.out hb9)); (have HP9 := Lib.hid (heap_below HP8.out hb9)); (have HR9 := Lib.hid (heap_below HR8.out hb9)); clear hv9 hb9; obtain ⟨i90, i91, -, -, -⟩ := box2 HL9.out; obtain ⟨i92, i93, -, -, -⟩ := box2 HY9.out; obtain ⟨-, i94, -, -, -⟩ := box2 HP9.out)
          | (go_at_call 53; refine (decimal_r _ (q : Int) HV9.out).mono ?_; rw [HRR.out]; rintro e we ⟨rfl, hbe⟩; (have HBe := Lib.hid hbe); (have HRe := heap_below HR9.out hbe); (have HLe := heap_below HL9.out hbe); (have HYe := heap_below HY9.out hbe); (have HPe := heap_below HP9.out hbe); clear hbe; obtain ⟨ie0, ie1, -, -, -⟩ := box2 HLe; obtain ⟨ie2, ie3, -, -, -⟩ := box2 HYe; obtain ⟨-, ie4, -, -, -⟩ := box2 HPe; obtain ⟨f0, f1, f2, f3, -⟩ := box2 HRe)
          | fail)
      all_goals
        have hB7 := below_then HB7.out HBc.out.drew (by exact HBc.out.size)
        have hB8 := below_then HB8.out hB7 hB7.size
        have hB9 := below_then HB9.out hB8 hB8.size
        have hBe := below_then HBe.out hB9 hB9.size
        clear hB7 hB8 hB9
        go_wp2
        refine bodyPost_ret (v := .tuple #[.agg #[.int .i64 R1, .int .i64 R2], .int .i64 R3]) (by simp [results, Tryz.results12, go_sem, f0, f1]) rfl ⟨by rw [K.out], ?_⟩
        go_grown
end Go.Proofs.YtegobkaldedhhaaGreatDoor
