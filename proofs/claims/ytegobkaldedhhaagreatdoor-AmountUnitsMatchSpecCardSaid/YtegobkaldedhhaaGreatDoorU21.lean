
/- The walk of package amount: InUnit, whole. -/
import Derived.Test.YtegobkaldedhhaaGreatDoorU20
import Derived.Deep.RegionHeld3
namespace Go.Proofs.YtegobkaldedhhaaGreatDoor
open Go.RowKit Limb
set_option linter.unusedVariables false
set_option linter.unusedSimpArgs false

set_option maxHeartbeats 4000000 in
set_option maxRecDepth 100000 in
theorem inunit_c (us : List Unt) (x y : ByteArray) (u p r v : Int) (A : Option Addr) (n c : Nat) (w : World) (hU : Uns w A n us) (hn : n ≤ 9223372036854775807) (hu : -9223372036854775808 ≤ u ∧ u ≤ 9223372036854775807) (hp : -9223372036854775808 ≤ p ∧ p ≤ 9223372036854775807) :
    Calls Tryz.prog 11 #[.slice A n c, .agg #[.int .i64 u, .int .i64 p], .string x, .string y, .int .i64 r, .int .i64 v] w (RetD (inuR us x.data.toList y.data.toList u p r v) w) := by
  have HU := Lib.hid hU
  clear hU
  go_enter Tryz.func11, Tryz.ntmps11
  go_wp2_with fail
  have h2 := boxes2 w (.int .i64 u) (.int .i64 p) (.int .i64 0) (.int .i64 0) 24 24
  generalize (w.alloc (.cells #[.int .i64 u, .int .i64 p] 24)).alloc (.cells #[.int .i64 0, .int .i64 0] 24) = w2 at h2 ⊢
  obtain ⟨hP2, hR2, hB2⟩ := h2 _ rfl
  clear h2
  refine (factor_c us x y A n c _ (HU.out.below hB2) hn).mono ?_
  rintro e w3 ⟨hb3, hcase⟩
  have hP3 := heap_below hP2 hb3
  have hR3 := heap_below hR2 hb3
  have hB3 := below_then hb3 hB2 hB2.size
  obtain ⟨g0, g1, g2, g3, g4⟩ := box2 hR3
  obtain ⟨p0, p1, -, -, p4⟩ := box2 hP3
  rcases hcase with ⟨hf, rfl⟩ | ⟨i0, k0, m, A1, c1, A2, c2, hf, hck, hix, hiy, hm1, hm2, rfl, HP⟩
  · have K := Lib.hid (inu_fac (u := u) (p := p) (r := r) (v := v) hf)
    have hf' : (facF us x.data.toList y.data.toList != 0) = true := by simpa using hf
    clear hf hb3 hP2 hR2 hB2
    generalize facF us x.data.toList y.data.toList = F at hf' K ⊢
    go_wp2
    refine bodyPost_ret (v := .tuple #[.agg #[.int .i64 0, .int .i64 0], .int .i64 F]) (by simp [results, Tryz.results11, go_sem, g0, g1]) rfl ⟨by rw [K.out], ?_⟩
    go_grown
  have hsz := facF_pq hck (idxU_some hix).1 (idxU_some hiy).1
  obtain ⟨t1, t2, t3, t4⟩ := top_bounds hck (idxU_some hix).1 (idxU_some hiy).1
  rw [hm1] at t2
  have HPP := Lib.hid (HP.below (Below.refl _ _))
  have hd1 := Lib.hid (Dig.of_own HP.o1)
  have hd2 := Lib.hid (Dig.of_own HP.o2)
  have HBN := Lib.hid t1; have HBD := Lib.hid t3
  have HF := Lib.hid hf; have HX := Lib.hid hix; have HY := Lib.hid hiy; have HSZ := Lib.hid hsz
  clear hf hck hix hiy hm1 hm2 HP HPP t1 t3 t4 hsz hb3 hP2 hR2 hB2
  cases hdec : decB u p with
  | false =>
    have K := Lib.hid (inu_dec (r := r) (v := v) HF.out hdec)
    have HD := Lib.hid hdec
    clear hdec
    go_wp2_with fail
    refine (chk_bad u p _ HD.out).mono ?_
    rintro e w4 ⟨rfl, hb4⟩
    have hR4 := heap_below hR3 hb4
    have hB4 := below_then hb4 hB3 hB3.size
    clear g0 g1 g2 g3 g4 p0 p1 p4
    obtain ⟨g0, g1, g2, g3, g4⟩ := box2 hR4
    go_wp2
    refine bodyPost_ret (v := .tuple #[.agg #[.int .i64 0, .int .i64 0], .int .i64 1]) (by simp [results, Tryz.results11, go_sem, g0, g1]) rfl ⟨by rw [K.out], ?_⟩
    go_grown
  | true =>
    have HD := Lib.hid hdec
    obtain ⟨d1, d2, d3, d4⟩ := decB_out hdec
    clear hdec
    go_wp2_with fail
    refine (chk_ok u p _ HD.out).mono ?_
    rintro e w4 ⟨rfl, hb4⟩
    have hP4 := heap_below hP3 hb4
    have hR4 := heap_below hR3 hb4
    have hB4 := below_then hb4 hB3 hB3.size
    have hd14 := Lib.hid (hd1.out.below hb4)
    have hd24 := Lib.hid (hd2.out.below hb4)
    clear hb4 hP3 hR3 hB3 hd1 hd2 g0 g1 g2 g3 g4 p0 p1 p4
    obtain ⟨g0, g1, g2, g3, g4⟩ := box2 hR4
    obtain ⟨p0, p1, -, -, p4⟩ := box2 hP4
    go_wp2_with fail
    refine (wayfault_c r v _).mono ?_
    rintro e w5 ⟨rfl, rfl⟩
    by_cases hw : wayF r v = 0
    case neg =>
      have K := Lib.hid (inu_way (r := r) (v := v) HF.out HD.out hw)
      have hw' : (wayF r v != 0) = true := by simpa using hw
      clear hw
      generalize wayF r v = F at hw' K ⊢
      go_wp2
      refine bodyPost_ret (v := .tuple #[.agg #[.int .i64 0, .int .i64 0], .int .i64 F]) (by simp [results, Tryz.results11, go_sem, g0, g1]) rfl ⟨by rw [K.out], ?_⟩
      go_grown
    obtain ⟨⟨r1, r2⟩, hv⟩ := wayF_ok hw
    have hrk := inu_ok (r := r) (v := v) HF.out HD.out hw HX.out HY.out
    rw [hw]
    obtain ⟨q, rfl⟩ := Int.eq_ofNat_of_zero_le r1
    obtain ⟨s, rfl⟩ := Int.eq_ofNat_of_zero_le d3
    rw [Int.toNat_natCast, Int.toNat_natCast] at hrk
    obtain ⟨P, hPe⟩ : ∃ P, prodN (topL us i0 k0) = P := ⟨_, rfl⟩
    obtain ⟨Q, hQe⟩ : ∃ Q, prodN (botL us i0 k0) = Q := ⟨_, rfl⟩
    have hsz := HSZ.out
    rw [hPe, hQe] at hrk hsz
    obtain ⟨z1, z2, z3, z4, z5, z6, z7, z8, z9⟩ := inu_sizes (u := u) (r := q) (p := s) ⟨d1, d2⟩ hsz.1 hsz.2 (by omega) (by omega)
    have Z1 := Lib.hid z1; have Z2 := Lib.hid z2; have Z3 := Lib.hid z3; have Z4 := Lib.hid z4; have Z5 := Lib.hid z5; have Z6 := Lib.hid z6; have Z7 := Lib.hid z7; have Z8 := Lib.hid z8; have Z9 := Lib.hid z9
    obtain ⟨⟨R1, R2, R3⟩, hRR⟩ : ∃ R, made (rnd (u * ((P : Nat) : Int) * ((10 ^ q : Nat) : Int)) (Q * 10 ^ s) v) (q : Int) = R := ⟨_, rfl⟩
    have HRR := Lib.hid hRR
    rw [hRR] at hrk
    have K := Lib.hid hrk
    clear hRR
    have PC1 := Lib.hid (fun W (h : Dig W .i64 3 A1 m (topL us i0 k0)) => product_c _ A1 m c1 W h HBN.out t2)
    have PC2 := Lib.hid (fun W (h : Dig W .i64 3 A2 m (botL us i0 k0)) => product_c _ A2 m c2 W h HBD.out t2)
    rw [hPe] at PC1
    rw [hQe] at PC2
    clear hw hsz hrk z1 z2 z3 z4 z5 z6 z7 z8 z9 hPe hQe
    go_wp2_with fail
    refine (of_c u _ (by omega) (by omega)).mono ?_
    rintro e w6 ⟨s6, B6', n6, c6, rfl, hv6, hb6⟩
    have hP6 := heap_below hP4 hb6
    have hR6 := heap_below hR4 hb6
    have hB6 := below_then hb6 hB4 hB4.size
    have hd16 := hd14.out.below hb6
    have hd26 := hd24.out.below hb6
    clear hb6 hP4 hR4 hB4 g0 g1 g2 g3 g4 p0 p1 p4
    go_wp2_with fail
    refine (PC1.out _ hd16).mono ?_
    rintro e w7 ⟨s7, B7, n7, c7, rfl, hv7, hb7⟩
    have hP7 := heap_below hP6 hb7
    have hR7 := heap_below hR6 hb7
    have hB7 := below_then hb7 hB6 hB6.size
    have hd27 := hd26.below hb7
    have hv67 := hv6.below hb7
    clear hb7 hP6 hR6 hB6 hd16 hd26 hv6
    go_wp2_with fail
    refine (times_c _ hv67 hv7 Z1.out Z2.out).mono ?_
    rintro e w8 ⟨s8, B8, n8, c8, rfl, hv8, hb8⟩
    have hP8 := heap_below hP7 hb8
    have hR8 := heap_below hR7 hb8
    have hB8 := below_then hb8 hB7 hB7.size
    have hd28 := hd27.below hb8
    clear hb8 hP7 hR7 hB7 hd27 hv67 hv7
    go_wp2_with fail
    refine (power_c q _ (by omega)).mono ?_
    rintro e w9 ⟨s9, B9, n9, c9, rfl, hv9, hb9⟩
    have hP9 := heap_below hP8 hb9
    have hR9 := heap_below hR8 hb9
    have hB9 := below_then hb9 hB8 hB8.size
    have hd29 := hd28.below hb9
    have hv89 := hv8.below hb9
    clear hb9 hP8 hR8 hB8 hd28 hv8
    go_wp2_with fail
    refine (times_c _ hv89 hv9 Z3.out Z4.out).mono ?_
    rintro e wa ⟨sa, Ba, na, ca, rfl, hva, hba⟩
    have hPa := heap_old (heap_below hP9 hba) (.cells #[.bool sa, .slice Ba na ca] 56)
    have hRa := heap_old (heap_below hR9 hba) (.cells #[.bool sa, .slice Ba na ca] 56)
    have hBa' := below_then hba hB9 hB9.size
    have hBa := hBa'.alloc hBa'.size (.cells #[.bool sa, .slice Ba na ca] 56)
    have hd2a := (hd29.below hba).alloc (.cells #[.bool sa, .slice Ba na ca] 56)
    have hvaa := hva.alloc (.cells #[.bool sa, .slice Ba na ca] 56)
    have hTa := heap_new wa (.cells #[.bool sa, .slice Ba na ca] 56) rfl
    have hlR := lt_heap (heap_below hR9 hba)
    clear hba hP9 hR9 hB9 hd29 hv89 hv9 hva hBa' hd14 hd24
    generalize hM : wa.heap.size = M at *
    go_upto_region 11 with fail
    generalize wa.alloc (.cells #[.bool sa, .slice Ba na ca] 56) = wb at *
    clear hM
    obtain ⟨p0, p1, -, -, p4⟩ := box2 hPa
    obtain ⟨g0, g1, g2, g3, g4⟩ := box2 hRa
    obtain ⟨t0, t1, -, -, t4⟩ := box2 hTa
    have HPa := Lib.hid hPa; have HRa := Lib.hid hRa; have HTa := Lib.hid hTa; have HBa := Lib.hid hBa; have HDa := Lib.hid hd2a; have HVa := Lib.hid hvaa
    clear hPa hRa hTa hBa hd2a hvaa PC1
    go_region_held3 (fun w' => w'.cell? ⟨M, 0, none⟩ = some (.bool sa) ∧ w'.cell? ⟨M, 1, none⟩ = some (.slice Ba na ca) ∧ w'.cell? ⟨w.heap.size, 1, none⟩ = some (.int .i64 (s : Int)))
      (first | ((with_reducible refine ⟨cell_past2 k0 ?_, cell_past2 k1 ?_, cell_past2 k2 ?_⟩) <;> omega; done) | (go_keep; done) | (with_reducible refine ⟨?_, ?_, ?_⟩ <;> assumption))
      (first
        | (go_at_call 27; refine (PC2.out _ (by exact HDa.out)).mono ?_; rintro e w1 ⟨s1, B1, n1, c1, rfl, hv1, hb1⟩; (have HV1 := Lib.hid hv1); (have HB1 := Lib.hid hb1); (have HP1 := Lib.hid (heap_below (w := wb.drew) HPa.out hb1)); (have HR1 := Lib.hid (heap_below (w := wb.drew) HRa.out hb1)); (have HT1 := Lib.hid (heap_below (w := wb.drew) HTa.out hb1)); clear hv1 hb1; obtain ⟨i0, i1, -, -, -⟩ := box2 HT1.out; obtain ⟨-, i2, -, -, -⟩ := box2 HP1.out)
        | (go_at_call 44; refine (power_c s _ (by omega)).mono ?_; rintro e w2 ⟨s2, B2, n2, c2, rfl, hv2, hb2⟩; (have HV2 := Lib.hid hv2); (have HB2 := Lib.hid hb2); (have HP2 := Lib.hid (heap_below HP1.out hb2)); (have HR2 := Lib.hid (heap_below HR1.out hb2)); (have HT2 := Lib.hid (heap_below HT1.out hb2)); clear hv2 hb2; obtain ⟨j0, j1, -, -, -⟩ := box2 HT2.out; obtain ⟨-, j2, -, -, -⟩ := box2 HP2.out)
        | (go_at_call 43; refine (times_c _ (HV1.out.below HB2.out) HV2.out Z6.out Z7.out).mono ?_; rintro e w3 ⟨s3, B3, n3, c3, rfl, hv3, hb3⟩; (have HV3 := Lib.hid hv3); (have HB3 := Lib.hid hb3); (have HP3 := Lib.hid (heap_below HP2.out hb3)); (have HR3 := Lib.hid (heap_below HR2.out hb3)); (have HT3 := Lib.hid (heap_below HT2.out hb3)); clear hv3 hb3; obtain ⟨l0, l1, -, -, -⟩ := box2 HT3.out; obtain ⟨-, l2, -, -, -⟩ := box2 HP3.out)
        | (go_at_call 46; refine (divided_c _ (u * ((P : Nat) : Int) * ((10 ^ q : Nat) : Int)) (Q * 10 ^ s) v (by exact ((Big.below (w := wb.drew) HVa.out HB1.out).below HB2.out).below HB3.out) (by rw [Int.natCast_mul]; exact HV3.out) Z5.out Z8.out Z9.out hv).mono ?_; rintro e w4 ⟨s4, B4, n4, c4, rfl, hv4, hb4⟩; (have HV4 := Lib.hid hv4); (have HB4 := Lib.hid hb4); (have HP4 := Lib.hid (heap_below HP3.out hb4)); (have HR4 := Lib.hid (heap_below HR3.out hb4)); (have HT4 := Lib.hid (heap_below HT3.out hb4)); clear hv4 hb4; obtain ⟨m0, m1, -, -, -⟩ := box2 HT4.out; obtain ⟨-, m2, -, -, -⟩ := box2 HP4.out)
        | (go_at_call 45; refine (mk_c _ (q : Int) HV4.out).mono ?_; rw [HRR.out]; rintro e w5 ⟨rfl, hb5⟩; (have HB5 := Lib.hid hb5); (have HP5 := heap_below HP4.out hb5); (have HR5 := heap_below HR4.out hb5); (have HT5 := heap_below HT4.out hb5); clear hb5; obtain ⟨k0, k1, -, -, -⟩ := box2 HT5; obtain ⟨-, k2, -, -, -⟩ := box2 HP5; obtain ⟨f0, f1, f2, f3, -⟩ := box2 HR5)
        | fail)
    all_goals
      have hB1 := below_then HB1.out HBa.out.drew (by exact HBa.out.size)
      have hB2 := below_then HB2.out hB1 hB1.size
      have hB3 := below_then HB3.out hB2 hB2.size
      have hB4 := below_then HB4.out hB3 hB3.size
      have hB5 := below_then HB5.out hB4 hB4.size
      clear hB1 hB2 hB3 hB4
      go_wp2
      refine bodyPost_ret (v := .tuple #[.agg #[.int .i64 R1, .int .i64 R2], .int .i64 R3]) (by simp [results, Tryz.results11, go_sem, f0, f1]) rfl ⟨by rw [K.out], ?_⟩
      go_grown
end Go.Proofs.YtegobkaldedhhaaGreatDoor
