
/- The walk of amount.Implied. -/
import Derived.Test.YtegobkaldedhhaaDoorT4
import Derived.Test.YtegobkaldedhhaaDoorA6
namespace Go.Proofs.YtegobkaldedhhaaDoor
open Go.RowKit Limb
set_option linter.unusedVariables false
set_option linter.unusedSimpArgs false

/-! ### Plain -/
def impN (u p : Int) : Nat := u.natAbs * 10 ^ (9 - p.toNat)
def impD (a : Int) : Nat := 10 ^ (9 - a.toNat)
def impS (u p a b : Int) : List UInt8 := sgL u ++ List.replicate (b.toNat - (sgL u).length - (Lib.decDigits (impN u p / impD a)).length) 48 ++ Lib.decDigits (impN u p / impD a)
def impF (u p a b : Int) : Int :=
  if ¬ (decB u p = true ∧ 0 ≤ a ∧ a ≤ 9 ∧ 1 ≤ b ∧ b ≤ 30) then 1
  else if impN u p % impD a ≠ 0 then 12
  else if b < (sgL u).length + (Lib.decDigits (impN u p / impD a)).length then 16
  else 0
def impR (u p a b : Int) : List UInt8 := if impF u p a b = 0 then impS u p a b else []

theorem RetST.of {l l' : List UInt8} {f f' : Int} {w w' : World} {e : Ending} (h : RetST l f w e w') (hl : l = l') (hf : f = f') : RetST l' f' w e w' := by subst hl; subst hf; exact h
set_option maxHeartbeats 4000000 in
set_option maxRecDepth 100000 in
theorem wimplied_c (u p a b : Int) (w : World) (ha : -9223372036854775808 ≤ a ∧ a ≤ 9223372036854775807) (hb : -9223372036854775808 ≤ b ∧ b ≤ 9223372036854775807) :
    Calls Tryd.prog 24 #[.agg #[.int .i64 u, .int .i64 p], .int .i64 a, .int .i64 b] w (RetST (impR u p a b) (impF u p a b) w) := by
  cases hd : decB u p with
  | false =>
    have HC := Lib.hid (fun w => chk_bad u p w hd)
    have hf : impF u p a b = 1 := if_pos (by rw [hd]; simp)
    rw [show impR u p a b = [] from if_neg (by rw [hf]; decide), hf]
    clear hd hf
    go_enter Tryd.func24, Tryd.ntmps24
    go_wp2_with fail
    refine (HC.out _).mono ?_
    rintro e w1 ⟨rfl, hb⟩
    go_wp2
    go_ret2
    refine ⟨_, rfl, rfl, ?_⟩
    go_grown
    exact below_then hb (by go_grown) (by simp only [World.size_alloc]; omega)
  | true =>
    have hdb := decB_out hd
    have HC := Lib.hid (fun w => chk_ok u p w hd)
    by_cases h1 : 0 ≤ a ∧ a ≤ 9
    case neg =>
      have hf : impF u p a b = 1 := if_pos (by omega)
      have HO := Lib.hid (fun w => out_yes a 0 9 w h1)
      rw [show impR u p a b = [] from if_neg (by rw [hf]; decide), hf]
      clear hd hf h1
      go_enter Tryd.func24, Tryd.ntmps24
      go_wp2_with fail
      refine (HC.out _).mono ?_
      rintro e w1 ⟨rfl, hb⟩
      have hB := below_then hb (by go_grown : Below w.heap.size w _) (by simp only [World.size_alloc]; omega)
      clear hb
      go_wp2_with fail
      refine (HO.out _).mono ?_
      rintro e w2 ⟨rfl, rfl⟩
      go_wp2
      go_ret2
      exact ⟨_, rfl, rfl, hB⟩
    by_cases h2 : 1 ≤ b ∧ b ≤ 30
    case neg =>
      have hf : impF u p a b = 1 := if_pos (by omega)
      have HO := Lib.hid (fun w => out_no a 0 9 w h1)
      have HO2 := Lib.hid (fun w => out_yes b 1 30 w h2)
      rw [show impR u p a b = [] from if_neg (by rw [hf]; decide), hf]
      clear hd hf h1 h2
      go_enter Tryd.func24, Tryd.ntmps24
      go_wp2_with fail
      refine (HC.out _).mono ?_
      rintro e w1 ⟨rfl, hb⟩
      have hB := below_then hb (by go_grown : Below w.heap.size w _) (by simp only [World.size_alloc]; omega)
      clear hb
      go_wp2_with fail
      refine (HO.out _).mono ?_
      rintro e w2 ⟨rfl, rfl⟩
      go_wp2_with fail
      refine (HO2.out _).mono ?_
      rintro e w2 ⟨rfl, rfl⟩
      go_wp2
      go_ret2
      exact ⟨_, rfl, rfl, hB⟩
    have HF := Lib.hid (show impF u p a b = if impN u p % impD a ≠ 0 then 12 else if b < (sgL u).length + (Lib.decDigits (impN u p / impD a)).length then 16 else 0 from if_neg (by rw [hd]; simp; omega))
    have HO := Lib.hid (fun w => out_no a 0 9 w h1)
    have HO2 := Lib.hid (fun w => out_no b 1 30 w h2)
    have HV := Lib.hid (fun w => value_c u p w hd)
    have hsc : (scaled u p 9).natAbs = impN u p := by unfold scaled impN; rw [Int.natAbs_mul, Int.natAbs_natCast]
    have hsm : Small (scaled u p 9) := scaled_small hd (by omega)
    obtain ⟨a, rfl⟩ : ∃ n : Nat, a = (n : Int) := ⟨a.toNat, by omega⟩
    have hdd : (((10 ^ (9 - a) : Nat) : Int)).natAbs = impD (a : Int) := by unfold impD; rw [Int.natAbs_natCast, Int.toNat_natCast]
    have hd0 : ((10 ^ (9 - a) : Nat) : Int) ≠ 0 := by have := Nat.pow_pos (n := 9 - a) (show 0 < 10 by decide); omega
    have hsd : Small ((10 ^ (9 - a) : Nat) : Int) := small_pow (by omega)
    obtain ⟨N, hN⟩ : ∃ N, impN u p = N := ⟨_, rfl⟩
    obtain ⟨D, hD⟩ : ∃ D, impD (a : Int) = D := ⟨_, rfl⟩
    rw [hN] at hsc; rw [hD] at hdd
    obtain ⟨Z, hZ⟩ : ∃ Z, scaled u p 9 = Z := ⟨_, rfl⟩
    obtain ⟨Y, hY⟩ : ∃ Y, ((10 ^ (9 - a) : Nat) : Int) = Y := ⟨_, rfl⟩
    rw [hZ] at hsc hsm HV
    have HP := Lib.hid (fun w => power_c (9 - a) w (by omega))
    rw [hY] at HP hdd hd0 hsd
    have HSC := Lib.hid hsc; have HSM := Lib.hid hsm; have HDD := Lib.hid hdd; have HD0 := Lib.hid hd0; have HSD := Lib.hid hsd
    have hwr : IntKind.i64.wrap (9 - (a : Int)) = ((9 - a : Nat) : Int) := by rw [IntWalk.i64_in _ (by omega)]; omega
    have HN := Lib.hid hN; have HD := Lib.hid hD; have HU := Lib.hid hdb; have H1 := Lib.hid h1; have H2 := Lib.hid h2
    clear hd hsc hsm hdd hd0 hsd hN hD hZ hY hdb h1 h2 ha hb
    go_enter Tryd.func24, Tryd.ntmps24
    go_wp2_with fail
    refine (HC.out _).mono ?_
    rintro e w1 ⟨rfl, hb⟩
    have hX := heap_below (heap_new w (.cells #[.int .i64 u, .int .i64 p] 40) rfl) hb
    have hB := below_then hb (by go_grown : Below w.heap.size w _) (by simp only [World.size_alloc]; omega)
    clear hb
    obtain ⟨a0, a1, -, -, a4⟩ := box2 hX
    have hz := hB.size
    go_wp2_with fail
    refine (HO.out _).mono ?_
    rintro e w2 ⟨rfl, rfl⟩
    go_wp2_with fail
    refine (HO2.out _).mono ?_
    rintro e w2 ⟨rfl, rfl⟩
    go_wp2_with fail
    refine (HV.out _).mono ?_
    rintro e w3 ⟨s3, A3, n3, c3, rfl, hv3, hb3⟩
    have hX3 := heap_below hX hb3
    have hB3 := below_then hb3 hB hz
    have hz3 := hB3.size
    clear hX hB hb3 a0 a1 a4
    go_wp2_with fail
    refine (HP.out _).mono ?_
    rintro e w4 ⟨s4, A4, n4, c4, rfl, hv4, hb4⟩
    have hX4 := heap_below hX3 hb4
    have hB4 := below_then hb4 hB3 hz3
    have hz4 := hB4.size
    have hv34 := hv3.below hb4
    clear hX3 hB3 hb4 hv3 hwr
    go_wp2_with fail
    refine (by_c _ hv34 hv4 HSM.out HSD.out HD0.out).mono ?_
    rintro e w5 ⟨s5, A5, n5, c5, s6, A6, n6, c6, rfl, hv5, hv6, hb5⟩
    rw [HSC.out, HDD.out] at hv5 hv6
    have hX5 := heap_below hX4 hb5
    have hB5 := below_then hb5 hB4 hz4
    have hz5 := hB5.size
    clear hX4 hB4 hb5 hv4 hv34
    go_wp2_with fail
    obtain ⟨hU, -, hBW⟩ := boxes2 w5 (.bool s5) (.slice A5 n5 c5) (.bool s6) (.slice A6 n6 c6) 65 65 _ rfl
    have hv5' := (hv5.alloc (.cells #[.bool s5, .slice A5 n5 c5] 65)).alloc (.cells #[.bool s6, .slice A6 n6 c6] 65)
    have hv6' := (hv6.alloc (.cells #[.bool s5, .slice A5 n5 c5] 65)).alloc (.cells #[.bool s6, .slice A6 n6 c6] 65)
    have hX6 := heap_old (heap_old hX5 (.cells #[.bool s5, .slice A5 n5 c5] 65)) (.cells #[.bool s6, .slice A6 n6 c6] 65)
    have hB6 := below_then hBW hB5 hz5
    have hlt6 : w.heap.size < w5.heap.size := lt_heap hX5
    clear hX5 hB5 hv5 hv6 hBW
    generalize (w5.alloc (.cells #[.bool s5, .slice A5 n5 c5] 65)).alloc (.cells #[.bool s6, .slice A6 n6 c6] 65) = w6 at hU hv5' hv6' hX6 hB6 ⊢
    have hz6 := hB6.size
    refine (sign_c w6 hv6').mono ?_
    rintro e w7 ⟨rfl, hb7⟩
    have hU7 := heap_below hU hb7
    have hX7 := heap_below hX6 hb7
    have hv7 := hv5'.below hb7
    have hB7 := below_then hb7 hB6 hz6
    have hz7 := hB7.size
    have hs5 := big_pos hv7 (by decide)
    subst hs5
    clear hU hX6 hv5' hv6' hb7 hB6
    obtain ⟨g, hg⟩ : ∃ g, w5.heap.size = g := ⟨_, rfl⟩
    rw [hg] at hU7 hlt6
    obtain ⟨x0, x1, -, -, -⟩ := box2 hX7
    obtain ⟨y0, y1, -, -, -⟩ := box2 hU7
    have hff := HF.out
    rw [HN.out, HD.out] at hff
    by_cases hrest : N % D = 0
    case neg =>
      rw [if_pos hrest] at hff
      have HFE := Lib.hid hff
      have hsg : (((N % D : Nat) : Int)).sign = 1 := Int.sign_eq_one_of_pos (by omega)
      rw [hsg]
      clear hff hsg hrest
      go_wp2
      go_ret2
      exact RetST.of (l := []) (f := 12) ⟨_, rfl, rfl, hB7⟩ (show impR u p (a : Int) b = [] from if_neg (by rw [HFE.out]; decide)).symm HFE.out.symm
    rw [if_neg (by rw [hrest]; simp)] at hff
    have hsg : (((N % D : Nat) : Int)).sign = 0 := by rw [hrest]; rfl
    rw [hsg]
    have HFF := Lib.hid hff
    clear hff hsg hrest
    have hSs := signS_size u
    have HSD := Lib.hid (signS_data u)
    have HSL := Lib.hid (signS_len u)
    have HSG := Lib.hid (fun w => sgn_c u p w)
    obtain ⟨S, hS⟩ : ∃ S, signS u = S := ⟨_, rfl⟩
    rw [hS] at hSs HSD HSG HSL
    clear hS
    go_wp2_with fail
    refine (HSG.out _).mono ?_
    rintro e w8 ⟨rfl, hb8⟩
    have hU8 := heap_below hU7 hb8
    have hv8 := hv7.below hb8
    have hB8 := below_then hb8 hB7 hz7
    have hz8 := hB8.size
    clear hU7 hX7 hv7 hB7 hb8 x0 x1 y0 y1
    obtain ⟨y0, y1, -, -, -⟩ := box2 hU8
    have hmN : N / D < 10 ^ 200 := Nat.lt_of_le_of_lt (Nat.div_le_self _ _) (by have := HSM.out; unfold Small at this; rw [HSC.out] at this; exact this)
    obtain ⟨G, hG⟩ : ∃ G : ByteArray, (⟨(Lib.decDigits (N / D)).toArray⟩ : ByteArray) = G := ⟨_, rfl⟩
    have hGl : G.data.toList = Lib.decDigits (N / D) := by rw [← hG]
    have hGs : G.size = (Lib.decDigits (N / D)).length := by rw [← hGl]; simp
    have hG200 : G.size ≤ 300 := by
      rw [hGs]
      rcases Nat.eq_zero_or_pos (N / D) with h | h
      · rw [h, Lib.decDigits_one (by decide)]; simp
      · rw [← tail_pos h]; have := tail_len 200 _ hmN; omega
    have HMN := Lib.hid hmN; have HG := Lib.hid hG; have HGL := Lib.hid hGl
    have hff := HFF.out
    rw [← hGs, ← HSL.out] at hff
    have HGF := Lib.hid hff
    clear hmN hG hGl hGs hff
    go_wp2_with fail
    refine (text_c _ hv8 HMN.out).mono ?_
    rintro e w9 ⟨rfl, hb9⟩
    rw [HG.out]
    have hB9 := below_then hb9 hB8 hz8
    have hz9 := hB9.size
    clear hU8 hv8 hB8 hb9 y0 y1
    have hff := HGF.out
    by_cases hw : b < (S.size : Int) + (G.size : Int)
    · rw [if_pos hw] at hff
      have HFE := Lib.hid hff
      clear hff
      go_wp2
      go_ret2
      exact RetST.of (l := []) (f := 16) ⟨_, rfl, rfl, hB9⟩ (show impR u p (a : Int) b = [] from if_neg (by rw [HFE.out]; decide)).symm HFE.out.symm
    · rw [if_neg hw] at hff
      have HR := Lib.hid (show impR u p (a : Int) b = sgL u ++ List.replicate (b.toNat - S.size - G.size) 48 ++ Lib.decDigits (N / D) by unfold impR; rw [if_pos hff]; unfold impS; rw [HN.out, HD.out, ← HSL.out, ← HGL.out]; simp)
      have HFE := Lib.hid hff
      obtain ⟨hb1, hb30⟩ := H2.out
      obtain ⟨k, hk⟩ : ∃ k : Nat, b - (S.size : Int) - (G.size : Int) = (k : Int) := ⟨(b - (S.size : Int) - (G.size : Int)).toNat, by omega⟩
      have hkn : b.toNat - S.size - G.size = k := by omega
      have hrep := Tryd.strings_Repeat ⟨#[48]⟩ k
      have HREP := Lib.hid hrep
      have hk30 : k ≤ 30 := by omega
      have HK := Lib.hid hk; have HKN := Lib.hid hkn
      clear hff hrep hk hkn
      go_wp2_with fail
      rw [HK.out]
      refine (HREP.out _ (by omega) (by show 1 * k ≤ _; omega)).mono ?_
      rintro e w10 ⟨rfl, hb10⟩
      obtain ⟨R, hR⟩ : ∃ R : ByteArray, (⟨(Lib.repeatL [48] k).toArray⟩ : ByteArray) = R := ⟨_, rfl⟩
      have hRs : R.size = k := by rw [← hR, repeat_one]; show (List.replicate k (48 : UInt8)).toArray.size = k; simp
      have hRl : R.data.toList = List.replicate k 48 := by rw [← hR, repeat_one]
      have hR2 : (⟨(Lib.repeatL (⟨#[48]⟩ : ByteArray).data.toList k).toArray⟩ : ByteArray) = R := hR
      rw [hR2]
      have HRL := Lib.hid hRl
      have hcat : ¬ 9223372036854775807 < S.size + R.size := by omega
      have hcat2 : ¬ 9223372036854775807 < S.size + R.size + G.size := by omega
      clear hR hR2 hRl
      have hB10 := below_then hb10 hB9 hz9
      go_wp2
      go_ret2
      refine RetST.of (f := 0) ⟨_, rfl, rfl, hB10⟩ ?_ HFE.out.symm
      rw [HR.out, HKN.out]
      simp only [ByteArray.data_append, Array.toList_append, HSD.out, HRL.out, HGL.out]
end Go.Proofs.YtegobkaldedhhaaDoor
