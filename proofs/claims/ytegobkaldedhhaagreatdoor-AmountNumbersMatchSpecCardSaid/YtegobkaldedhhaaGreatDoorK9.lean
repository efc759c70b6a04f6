
/- The walks of the reference's numbers: isNumber, IsNumber, Widened. -/
import Derived.Test.YtegobkaldedhhaaGreatDoorK6
import Derived.Test.YtegobkaldedhhaaGreatDoorK8
namespace Go.Proofs.YtegobkaldedhhaaGreatDoor
open Go.RowKit Limb Nmb Work
set_option linter.unusedVariables false
set_option linter.unusedSimpArgs false

theorem bqF {a b : Int} (h : a ≠ b) : (a == b) = false := beq_eq_false_iff_ne.2 h
theorem bqT {a b : Int} (h : a = b) : (a == b) = true := beq_iff_eq.2 h

set_option maxHeartbeats 1000000 in
set_option maxRecDepth 100000 in
theorem risnum1_c (s : ByteArray) (w : World) (hs : s.size ≤ 9223372036854775807) :
    Calls Tryz.prog 59 #[.int .i64 1, .string s] w fun e w' => w = w' ∧ e = .returned (.bool (numB 1 s.data.toList)) := by
  have hl := szL s
  have e0 := num_plain (kind := 1) (l := s.data.toList) (by decide) (by decide)
  rw [hl] at e0
  rw [e0]
  have HN := Lib.hid (fun w => rdigs_c s w hs)
  clear e0
  cases hd : digs s.data.toList with
  | false =>
    rw [hd] at HN
    rw [Bool.false_and, Bool.and_false]
    clear hl hd
    go_enter Tryz.func59, Tryz.ntmps59
    go_wp2_with fail
    refine (HN.out _).mono ?_
    rintro e w1 ⟨rfl, rfl⟩
    go_wp2
    go_ret
    exact ⟨rfl, rfl⟩
  | true =>
  rw [hd] at HN
  rw [Bool.true_and]
  rcases (show s.size < 8 ∨ (8 < s.size ∧ s.size < 12) ∨ 14 < s.size ∨ s.size = 8 ∨ (12 ≤ s.size ∧ s.size ≤ 14) by omega) with h | ⟨h, h'⟩ | h | h | ⟨h, h'⟩
  · rw [show lenB 1 s.size = false from decide_eq_false (by omega), Bool.false_and]
    have e8 : ((s.size : Int) == 8) = false := bqF (by omega)
    clear hl hd
    go_enter Tryz.func59, Tryz.ntmps59
    go_wp2_with fail
    refine (HN.out _).mono ?_
    rintro e w1 ⟨rfl, rfl⟩
    go_wp2
    go_ret
    exact ⟨rfl, rfl⟩
  · rw [show lenB 1 s.size = false from decide_eq_false (by omega), Bool.false_and]
    have e8 : ((s.size : Int) == 8) = false := bqF (by omega)
    clear hl hd
    go_enter Tryz.func59, Tryz.ntmps59
    go_wp2_with fail
    refine (HN.out _).mono ?_
    rintro e w1 ⟨rfl, rfl⟩
    go_wp2
    go_ret
    exact ⟨rfl, rfl⟩
  · rw [show lenB 1 s.size = false from decide_eq_false (by omega), Bool.false_and]
    have e8 : ((s.size : Int) == 8) = false := bqF (by omega)
    clear hl hd
    go_enter Tryz.func59, Tryz.ntmps59
    go_wp2_with fail
    refine (HN.out _).mono ?_
    rintro e w1 ⟨rfl, rfl⟩
    go_wp2
    go_ret
    exact ⟨rfl, rfl⟩
  · rw [show lenB 1 s.size = true from decide_eq_true (by omega), Bool.true_and]
    have e8 : ((s.size : Int) == 8) = true := bqT (by omega)
    have HS := Lib.hid (fun w => rthrees_c s w (by omega) hd)
    clear hl hd h
    go_enter Tryz.func59, Tryz.ntmps59
    go_wp2_with fail
    refine (HN.out _).mono ?_
    rintro e w1 ⟨rfl, rfl⟩
    go_wp2_with fail
    refine (HS.out _).mono ?_
    rintro e w1 ⟨rfl, rfl⟩
    go_wp2
    go_ret
    exact ⟨rfl, rfl⟩
  · rw [show lenB 1 s.size = true from decide_eq_true (by omega), Bool.true_and]
    have e8 : ((s.size : Int) == 8) = false := bqF (by omega)
    have HS := Lib.hid (fun w => rthrees_c s w (by omega) hd)
    clear hl hd
    go_enter Tryz.func59, Tryz.ntmps59
    go_wp2_with fail
    refine (HN.out _).mono ?_
    rintro e w1 ⟨rfl, rfl⟩
    go_wp2_with fail
    refine (HS.out _).mono ?_
    rintro e w1 ⟨rfl, rfl⟩
    go_wp2
    go_ret
    exact ⟨rfl, rfl⟩
set_option maxHeartbeats 1000000 in
set_option maxRecDepth 100000 in
theorem risnum2_c (s : ByteArray) (w : World) (hs : s.size ≤ 9223372036854775807) :
    Calls Tryz.prog 59 #[.int .i64 2, .string s] w fun e w' => w = w' ∧ e = .returned (.bool (numB 2 s.data.toList)) := by
  have hl := szL s
  have e0 := num_plain (kind := 2) (l := s.data.toList) (by decide) (by decide)
  rw [hl] at e0
  rw [e0]
  have HN := Lib.hid (fun w => rdigs_c s w hs)
  clear e0
  cases hd : digs s.data.toList with
  | false =>
    rw [hd] at HN
    rw [Bool.false_and, Bool.and_false]
    clear hl hd
    go_enter Tryz.func59, Tryz.ntmps59
    go_wp2_with fail
    refine (HN.out _).mono ?_
    rintro e w1 ⟨rfl, rfl⟩
    go_wp2
    go_ret
    exact ⟨rfl, rfl⟩
  | true =>
  rw [hd] at HN
  rw [Bool.true_and]
  by_cases h : s.size = 13
  · rw [show lenB 2 s.size = true from decide_eq_true (by omega), Bool.true_and]
    have e8 : ((s.size : Int) == 13) = true := bqT (by omega)
    have HS := Lib.hid (fun w => rthrees_c s w (by omega) hd)
    clear hl hd h
    go_enter Tryz.func59, Tryz.ntmps59
    go_wp2_with fail
    refine (HN.out _).mono ?_
    rintro e w1 ⟨rfl, rfl⟩
    go_wp2_with fail
    refine (HS.out _).mono ?_
    rintro e w1 ⟨rfl, rfl⟩
    go_wp2
    go_ret
    exact ⟨rfl, rfl⟩
  · rw [show lenB 2 s.size = false from decide_eq_false (by omega), Bool.false_and]
    have e8 : ((s.size : Int) == 13) = false := bqF (by omega)
    clear hl hd h
    go_enter Tryz.func59, Tryz.ntmps59
    go_wp2_with fail
    refine (HN.out _).mono ?_
    rintro e w1 ⟨rfl, rfl⟩
    go_wp2
    go_ret
    exact ⟨rfl, rfl⟩
set_option maxHeartbeats 1000000 in
set_option maxRecDepth 100000 in
theorem risnum3_c (s : ByteArray) (w : World) (hs : s.size ≤ 9223372036854775807) :
    Calls Tryz.prog 59 #[.int .i64 3, .string s] w fun e w' => w = w' ∧ e = .returned (.bool (numB 3 s.data.toList)) := by
  have hl := szL s
  have e0 := num_plain (kind := 3) (l := s.data.toList) (by decide) (by decide)
  rw [hl] at e0
  rw [e0]
  have HN := Lib.hid (fun w => rdigs_c s w hs)
  clear e0
  cases hd : digs s.data.toList with
  | false =>
    rw [hd] at HN
    rw [Bool.false_and, Bool.and_false]
    clear hl hd
    go_enter Tryz.func59, Tryz.ntmps59
    go_wp2_with fail
    refine (HN.out _).mono ?_
    rintro e w1 ⟨rfl, rfl⟩
    go_wp2
    go_ret
    exact ⟨rfl, rfl⟩
  | true =>
  rw [hd] at HN
  rw [Bool.true_and]
  by_cases h : s.size = 18
  · rw [show lenB 3 s.size = true from decide_eq_true (by omega), Bool.true_and]
    have e8 : ((s.size : Int) == 18) = true := bqT (by omega)
    have HS := Lib.hid (fun w => rthrees_c s w (by omega) hd)
    clear hl hd h
    go_enter Tryz.func59, Tryz.ntmps59
    go_wp2_with fail
    refine (HN.out _).mono ?_
    rintro e w1 ⟨rfl, rfl⟩
    go_wp2_with fail
    refine (HS.out _).mono ?_
    rintro e w1 ⟨rfl, rfl⟩
    go_wp2
    go_ret
    exact ⟨rfl, rfl⟩
  · rw [show lenB 3 s.size = false from decide_eq_false (by omega), Bool.false_and]
    have e8 : ((s.size : Int) == 18) = false := bqF (by omega)
    clear hl hd h
    go_enter Tryz.func59, Tryz.ntmps59
    go_wp2_with fail
    refine (HN.out _).mono ?_
    rintro e w1 ⟨rfl, rfl⟩
    go_wp2
    go_ret
    exact ⟨rfl, rfl⟩
set_option maxHeartbeats 2000000 in
set_option maxRecDepth 100000 in
theorem risnum5_c (s : ByteArray) (w : World) (hs : s.size ≤ 9223372036854775807) :
    Calls Tryz.prog 59 #[.int .i64 5, .string s] w (RetB (numB 5 s.data.toList) w) := by
  have hl := szL s
  rw [show numB 5 s.data.toList = taxB s.data.toList from rfl]
  have HN := Lib.hid (fun w => rdigs_c s w hs)
  cases hd : digs s.data.toList with
  | false =>
    rw [tax_dig hd]
    rw [hd] at HN
    clear hl hd
    go_enter Tryz.func59, Tryz.ntmps59
    go_wp2
    go_quiet (first | (go_at_call 110; exact Calls.quiet_of_same (flipC (HN.out _))))
    go_wp2
    go_ret
    exact ⟨rfl, below_drewN (Below.refl _ _) _⟩
  | true =>
  by_cases h1 : s.size = 11
  case neg =>
    rw [tax_len (by omega)]
    rw [hd] at HN
    have e11 : ((s.size : Int) == 11) = false := bqF (by omega)
    clear hl hd h1
    go_enter Tryz.func59, Tryz.ntmps59
    go_wp2
    go_quiet (first | (go_at_call 110; exact Calls.quiet_of_same (flipC (HN.out _))))
    go_wp2
    go_ret
    exact ⟨rfl, below_drewN (Below.refl _ _) _⟩
  rw [tax_is (by omega) hd]
  rw [hd] at HN
  have e11 : ((s.size : Int) == 11) = true := bqT (by omega)
  have j0 : 0 < s.size := by omega
  have j10 : 10 < s.size := by omega
  have b0 := byS s 0 j0
  have b10 := byS s 10 j10
  rw [← b0, ← b10]
  have i0 : (0 : Int) < (s.size : Int) := by omega
  have i10 : (10 : Int) < (s.size : Int) := by omega
  have HT := Lib.hid (fun w => rtaxd_c s w (by omega) hd)
  by_cases h48 : ((s[0]'j0).toNat : Int) = 48
  · rw [decide_eq_false (fun h => h.1 h48)]
    have e48 : (((s[0]'j0).toNat : Int) == 48) = true := beq_iff_eq.2 h48
    have n48 : (((s[0]'j0).toNat : Int) != 48) = false := by unfold bne; rw [e48]; rfl
    clear hl h1 hd b0 b10 h48
    go_enter Tryz.func59, Tryz.ntmps59
    go_wp2
    go_quiet (first | (go_at_call 110; exact Calls.quiet_of_same (flipC (HN.out _))))
    go_wp2
    go_ret
    exact ⟨rfl, below_drewN (Below.refl _ _) _⟩
  · have e48 : (((s[0]'j0).toNat : Int) == 48) = false := beq_eq_false_iff_ne.2 h48
    have n48 : (((s[0]'j0).toNat : Int) != 48) = true := by unfold bne; rw [e48]; rfl
    obtain ⟨T, hTe⟩ : ∃ T, taxD s.data.toList = T := ⟨_, rfl⟩
    have hR := Lib.hid (show decide (((s[0]'j0).toNat : Int) ≠ 48 ∧ T = ((s[10]'j10).toNat : Int)) = (((s[10]'j10).toNat : Int) == T) by rw [Bool.eq_iff_iff]; simp; constructor; exact fun h => h.2.symm; exact fun h => ⟨h48, h.symm⟩)
    rw [hTe] at HT ⊢
    rw [hR.out]
    clear hl h1 hd b0 b10 h48 hTe hR
    go_enter Tryz.func59, Tryz.ntmps59
    go_wp2
    go_quiet (first | (go_at_call 110; exact Calls.quiet_of_same (flipC (HN.out _))) | (go_at_call 115; exact Calls.quiet_of_same (flipC (HT.out _))))
    go_wp2
    go_ret
    exact ⟨rfl, below_drewN (Below.refl _ _) _⟩

set_option maxHeartbeats 4000000 in
set_option maxRecDepth 100000 in
theorem risnum4_c (s : ByteArray) (w : World) (hs : s.size ≤ 9223372036854775807) :
    Calls Tryz.prog 59 #[.int .i64 4, .string s] w (RetB (numB 4 s.data.toList) w) := by
  rw [show numB 4 s.data.toList = bankB s.data.toList from rfl]
  have hlen := szL s
  by_cases h1 : 15 ≤ s.size ∧ s.size ≤ 34
  case neg =>
    rw [bank_no (form_len (by omega))]
    have HW := Lib.hid (show decide ((15 : Int) ≤ (s.size : Int) ∧ (s.size : Int) ≤ 34) = false from decide_eq_false (by omega))
    clear hlen h1
    go_enter Tryz.func59, Tryz.ntmps59
    go_wp2_with fail
    refine (within_c _ _ _ _).mono ?_
    rw [HW.out]
    rintro e w1 ⟨rfl, rfl⟩
    go_wp2
    go_ret
    exact ⟨rfl, Below.refl _ _⟩
  have HW := Lib.hid (show decide ((15 : Int) ≤ (s.size : Int) ∧ (s.size : Int) ≤ 34) = true from decide_eq_true (by omega))
  have q2 : (2 : Int) ≤ (s.size : Int) := by omega
  have q4 : (4 : Int) ≤ (s.size : Int) := by omega
  have hf := form_in (l := s.data.toList) (by omega)
  have h2' : ((s.data.toList.drop 2).take 2) = (s.extract 2 4).data.toList := by rw [Lib.extract_data]
  have h1' : (s.data.toList.take 2) = (s.extract 0 2).data.toList := by rw [ext_take]
  have h4' : (s.data.toList.drop 4) = (s.extract 4 s.size).data.toList := by rw [ext_drop]
  have hd2 := digs_two (l := s.data.toList) (by omega)
  have hck := chk_two (l := s.data.toList) (by omega)
  rw [h1', h2', h4'] at hf
  rw [h2'] at hd2 hck
  obtain ⟨a, ha⟩ : ∃ a, s.extract 0 2 = a := ⟨_, rfl⟩
  obtain ⟨b, hb⟩ : ∃ b, s.extract 2 4 = b := ⟨_, rfl⟩
  obtain ⟨c, hc⟩ : ∃ c, s.extract 4 s.size = c := ⟨_, rfl⟩
  have has : a.size = 2 := by rw [← ha, ByteArray.size_extract]; omega
  have hbs : b.size = 2 := by rw [← hb, ByteArray.size_extract]; omega
  have hcs : c.size ≤ 34 := by rw [← hc, ByteArray.size_extract]; omega
  rw [ha, hb, hc] at hf
  rw [hb] at hd2 hck
  have HA := Lib.hid ha; have HB := Lib.hid hb; have HC := Lib.hid hc
  have HLA := Lib.hid (fun w => rletters_c a w (by omega))
  have HLB := Lib.hid (fun w => rdigs_c b w (by omega))
  have HLC := Lib.hid (fun w => rtags_c c w (by omega))
  rw [hd2] at HLB
  cases fa : inL a.data.toList 65 90 with
  | false =>
    rw [fa, Bool.false_and] at hf
    rw [bank_no hf]
    rw [fa] at HLA
    clear hf hd2 hck hlen h1' h2' h4' ha hb hc fa has hbs h1
    go_enter Tryz.func59, Tryz.ntmps59
    go_wp2_with fail
    refine (within_c _ _ _ _).mono ?_
    rw [HW.out]
    rintro e w1 ⟨rfl, rfl⟩
    go_wp2_with fail
    rw [HA.out]
    refine (HLA.out _).mono ?_
    rintro e w1 ⟨rfl, rfl⟩
    go_wp2
    go_ret
    exact ⟨rfl, Below.refl _ _⟩
  | true =>
  cases fb : inL b.data.toList 48 57 with
  | false =>
    rw [fa, fb] at hf
    rw [bank_no hf]
    rw [fa] at HLA; rw [fb] at HLB
    clear hf hd2 hck hlen h1' h2' h4' ha hb hc fa fb has hbs h1
    go_enter Tryz.func59, Tryz.ntmps59
    go_wp2_with fail
    refine (within_c _ _ _ _).mono ?_
    rw [HW.out]
    rintro e w1 ⟨rfl, rfl⟩
    go_wp2_with fail
    rw [HA.out]
    refine (HLA.out _).mono ?_
    rintro e w1 ⟨rfl, rfl⟩
    go_wp2_with fail
    rw [HB.out]
    refine (HLB.out _).mono ?_
    rintro e w1 ⟨rfl, rfl⟩
    go_wp2
    go_ret
    exact ⟨rfl, Below.refl _ _⟩
  | true =>
  cases fc : tagL c.data.toList with
  | false =>
    rw [fa, fb, fc] at hf
    rw [bank_no hf]
    rw [fa] at HLA; rw [fb] at HLB; rw [fc] at HLC
    clear hf hd2 hck hlen h1' h2' h4' ha hb hc fa fb fc has hbs h1
    go_enter Tryz.func59, Tryz.ntmps59
    go_wp2_with fail
    refine (within_c _ _ _ _).mono ?_
    rw [HW.out]
    rintro e w1 ⟨rfl, rfl⟩
    go_wp2_with fail
    rw [HA.out]
    refine (HLA.out _).mono ?_
    rintro e w1 ⟨rfl, rfl⟩
    go_wp2_with fail
    rw [HB.out]
    refine (HLB.out _).mono ?_
    rintro e w1 ⟨rfl, rfl⟩
    go_wp2_with fail
    rw [HC.out]
    refine (HLC.out _).mono ?_
    rintro e w1 ⟨rfl, rfl⟩
    go_wp2
    go_ret
    exact ⟨rfl, Below.refl _ _⟩
  | true =>
  rw [fa, fb, fc] at hf
  obtain ⟨c1, c2, c3⟩ := two_cmp (l := b.data.toList) (by rw [szL]; exact hbs) fb
  rw [hck] at c1 c2 c3
  rw [bank_is hf]
  have htag := form_tag hf
  have hz0 : (s.extract 4 s.size ++ s.extract 0 4).size = s.size := by rw [ByteArray.size_append, ByteArray.size_extract, ByteArray.size_extract]; omega
  have hts : (s.extract 4 s.size ++ s.extract 0 4).data.toList = s.data.toList.drop 4 ++ s.data.toList.take 4 := by rw [ByteArray.data_append, Array.toList_append, ext_drop, ext_take]
  have httag := tag_take_drop 4 htag
  rw [← hts] at httag
  have HV := Lib.hid (fun w => rvalues_c (s.extract 4 s.size ++ s.extract 0 4) w (by omega) (by omega) httag)
  have hvl := vals_len (s.extract 4 s.size ++ s.extract 0 4).data.toList
  have hvr := vals_rem httag (r := 0) ⟨by decide, by decide⟩
  have hvd := vals_dgt httag
  rw [szL, hz0] at hvl
  obtain ⟨v, hv⟩ : ∃ v : ByteArray, (⟨(vals (s.extract 4 s.size ++ s.extract 0 4).data.toList).toArray⟩ : ByteArray) = v := ⟨_, rfl⟩
  have hvv : vals (s.extract 4 s.size ++ s.extract 0 4).data.toList = v.data.toList := by rw [← hv]
  rw [hvv] at hvl hvr hvd
  rw [szL] at hvl
  rw [hv] at HV
  have HM := Lib.hid (fun w => rremainder_c v w (by omega) hvd)
  have hR0 : remF v.data.toList 0 = bankR s.data.toList := by rw [hvr, hts]; rfl
  rw [hR0] at HM
  have hcat : ¬ 9223372036854775807 < (s.extract 4 s.size).size + (s.extract 0 4).size := by rw [ByteArray.size_extract, ByteArray.size_extract]; omega
  obtain ⟨d, hd0⟩ : ∃ d, s.extract 0 4 = d := ⟨_, rfl⟩
  have HD := Lib.hid hd0
  rw [hc, hd0] at HV hcat
  obtain ⟨R, hR⟩ : ∃ R, bankR s.data.toList = R := ⟨_, rfl⟩
  obtain ⟨C, hC⟩ : ∃ C, bankC s.data.toList = C := ⟨_, rfl⟩
  rw [hR] at HM ⊢
  rw [hC] at c1 c2 c3 ⊢
  rw [← Lib.toList_data] at c1 c2 c3
  rw [fa] at HLA; rw [fb] at HLB; rw [fc] at HLC
  rw [← HB.out] at c1 c2 c3
  clear hf hd2 hck hlen h1' h2' h4' ha hb hc fa fb fc hR hC has hbs h1 htag hz0 hts httag hvl hvr hvd hv hvv hR0 hd0
  by_cases k1 : C < 2
  · rw [decide_eq_true k1] at c1
    rw [decide_eq_false (by omega : ¬ (R = 1 ∧ 2 ≤ C ∧ C ≤ 98))]
    clear c2 c3 k1
    go_enter Tryz.func59, Tryz.ntmps59
    go_wp2_with fail
    refine (within_c _ _ _ _).mono ?_
    rw [HW.out]
    rintro e w1 ⟨rfl, rfl⟩
    go_wp2_with fail
    rw [HA.out]
    refine (HLA.out _).mono ?_
    rintro e w1 ⟨rfl, rfl⟩
    go_wp2_with fail
    rw [HB.out]
    refine (HLB.out _).mono ?_
    rintro e w1 ⟨rfl, rfl⟩
    go_wp2_with fail
    rw [HC.out]
    refine (HLC.out _).mono ?_
    rintro e w1 ⟨rfl, rfl⟩
    go_wp2_with fail
    go_quiet (fail)
    go_wp2
    go_ret
    exact ⟨rfl, below_drewN (Below.refl _ _) _⟩
  rw [decide_eq_false k1] at c1
  by_cases k2 : 98 < C
  · rw [decide_eq_false (by omega)] at c2 c3
    rw [decide_eq_false (by omega : ¬ (R = 1 ∧ 2 ≤ C ∧ C ≤ 98))]
    clear k1 k2
    go_enter Tryz.func59, Tryz.ntmps59
    go_wp2_with fail
    refine (within_c _ _ _ _).mono ?_
    rw [HW.out]
    rintro e w1 ⟨rfl, rfl⟩
    go_wp2_with fail
    rw [HA.out]
    refine (HLA.out _).mono ?_
    rintro e w1 ⟨rfl, rfl⟩
    go_wp2_with fail
    rw [HB.out]
    refine (HLB.out _).mono ?_
    rintro e w1 ⟨rfl, rfl⟩
    go_wp2_with fail
    rw [HC.out]
    refine (HLC.out _).mono ?_
    rintro e w1 ⟨rfl, rfl⟩
    go_wp2_with fail
    go_quiet (fail)
    go_wp2
    go_ret
    exact ⟨rfl, below_drewN (Below.refl _ _) _⟩
  have hres := Lib.hid (show decide (R = 1 ∧ 2 ≤ C ∧ C ≤ 98) = (R == 1) by rw [Bool.eq_iff_iff]; simp; omega)
  rw [hres.out]
  by_cases k3 : C < 98
  · rw [decide_eq_true k3] at c2
    clear c3 k1 k2 k3
    go_enter Tryz.func59, Tryz.ntmps59
    go_wp2_with fail
    refine (within_c _ _ _ _).mono ?_
    rw [HW.out]
    rintro e w1 ⟨rfl, rfl⟩
    go_wp2_with fail
    rw [HA.out]
    refine (HLA.out _).mono ?_
    rintro e w1 ⟨rfl, rfl⟩
    go_wp2_with fail
    rw [HB.out]
    refine (HLB.out _).mono ?_
    rintro e w1 ⟨rfl, rfl⟩
    go_wp2_with fail
    rw [HC.out]
    refine (HLC.out _).mono ?_
    rintro e w1 ⟨rfl, rfl⟩
    go_wp2_with fail
    have hcO := HC.out; have hdO := HD.out; go_region_held3 (fun _ => True) (exact trivial) (first | (go_at_call 114; (with_reducible refine (HV.out _).mono ?_); rintro e w2 ⟨rfl, hb2⟩) | (go_at_call 113; (with_reducible refine (HM.out _).mono ?_); rintro e w3 ⟨rfl, rfl⟩))
    go_wp2
    go_ret
    exact ⟨rfl, below_then hb2 (Below.refl _ _).drew (Nat.le_refl _)⟩
  · rw [decide_eq_false k3] at c2
    rw [decide_eq_true (by omega)] at c3
    clear k1 k2 k3
    go_enter Tryz.func59, Tryz.ntmps59
    go_wp2_with fail
    refine (within_c _ _ _ _).mono ?_
    rw [HW.out]
    rintro e w1 ⟨rfl, rfl⟩
    go_wp2_with fail
    rw [HA.out]
    refine (HLA.out _).mono ?_
    rintro e w1 ⟨rfl, rfl⟩
    go_wp2_with fail
    rw [HB.out]
    refine (HLB.out _).mono ?_
    rintro e w1 ⟨rfl, rfl⟩
    go_wp2_with fail
    rw [HC.out]
    refine (HLC.out _).mono ?_
    rintro e w1 ⟨rfl, rfl⟩
    go_wp2_with fail
    have hcO := HC.out; have hdO := HD.out; go_region_held3 (fun _ => True) (exact trivial) (first | (go_at_call 114; (with_reducible refine (HV.out _).mono ?_); rintro e w2 ⟨rfl, hb2⟩) | (go_at_call 113; (with_reducible refine (HM.out _).mono ?_); rintro e w3 ⟨rfl, rfl⟩))
    go_wp2
    go_ret
    exact ⟨rfl, below_then hb2 (Below.refl _ _).drew (Nat.le_refl _)⟩

theorem risnum_c (kind : Int) (s : ByteArray) (w : World) (hs : s.size ≤ 9223372036854775807) (hk : kindB kind = true) :
    Calls Tryz.prog 59 #[.int .i64 kind, .string s] w (RetB (numB kind s.data.toList) w) := by
  have hk := of_decide_eq_true hk
  rcases (show kind = 1 ∨ kind = 2 ∨ kind = 3 ∨ kind = 4 ∨ kind = 5 by omega) with rfl | rfl | rfl | rfl | rfl
  · refine (risnum1_c s w hs).mono ?_; rintro e w1 ⟨rfl, rfl⟩; exact ⟨rfl, Below.refl _ _⟩
  · refine (risnum2_c s w hs).mono ?_; rintro e w1 ⟨rfl, rfl⟩; exact ⟨rfl, Below.refl _ _⟩
  · refine (risnum3_c s w hs).mono ?_; rintro e w1 ⟨rfl, rfl⟩; exact ⟨rfl, Below.refl _ _⟩
  · exact risnum4_c s w hs
  · exact risnum5_c s w hs
theorem riskind_c (kind : Int) (w : World) : Calls Tryz.prog 58 #[.int .i64 kind] w fun e w' => w = w' ∧ e = .returned (.bool (kindB kind)) := by
  go_enter Tryz.func58, Tryz.ntmps58
  go_wp2_with fail
  refine (within_c _ _ _ _).mono ?_
  rw [show decide ((1 : Int) ≤ kind ∧ kind ≤ 5) = kindB kind from rfl]
  rintro e w1 ⟨rfl, rfl⟩
  go_wp2
  go_ret
  exact ⟨rfl, rfl⟩
theorem rIsNumber_no (kind : Int) (s : ByteArray) (w : World) (h : kindB kind = false) :
    Calls Tryz.prog 15 #[.int .i64 kind, .string s] w (RetBF false 4 w) := by
  have H := Lib.hid h; clear h
  go_enter Tryz.func15, Tryz.ntmps15
  go_wp2_with fail
  refine (riskind_c _ _).mono ?_
  rw [H.out]
  rintro e w1 ⟨rfl, rfl⟩
  go_wp2
  go_ret2
  exact ⟨rfl, Below.refl _ _⟩
theorem rIsNumber_yes (kind : Int) (s : ByteArray) (w : World) (hs : s.size ≤ 9223372036854775807) (h : kindB kind = true) :
    Calls Tryz.prog 15 #[.int .i64 kind, .string s] w (RetBF (numB kind s.data.toList) 0 w) := by
  have HN := Lib.hid (fun w => risnum_c kind s w hs h)
  have H := Lib.hid h; clear h
  go_enter Tryz.func15, Tryz.ntmps15
  go_wp2_with fail
  refine (riskind_c _ _).mono ?_
  rw [H.out]
  rintro e w1 ⟨rfl, rfl⟩
  go_wp2_with fail
  refine (HN.out _).mono ?_
  rintro e w2 ⟨rfl, hb2⟩
  go_wp2
  go_ret2
  exact ⟨rfl, hb2⟩
theorem rWidened_no (s : ByteArray) (w : World) (hs : s.size ≤ 9223372036854775807) (h : numB 1 s.data.toList = false) :
    Calls Tryz.prog 19 #[.string s] w (RetSF ⟨#[]⟩ 3 w) := by
  have HN := Lib.hid (fun w => risnum_c 1 s w hs rfl)
  rw [h] at HN
  clear h
  go_enter Tryz.func19, Tryz.ntmps19
  go_wp2_with fail
  refine (HN.out _).mono ?_
  rintro e w1 ⟨rfl, hb1⟩
  go_wp2
  go_ret2
  exact ⟨rfl, hb1⟩
set_option maxRecDepth 100000 in
theorem rWidened_yes (s : ByteArray) (w : World) (h : numB 1 s.data.toList = true) :
    Calls Tryz.prog 19 #[.string s] w (RetSF ⟨(wide s.data.toList).toArray⟩ 0 w) := by
  have hl := num1_len h
  rw [szL] at hl
  have HN := Lib.hid (fun w => risnum_c 1 s w (by omega) rfl)
  rw [h] at HN
  obtain ⟨c, hc⟩ : ∃ c : Nat, 14 - s.size = c := ⟨_, rfl⟩
  have E1 := Lib.hid (show (14 : Int) - (s.size : Int) = ((c : Nat) : Int) by omega)
  have HREP := Lib.hid (Tryz.strings_Repeat ⟨#[48]⟩ c)
  have HW := Lib.hid (wide_of s hc)
  obtain ⟨r, hr⟩ : ∃ r : ByteArray, (⟨(Lib.repeatL [48] c).toArray⟩ : ByteArray) = r := ⟨_, rfl⟩
  have hrs : r.size = c := by rw [← hr, rep_one]; show (List.replicate c (48 : UInt8)).toArray.size = c; simp
  have HR := Lib.hid hr
  have hcond : ¬ 9223372036854775807 < r.size + s.size := by omega
  have hc14 : c ≤ 14 := by omega
  clear hc hr hrs h
  go_enter Tryz.func19, Tryz.ntmps19
  go_wp2_with fail
  refine (HN.out _).mono ?_
  rintro e w1 ⟨rfl, hb1⟩
  go_wp2_with fail
  rw [E1.out]
  refine (HREP.out _ (by omega) (by show 1 * c ≤ _; omega)).mono ?_
  rintro e w2 ⟨rfl, hb2⟩
  rw [show (⟨(Lib.repeatL (⟨#[48]⟩ : ByteArray).data.toList c).toArray⟩ : ByteArray) = r from HR.out]
  go_wp2
  go_ret2
  refine ⟨?_, below_then hb2 hb1 hb1.size⟩
  rw [← HW.out, HR.out]; rfl
end Go.Proofs.YtegobkaldedhhaaGreatDoor
