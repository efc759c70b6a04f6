
/- The walk of the reference's ReadDay, and of the law AmountDayReadsMatchSpec. -/
import Derived.Test.YtklblmbacnnoeaaGreatDoorM4
namespace Go.Proofs.YtklblmbacnnoeaaGreatDoor
open Go.RowKit Limb Work Nmb
set_option linter.unusedVariables false
set_option linter.unusedSimpArgs false

theorem rd_none {form pv : Int} {l : List UInt8} (hf : formB form = true) (hp : 1 ≤ pv ∧ pv ≤ 9900) (ho : readO form pv l = none) : rdN form pv l = 0 ∧ rdF form pv l = 10 := by
  unfold rdN rdF
  rw [hf, if_pos ⟨rfl, hp⟩, if_neg (by simp), if_neg (fun h => h hp), ho]
  exact ⟨rfl, rfl⟩
theorem rd_some {form pv v : Int} {l : List UInt8} (hf : formB form = true) (hp : 1 ≤ pv ∧ pv ≤ 9900) (ho : readO form pv l = some v) : rdN form pv l = v ∧ rdF form pv l = 0 := by
  unfold rdN rdF
  rw [hf, if_pos ⟨rfl, hp⟩, if_neg (by simp), if_neg (fun h => h hp), ho]
  exact ⟨rfl, rfl⟩
theorem eqO1 (pv : Int) (l : List UInt8) : readO 1 pv l = if l.length = 8 then dayO (numF (l.take 4)) (numF ((l.drop 4).take 2)) (numF (l.drop 6)) else none := rfl
theorem eqO2 (pv : Int) (l : List UInt8) : readO 2 pv l = if l.length = 6 then (if 0 ≤ numF (l.take 2) then dayO (pv + (numF (l.take 2) - pv) % 100) (numF ((l.drop 2).take 2)) (numF (l.drop 4)) else none) else none := rfl
theorem eqO3 (pv : Int) (l : List UInt8) : readO 3 pv l = if l.length = 8 then dayO (numF (l.drop 4)) (numF ((l.drop 2).take 2)) (numF (l.take 2)) else none := rfl
theorem eqO5 (pv : Int) (l : List UInt8) : readO 5 pv l = if l.length = 7 then weekO (numF (l.take 4)) (numF ((l.drop 4).take 2)) (numF (l.drop 6)) else none := rfl
def NF (o : Option Int) (w : World) (e : Ending) (w' : World) : Prop := RetW o w e w'
theorem nf_rd {form pv : Int} {l : List UInt8} {w w' : World} {e : Ending} (hf : formB form = true) (hp : 1 ≤ pv ∧ pv ≤ 9900) (h : RetW (readO form pv l) w e w') : RetNF (rdN form pv l) (rdF form pv l) w e w' := by
  cases ho : readO form pv l with
  | none => obtain ⟨a, b⟩ := rd_none hf hp ho; rw [ho] at h; rw [a, b]; exact h
  | some v => obtain ⟨a, b⟩ := rd_some hf hp ho; rw [ho] at h; rw [a, b]; exact h
theorem dayO_yes {y m d : Int} (h : dateB y m d = true) : dayO y m d = some (num y m d) := if_pos h
theorem dayO_none {y m d : Int} (h : dateB y m d = false) : dayO y m d = none := if_neg (by rw [h]; simp)
theorem dateB_neg : dateB (-1) (-1) (-1) = false := rfl
theorem within_yes (n lo hi : Int) (w : World) (h : lo ≤ n ∧ n ≤ hi) : Calls Tryz.prog 160 #[.int .i64 n, .int .i64 lo, .int .i64 hi] w fun e w' => w = w' ∧ e = .returned (.bool true) := by
  have := within_c n lo hi w
  rw [decide_eq_true h] at this
  exact this
theorem within_no (n lo hi : Int) (w : World) (h : ¬ (lo ≤ n ∧ n ≤ hi)) : Calls Tryz.prog 160 #[.int .i64 n, .int .i64 lo, .int .i64 hi] w fun e w' => w = w' ∧ e = .returned (.bool false) := by
  have := within_c n lo hi w
  rw [decide_eq_false h] at this
  exact this

set_option maxHeartbeats 2000000 in
set_option maxRecDepth 100000 in
theorem rread1_c (s : ByteArray) (pv : Int) (w : World) (hs : s.size ≤ 9223372036854775807) (hp : 1 ≤ pv ∧ pv ≤ 9900) :
    Calls Tryz.prog 100 #[.string s, .int .i64 1, .int .i64 pv] w (RetW (readO 1 pv s.data.toList) w) := by
  obtain ⟨p1, p2⟩ := hp
  have hl := szL s
  obtain ⟨O, hO⟩ : ∃ O, readO 1 pv s.data.toList = O := ⟨_, rfl⟩
  rw [hO]
  by_cases hz : s.size = 8
  case neg =>
    have e8 : ((s.size : Int) == 8) = false := beq_eq_false_iff_ne.2 (by omega)
    have HO := Lib.hid (show O = none by rw [← hO]; rw [eqO1, if_neg (by rw [hl]; exact hz)])
    clear hO hl hz
    go_enter Tryz.func100, Tryz.ntmps100
    go_wp2_with fail
    refine (within_yes _ _ _ _ ⟨by decide, by decide⟩).mono ?_
    rintro e w1 ⟨rfl, rfl⟩
    go_wp2_with fail
    refine (within_yes _ _ _ _ ⟨p1, p2⟩).mono ?_
    rintro e w1 ⟨rfl, rfl⟩
    go_wp2_with fail
    refine (rDayOf_c _ _ _ _ ⟨by decide, by decide⟩).mono ?_
    rw [dayR_no dateB_neg, dateB_neg, if_neg (by simp)]
    rintro e w2 ⟨rfl, hb2⟩
    go_wp2
    go_ret2
    exact retW_none HO.out hb2
  have e8 : ((s.size : Int) == 8) = true := beq_iff_eq.2 (by omega)
  have q4 : (4 : Int) ≤ (s.size : Int) := by omega
  have q6 : (6 : Int) ≤ (s.size : Int) := by omega
  obtain ⟨A, hA⟩ : ∃ A, s.extract 0 4 = A := ⟨_, rfl⟩
  obtain ⟨B, hB⟩ : ∃ B, s.extract 4 6 = B := ⟨_, rfl⟩
  obtain ⟨C, hC⟩ : ∃ C, s.extract 6 s.size = C := ⟨_, rfl⟩
  have zA : A.size ≤ 4 := by rw [← hA, ByteArray.size_extract]; omega
  have zB : B.size ≤ 2 := by rw [← hB, ByteArray.size_extract]; omega
  have zC : C.size ≤ 4 := by rw [← hC, ByteArray.size_extract]; omega
  have HA := Lib.hid (fun w => rnumber_c A w (by omega))
  have HB := Lib.hid (fun w => rnumber_c B w (by omega))
  have HC := Lib.hid (fun w => rnumber_c C w (by omega))
  obtain ⟨X, hX⟩ : ∃ X, numF A.data.toList = X := ⟨_, rfl⟩
  obtain ⟨Y, hY⟩ : ∃ Y, numF B.data.toList = Y := ⟨_, rfl⟩
  obtain ⟨Z, hZ⟩ : ∃ Z, numF C.data.toList = Z := ⟨_, rfl⟩
  rw [hX] at HA
  rw [hY] at HB
  rw [hZ] at HC
  have x1 := numF_lo A.data.toList
  have x2 := numF_hi (l := A.data.toList) (k := 4) (N := 10000) (by rw [szL]; exact zA) (by decide) (by decide)
  rw [hX] at x1 x2
  have e1 : s.data.toList.take 4 = A.data.toList := by rw [← hA, ext_to]
  have e2 : (s.data.toList.drop 4).take 2 = B.data.toList := by rw [← hB, ext_mid]
  have e3 : s.data.toList.drop 6 = C.data.toList := by rw [← hC, ext_from]
  rw [eqO1, if_pos (by rw [hl]; exact hz), e1, e2, e3, hX, hY, hZ] at hO
  clear hX hY hZ e1 e2 e3 zA zB zC hz hl
  cases hd : dateB X Y Z with
  | true =>
    have HD := Lib.hid hd
    have HO := Lib.hid (hO.symm.trans (dayO_yes hd))
    clear hO hd
    go_enter Tryz.func100, Tryz.ntmps100
    go_wp2_with fail
    refine (within_yes _ _ _ _ ⟨by decide, by decide⟩).mono ?_
    rintro e w1 ⟨rfl, rfl⟩
    go_wp2_with fail
    refine (within_yes _ _ _ _ ⟨p1, p2⟩).mono ?_
    rintro e w1 ⟨rfl, rfl⟩
    go_wp2_with fail
    go_quiet (first | (go_at_call_of 161 (Value.string A); exact Calls.quiet_of_same (HA.out _)) | (go_at_call_of 161 (Value.string B); exact Calls.quiet_of_same (HB.out _)) | (go_at_call_of 161 (Value.string C); exact Calls.quiet_of_same (HC.out _)))
    go_wp2_with fail
    refine (rDayOf_c _ _ _ _ ⟨by omega, by omega⟩).mono ?_
    rw [dayR_yes HD.out, HD.out, if_pos rfl]
    rintro e w2 ⟨rfl, hb2⟩
    go_wp2
    go_ret2
    exact retW_some HO.out (below_then hb2 (below_drewN (Below.refl _ _) _) (Nat.le_refl _))
  | false =>
    have HD := Lib.hid hd
    have HO := Lib.hid (hO.symm.trans (dayO_none hd))
    clear hO hd
    go_enter Tryz.func100, Tryz.ntmps100
    go_wp2_with fail
    refine (within_yes _ _ _ _ ⟨by decide, by decide⟩).mono ?_
    rintro e w1 ⟨rfl, rfl⟩
    go_wp2_with fail
    refine (within_yes _ _ _ _ ⟨p1, p2⟩).mono ?_
    rintro e w1 ⟨rfl, rfl⟩
    go_wp2_with fail
    go_quiet (first | (go_at_call_of 161 (Value.string A); exact Calls.quiet_of_same (HA.out _)) | (go_at_call_of 161 (Value.string B); exact Calls.quiet_of_same (HB.out _)) | (go_at_call_of 161 (Value.string C); exact Calls.quiet_of_same (HC.out _)))
    go_wp2_with fail
    refine (rDayOf_c _ _ _ _ ⟨by omega, by omega⟩).mono ?_
    rw [dayR_no HD.out, HD.out, if_neg (by simp)]
    rintro e w2 ⟨rfl, hb2⟩
    go_wp2
    go_ret2
    exact retW_none HO.out (below_then hb2 (below_drewN (Below.refl _ _) _) (Nat.le_refl _))

set_option maxHeartbeats 2000000 in
set_option maxRecDepth 100000 in
theorem rread2_c (s : ByteArray) (pv : Int) (w : World) (hs : s.size ≤ 9223372036854775807) (hp : 1 ≤ pv ∧ pv ≤ 9900) :
    Calls Tryz.prog 100 #[.string s, .int .i64 2, .int .i64 pv] w (RetW (readO 2 pv s.data.toList) w) := by
  obtain ⟨p1, p2⟩ := hp
  have hl := szL s
  obtain ⟨O, hO⟩ : ∃ O, readO 2 pv s.data.toList = O := ⟨_, rfl⟩
  rw [hO]
  by_cases hz : s.size = 6
  case neg =>
    have e8 : ((s.size : Int) == 6) = false := beq_eq_false_iff_ne.2 (by omega)
    have HO := Lib.hid (show O = none by rw [← hO]; rw [eqO2, if_neg (by rw [hl]; exact hz)])
    clear hO hl hz
    go_enter Tryz.func100, Tryz.ntmps100
    go_wp2_with fail
    refine (within_yes _ _ _ _ ⟨by decide, by decide⟩).mono ?_
    rintro e w1 ⟨rfl, rfl⟩
    go_wp2_with fail
    refine (within_yes _ _ _ _ ⟨p1, p2⟩).mono ?_
    rintro e w1 ⟨rfl, rfl⟩
    go_wp2_with fail
    refine (rDayOf_c _ _ _ _ ⟨by decide, by decide⟩).mono ?_
    rw [dayR_no dateB_neg, dateB_neg, if_neg (by simp)]
    rintro e w2 ⟨rfl, hb2⟩
    go_wp2
    go_ret2
    exact retW_none HO.out hb2
  have e8 : ((s.size : Int) == 6) = true := beq_iff_eq.2 (by omega)
  have q2 : (2 : Int) ≤ (s.size : Int) := by omega
  have q4 : (4 : Int) ≤ (s.size : Int) := by omega
  obtain ⟨A, hA⟩ : ∃ A, s.extract 0 2 = A := ⟨_, rfl⟩
  obtain ⟨B, hB⟩ : ∃ B, s.extract 2 4 = B := ⟨_, rfl⟩
  obtain ⟨C, hC⟩ : ∃ C, s.extract 4 s.size = C := ⟨_, rfl⟩
  have zA : A.size ≤ 4 := by rw [← hA, ByteArray.size_extract]; omega
  have zB : B.size ≤ 2 := by rw [← hB, ByteArray.size_extract]; omega
  have zC : C.size ≤ 4 := by rw [← hC, ByteArray.size_extract]; omega
  have HA := Lib.hid (fun w => rnumber_c A w (by omega))
  have HB := Lib.hid (fun w => rnumber_c B w (by omega))
  have HC := Lib.hid (fun w => rnumber_c C w (by omega))
  obtain ⟨X, hX⟩ : ∃ X, numF A.data.toList = X := ⟨_, rfl⟩
  obtain ⟨Y, hY⟩ : ∃ Y, numF B.data.toList = Y := ⟨_, rfl⟩
  obtain ⟨Z, hZ⟩ : ∃ Z, numF C.data.toList = Z := ⟨_, rfl⟩
  rw [hX] at HA
  rw [hY] at HB
  rw [hZ] at HC
  have x1 := numF_lo A.data.toList
  have x2 := numF_hi (l := A.data.toList) (k := 4) (N := 10000) (by rw [szL]; exact zA) (by decide) (by decide)
  rw [hX] at x1 x2
  have e1 : s.data.toList.take 2 = A.data.toList := by rw [← hA, ext_to]
  have e2 : (s.data.toList.drop 2).take 2 = B.data.toList := by rw [← hB, ext_mid]
  have e3 : s.data.toList.drop 4 = C.data.toList := by rw [← hC, ext_from]
  rw [eqO2, if_pos (by rw [hl]; exact hz), e1, e2, e3, hX, hY, hZ] at hO
  clear hX hY hZ e1 e2 e3 zA zB zC hz hl
  by_cases hx : 0 ≤ X
  case neg =>
    rw [if_neg hx] at hO
    have HO := Lib.hid hO.symm
    have hd : dateB X Y Z = false := dateB_not (by omega)
    have HD := Lib.hid hd
    clear hO hd
    go_enter Tryz.func100, Tryz.ntmps100
    go_wp2_with fail
    refine (within_yes _ _ _ _ ⟨by decide, by decide⟩).mono ?_
    rintro e w1 ⟨rfl, rfl⟩
    go_wp2_with fail
    refine (within_yes _ _ _ _ ⟨p1, p2⟩).mono ?_
    rintro e w1 ⟨rfl, rfl⟩
    go_wp2_with fail
    go_quiet (first | (go_at_call_of 161 (Value.string A); exact Calls.quiet_of_same (HA.out _)) | (go_at_call_of 161 (Value.string B); exact Calls.quiet_of_same (HB.out _)) | (go_at_call_of 161 (Value.string C); exact Calls.quiet_of_same (HC.out _)))
    go_wp2_with fail
    refine (rDayOf_c _ _ _ _ ⟨by omega, by omega⟩).mono ?_
    rw [dayR_no HD.out, HD.out, if_neg (by simp)]
    rintro e w2 ⟨rfl, hb2⟩
    go_wp2
    go_ret2
    exact retW_none HO.out (below_then hb2 (below_drewN (Below.refl _ _) _) (Nat.le_refl _))
  rw [if_pos hx] at hO
  cases hd : dateB (pv + (X - pv) % 100) Y Z with
  | true =>
    have HD := Lib.hid hd
    have HO := Lib.hid (hO.symm.trans (dayO_yes hd))
    clear hO hd
    go_enter Tryz.func100, Tryz.ntmps100
    go_wp2_with fail
    refine (within_yes _ _ _ _ ⟨by decide, by decide⟩).mono ?_
    rintro e w1 ⟨rfl, rfl⟩
    go_wp2_with fail
    refine (within_yes _ _ _ _ ⟨p1, p2⟩).mono ?_
    rintro e w1 ⟨rfl, rfl⟩
    go_wp2_with fail
    go_quiet (first | (go_at_call_of 161 (Value.string A); exact Calls.quiet_of_same (HA.out _)) | (go_at_call_of 161 (Value.string B); exact Calls.quiet_of_same (HB.out _)) | (go_at_call_of 161 (Value.string C); exact Calls.quiet_of_same (HC.out _)))
    go_wp2_with fail
    refine (rDayOf_c _ _ _ _ ⟨by omega, by omega⟩).mono ?_
    rw [dayR_yes HD.out, HD.out, if_pos rfl]
    rintro e w2 ⟨rfl, hb2⟩
    go_wp2
    go_ret2
    exact retW_some HO.out (below_then hb2 (below_drewN (Below.refl _ _) _) (Nat.le_refl _))
  | false =>
    have HD := Lib.hid hd
    have HO := Lib.hid (hO.symm.trans (dayO_none hd))
    clear hO hd
    go_enter Tryz.func100, Tryz.ntmps100
    go_wp2_with fail
    refine (within_yes _ _ _ _ ⟨by decide, by decide⟩).mono ?_
    rintro e w1 ⟨rfl, rfl⟩
    go_wp2_with fail
    refine (within_yes _ _ _ _ ⟨p1, p2⟩).mono ?_
    rintro e w1 ⟨rfl, rfl⟩
    go_wp2_with fail
    go_quiet (first | (go_at_call_of 161 (Value.string A); exact Calls.quiet_of_same (HA.out _)) | (go_at_call_of 161 (Value.string B); exact Calls.quiet_of_same (HB.out _)) | (go_at_call_of 161 (Value.string C); exact Calls.quiet_of_same (HC.out _)))
    go_wp2_with fail
    refine (rDayOf_c _ _ _ _ ⟨by omega, by omega⟩).mono ?_
    rw [dayR_no HD.out, HD.out, if_neg (by simp)]
    rintro e w2 ⟨rfl, hb2⟩
    go_wp2
    go_ret2
    exact retW_none HO.out (below_then hb2 (below_drewN (Below.refl _ _) _) (Nat.le_refl _))

set_option maxHeartbeats 2000000 in
set_option maxRecDepth 100000 in
theorem rread3_c (s : ByteArray) (pv : Int) (w : World) (hs : s.size ≤ 9223372036854775807) (hp : 1 ≤ pv ∧ pv ≤ 9900) :
    Calls Tryz.prog 100 #[.string s, .int .i64 3, .int .i64 pv] w (RetW (readO 3 pv s.data.toList) w) := by
  obtain ⟨p1, p2⟩ := hp
  have hl := szL s
  obtain ⟨O, hO⟩ : ∃ O, readO 3 pv s.data.toList = O := ⟨_, rfl⟩
  rw [hO]
  by_cases hz : s.size = 8
  case neg =>
    have e8 : ((s.size : Int) == 8) = false := beq_eq_false_iff_ne.2 (by omega)
    have HO := Lib.hid (show O = none by rw [← hO]; rw [eqO3, if_neg (by rw [hl]; exact hz)])
    clear hO hl hz
    go_enter Tryz.func100, Tryz.ntmps100
    go_wp2_with fail
    refine (within_yes _ _ _ _ ⟨by decide, by decide⟩).mono ?_
    rintro e w1 ⟨rfl, rfl⟩
    go_wp2_with fail
    refine (within_yes _ _ _ _ ⟨p1, p2⟩).mono ?_
    rintro e w1 ⟨rfl, rfl⟩
    go_wp2_with fail
    refine (rDayOf_c _ _ _ _ ⟨by decide, by decide⟩).mono ?_
    rw [dayR_no dateB_neg, dateB_neg, if_neg (by simp)]
    rintro e w2 ⟨rfl, hb2⟩
    go_wp2
    go_ret2
    exact retW_none HO.out hb2
  have e8 : ((s.size : Int) == 8) = true := beq_iff_eq.2 (by omega)
  have q2 : (2 : Int) ≤ (s.size : Int) := by omega
  have q4 : (4 : Int) ≤ (s.size : Int) := by omega
  obtain ⟨A, hA⟩ : ∃ A, s.extract 4 s.size = A := ⟨_, rfl⟩
  obtain ⟨B, hB⟩ : ∃ B, s.extract 2 4 = B := ⟨_, rfl⟩
  obtain ⟨C, hC⟩ : ∃ C, s.extract 0 2 = C := ⟨_, rfl⟩
  have zA : A.size ≤ 4 := by rw [← hA, ByteArray.size_extract]; omega
  have zB : B.size ≤ 2 := by rw [← hB, ByteArray.size_extract]; omega
  have zC : C.size ≤ 4 := by rw [← hC, ByteArray.size_extract]; omega
  have HA := Lib.hid (fun w => rnumber_c A w (by omega))
  have HB := Lib.hid (fun w => rnumber_c B w (by omega))
  have HC := Lib.hid (fun w => rnumber_c C w (by omega))
  obtain ⟨X, hX⟩ : ∃ X, numF A.data.toList = X := ⟨_, rfl⟩
  obtain ⟨Y, hY⟩ : ∃ Y, numF B.data.toList = Y := ⟨_, rfl⟩
  obtain ⟨Z, hZ⟩ : ∃ Z, numF C.data.toList = Z := ⟨_, rfl⟩
  rw [hX] at HA
  rw [hY] at HB
  rw [hZ] at HC
  have x1 := numF_lo A.data.toList
  have x2 := numF_hi (l := A.data.toList) (k := 4) (N := 10000) (by rw [szL]; exact zA) (by decide) (by decide)
  rw [hX] at x1 x2
  have e1 : s.data.toList.drop 4 = A.data.toList := by rw [← hA, ext_from]
  have e2 : (s.data.toList.drop 2).take 2 = B.data.toList := by rw [← hB, ext_mid]
  have e3 : s.data.toList.take 2 = C.data.toList := by rw [← hC, ext_to]
  rw [eqO3, if_pos (by rw [hl]; exact hz), e1, e2, e3, hX, hY, hZ] at hO
  clear hX hY hZ e1 e2 e3 zA zB zC hz hl
  cases hd : dateB X Y Z with
  | true =>
    have HD := Lib.hid hd
    have HO := Lib.hid (hO.symm.trans (dayO_yes hd))
    clear hO hd
    go_enter Tryz.func100, Tryz.ntmps100
    go_wp2_with fail
    refine (within_yes _ _ _ _ ⟨by decide, by decide⟩).mono ?_
    rintro e w1 ⟨rfl, rfl⟩
    go_wp2_with fail
    refine (within_yes _ _ _ _ ⟨p1, p2⟩).mono ?_
    rintro e w1 ⟨rfl, rfl⟩
    go_wp2_with fail
    go_quiet (first | (go_at_call_of 161 (Value.string A); exact Calls.quiet_of_same (HA.out _)) | (go_at_call_of 161 (Value.string B); exact Calls.quiet_of_same (HB.out _)) | (go_at_call_of 161 (Value.string C); exact Calls.quiet_of_same (HC.out _)))
    go_wp2_with fail
    refine (rDayOf_c _ _ _ _ ⟨by omega, by omega⟩).mono ?_
    rw [dayR_yes HD.out, HD.out, if_pos rfl]
    rintro e w2 ⟨rfl, hb2⟩
    go_wp2
    go_ret2
    exact retW_some HO.out (below_then hb2 (below_drewN (Below.refl _ _) _) (Nat.le_refl _))
  | false =>
    have HD := Lib.hid hd
    have HO := Lib.hid (hO.symm.trans (dayO_none hd))
    clear hO hd
    go_enter Tryz.func100, Tryz.ntmps100
    go_wp2_with fail
    refine (within_yes _ _ _ _ ⟨by decide, by decide⟩).mono ?_
    rintro e w1 ⟨rfl, rfl⟩
    go_wp2_with fail
    refine (within_yes _ _ _ _ ⟨p1, p2⟩).mono ?_
    rintro e w1 ⟨rfl, rfl⟩
    go_wp2_with fail
    go_quiet (first | (go_at_call_of 161 (Value.string A); exact Calls.quiet_of_same (HA.out _)) | (go_at_call_of 161 (Value.string B); exact Calls.quiet_of_same (HB.out _)) | (go_at_call_of 161 (Value.string C); exact Calls.quiet_of_same (HC.out _)))
    go_wp2_with fail
    refine (rDayOf_c _ _ _ _ ⟨by omega, by omega⟩).mono ?_
    rw [dayR_no HD.out, HD.out, if_neg (by simp)]
    rintro e w2 ⟨rfl, hb2⟩
    go_wp2
    go_ret2
    exact retW_none HO.out (below_then hb2 (below_drewN (Below.refl _ _) _) (Nat.le_refl _))

set_option maxHeartbeats 2000000 in
set_option maxRecDepth 100000 in
theorem rread4_c (s : ByteArray) (pv : Int) (w : World) (hs : s.size ≤ 9223372036854775807) (hp : 1 ≤ pv ∧ pv ≤ 9900) :
    Calls Tryz.prog 100 #[.string s, .int .i64 4, .int .i64 pv] w (RetW (readO 4 pv s.data.toList) w) := by
  obtain ⟨p1, p2⟩ := hp
  have hl := szL s
  obtain ⟨O, hO⟩ : ∃ O, readO 4 pv s.data.toList = O := ⟨_, rfl⟩
  rw [hO]
  by_cases hz : s.size = 10
  case neg =>
    have e8 : ((s.size : Int) == 10) = false := beq_eq_false_iff_ne.2 (by omega)
    have HO := Lib.hid (show O = none by rw [← hO]; exact readO4_no (decide_eq_false (fun h => by omega)))
    clear hO hl hz
    go_enter Tryz.func100, Tryz.ntmps100
    go_wp2_with fail
    refine (within_yes _ _ _ _ ⟨by decide, by decide⟩).mono ?_
    rintro e w1 ⟨rfl, rfl⟩
    go_wp2_with fail
    refine (within_yes _ _ _ _ ⟨p1, p2⟩).mono ?_
    rintro e w1 ⟨rfl, rfl⟩
    go_wp2_with fail
    refine (rDayOf_c _ _ _ _ ⟨by decide, by decide⟩).mono ?_
    rw [dayR_no dateB_neg, dateB_neg, if_neg (by simp)]
    rintro e w2 ⟨rfl, hb2⟩
    go_wp2
    go_ret2
    exact retW_none HO.out hb2
  have e8 : ((s.size : Int) == 10) = true := beq_iff_eq.2 (by omega)
  have q4 : (4 : Int) ≤ (s.size : Int) := by omega
  have q5 : (5 : Int) ≤ (s.size : Int) := by omega
  have q7 : (7 : Int) ≤ (s.size : Int) := by omega
  have q8 : (8 : Int) ≤ (s.size : Int) := by omega
  have j4 : 4 < s.size := by omega
  have j7 : 7 < s.size := by omega
  have b4 := byS s 4 j4
  have b7 := byS s 7 j7
  have i4 : (4 : Int) < (s.size : Int) := by omega
  have i7 : (7 : Int) < (s.size : Int) := by omega
  by_cases h4 : ((s[4]'j4).toNat : Int) = 45
  case neg =>
    have f4 : (((s[4]'j4).toNat : Int) == 45) = false := beq_eq_false_iff_ne.2 h4
    have HO := Lib.hid (show O = none by rw [← hO]; exact readO4_no (decide_eq_false (fun h => h4 (by rw [b4]; exact h.2.1))))
    clear hO hl hz b4 b7 h4
    go_enter Tryz.func100, Tryz.ntmps100
    go_wp2_with fail
    refine (within_yes _ _ _ _ ⟨by decide, by decide⟩).mono ?_
    rintro e w1 ⟨rfl, rfl⟩
    go_wp2_with fail
    refine (within_yes _ _ _ _ ⟨p1, p2⟩).mono ?_
    rintro e w1 ⟨rfl, rfl⟩
    go_wp2_with fail
    refine (rDayOf_c _ _ _ _ ⟨by decide, by decide⟩).mono ?_
    rw [dayR_no dateB_neg, dateB_neg, if_neg (by simp)]
    rintro e w2 ⟨rfl, hb2⟩
    go_wp2
    go_ret2
    exact retW_none HO.out hb2
  have f4 : (((s[4]'j4).toNat : Int) == 45) = true := beq_iff_eq.2 h4
  by_cases h7 : ((s[7]'j7).toNat : Int) = 45
  case neg =>
    have f7 : (((s[7]'j7).toNat : Int) == 45) = false := beq_eq_false_iff_ne.2 h7
    have HO := Lib.hid (show O = none by rw [← hO]; exact readO4_no (decide_eq_false (fun h => h7 (by rw [b7]; exact h.2.2))))
    clear hO hl hz b4 b7 h4 h7
    go_enter Tryz.func100, Tryz.ntmps100
    go_wp2_with fail
    refine (within_yes _ _ _ _ ⟨by decide, by decide⟩).mono ?_
    rintro e w1 ⟨rfl, rfl⟩
    go_wp2_with fail
    refine (within_yes _ _ _ _ ⟨p1, p2⟩).mono ?_
    rintro e w1 ⟨rfl, rfl⟩
    go_wp2_with fail
    refine (rDayOf_c _ _ _ _ ⟨by decide, by decide⟩).mono ?_
    rw [dayR_no dateB_neg, dateB_neg, if_neg (by simp)]
    rintro e w2 ⟨rfl, hb2⟩
    go_wp2
    go_ret2
    exact retW_none HO.out hb2
  have f7 : (((s[7]'j7).toNat : Int) == 45) = true := beq_iff_eq.2 h7
  have hpt : pointB s.data.toList = true := decide_eq_true ⟨by omega, by rw [← b4]; exact h4, by rw [← b7]; exact h7⟩
  clear h4 h7 b4 b7
  obtain ⟨A, hA⟩ : ∃ A, s.extract 0 4 = A := ⟨_, rfl⟩
  obtain ⟨B, hB⟩ : ∃ B, s.extract 5 7 = B := ⟨_, rfl⟩
  obtain ⟨C, hC⟩ : ∃ C, s.extract 8 s.size = C := ⟨_, rfl⟩
  have zA : A.size ≤ 4 := by rw [← hA, ByteArray.size_extract]; omega
  have zB : B.size ≤ 2 := by rw [← hB, ByteArray.size_extract]; omega
  have zC : C.size ≤ 4 := by rw [← hC, ByteArray.size_extract]; omega
  have HA := Lib.hid (fun w => rnumber_c A w (by omega))
  have HB := Lib.hid (fun w => rnumber_c B w (by omega))
  have HC := Lib.hid (fun w => rnumber_c C w (by omega))
  obtain ⟨X, hX⟩ : ∃ X, numF A.data.toList = X := ⟨_, rfl⟩
  obtain ⟨Y, hY⟩ : ∃ Y, numF B.data.toList = Y := ⟨_, rfl⟩
  obtain ⟨Z, hZ⟩ : ∃ Z, numF C.data.toList = Z := ⟨_, rfl⟩
  rw [hX] at HA
  rw [hY] at HB
  rw [hZ] at HC
  have x1 := numF_lo A.data.toList
  have x2 := numF_hi (l := A.data.toList) (k := 4) (N := 10000) (by rw [szL]; exact zA) (by decide) (by decide)
  rw [hX] at x1 x2
  have e1 : s.data.toList.take 4 = A.data.toList := by rw [← hA, ext_to]
  have e2 : (s.data.toList.drop 5).take 2 = B.data.toList := by rw [← hB, ext_mid]
  have e3 : s.data.toList.drop 8 = C.data.toList := by rw [← hC, ext_from]
  rw [readO4_yes hpt, e1, e2, e3, hX, hY, hZ] at hO
  clear hX hY hZ e1 e2 e3 zA zB zC hz hl hpt
  cases hd : dateB X Y Z with
  | true =>
    have HD := Lib.hid hd
    have HO := Lib.hid (hO.symm.trans (dayO_yes hd))
    clear hO hd
    go_enter Tryz.func100, Tryz.ntmps100
    go_wp2_with fail
    refine (within_yes _ _ _ _ ⟨by decide, by decide⟩).mono ?_
    rintro e w1 ⟨rfl, rfl⟩
    go_wp2_with fail
    refine (within_yes _ _ _ _ ⟨p1, p2⟩).mono ?_
    rintro e w1 ⟨rfl, rfl⟩
    go_wp2_with fail
    go_quiet (first | (go_at_call_of 161 (Value.string A); exact Calls.quiet_of_same (HA.out _)) | (go_at_call_of 161 (Value.string B); exact Calls.quiet_of_same (HB.out _)) | (go_at_call_of 161 (Value.string C); exact Calls.quiet_of_same (HC.out _)))
    go_wp2_with fail
    refine (rDayOf_c _ _ _ _ ⟨by omega, by omega⟩).mono ?_
    rw [dayR_yes HD.out, HD.out, if_pos rfl]
    rintro e w2 ⟨rfl, hb2⟩
    go_wp2
    go_ret2
    exact retW_some HO.out (below_then hb2 (below_drewN (Below.refl _ _) _) (Nat.le_refl _))
  | false =>
    have HD := Lib.hid hd
    have HO := Lib.hid (hO.symm.trans (dayO_none hd))
    clear hO hd
    go_enter Tryz.func100, Tryz.ntmps100
    go_wp2_with fail
    refine (within_yes _ _ _ _ ⟨by decide, by decide⟩).mono ?_
    rintro e w1 ⟨rfl, rfl⟩
    go_wp2_with fail
    refine (within_yes _ _ _ _ ⟨p1, p2⟩).mono ?_
    rintro e w1 ⟨rfl, rfl⟩
    go_wp2_with fail
    go_quiet (first | (go_at_call_of 161 (Value.string A); exact Calls.quiet_of_same (HA.out _)) | (go_at_call_of 161 (Value.string B); exact Calls.quiet_of_same (HB.out _)) | (go_at_call_of 161 (Value.string C); exact Calls.quiet_of_same (HC.out _)))
    go_wp2_with fail
    refine (rDayOf_c _ _ _ _ ⟨by omega, by omega⟩).mono ?_
    rw [dayR_no HD.out, HD.out, if_neg (by simp)]
    rintro e w2 ⟨rfl, hb2⟩
    go_wp2
    go_ret2
    exact retW_none HO.out (below_then hb2 (below_drewN (Below.refl _ _) _) (Nat.le_refl _))

set_option maxHeartbeats 2000000 in
set_option maxRecDepth 100000 in
theorem rread5_c (s : ByteArray) (pv : Int) (w : World) (hs : s.size ≤ 9223372036854775807) (hp : 1 ≤ pv ∧ pv ≤ 9900) :
    Calls Tryz.prog 100 #[.string s, .int .i64 5, .int .i64 pv] w (RetW (readO 5 pv s.data.toList) w) := by
  obtain ⟨p1, p2⟩ := hp
  have hl := szL s
  obtain ⟨O, hO⟩ : ∃ O, readO 5 pv s.data.toList = O := ⟨_, rfl⟩
  rw [hO]
  by_cases hz : s.size = 7
  case neg =>
    have e8 : ((s.size : Int) == 7) = false := beq_eq_false_iff_ne.2 (by omega)
    have HO := Lib.hid (show O = none by rw [← hO, eqO5, if_neg (by rw [hl]; exact hz)])
    clear hO hl hz
    go_enter Tryz.func100, Tryz.ntmps100
    go_wp2_with fail
    refine (within_yes _ _ _ _ ⟨by decide, by decide⟩).mono ?_
    rintro e w1 ⟨rfl, rfl⟩
    go_wp2_with fail
    refine (within_yes _ _ _ _ ⟨p1, p2⟩).mono ?_
    rintro e w1 ⟨rfl, rfl⟩
    go_wp2_with fail
    refine (rDayOf_c _ _ _ _ ⟨by decide, by decide⟩).mono ?_
    rw [dayR_no dateB_neg, dateB_neg, if_neg (by simp)]
    rintro e w2 ⟨rfl, hb2⟩
    go_wp2
    go_ret2
    exact retW_none HO.out hb2
  have e8 : ((s.size : Int) == 7) = true := beq_iff_eq.2 (by omega)
  have HW := Lib.hid (fun w => readweek_c s w hz)
  rw [eqO5, if_pos (by rw [hl]; exact hz)] at hO
  rw [hO] at HW
  clear hO hl hz
  cases O with
  | none =>
    have HW2 := Lib.hid (show ∀ w, Calls Tryz.prog 162 #[.string s] w (fun e w' => e = .returned (.tuple #[.int .i64 0, .int .i64 10]) ∧ Below w.heap.size w w') from HW.out)
    go_enter Tryz.func100, Tryz.ntmps100
    go_wp2_with fail
    refine (within_yes _ _ _ _ ⟨by decide, by decide⟩).mono ?_
    rintro e w1 ⟨rfl, rfl⟩
    go_wp2_with fail
    refine (within_yes _ _ _ _ ⟨p1, p2⟩).mono ?_
    rintro e w1 ⟨rfl, rfl⟩
    go_wp2_with fail
    refine (HW2.out _).mono ?_
    rintro e w2 ⟨rfl, hb2⟩
    go_wp2
    go_ret2
    exact ⟨rfl, hb2⟩
  | some v =>
    have HW2 := Lib.hid (show ∀ w, Calls Tryz.prog 162 #[.string s] w (fun e w' => e = .returned (.tuple #[.int .i64 v, .int .i64 0]) ∧ Below w.heap.size w w') from HW.out)
    go_enter Tryz.func100, Tryz.ntmps100
    go_wp2_with fail
    refine (within_yes _ _ _ _ ⟨by decide, by decide⟩).mono ?_
    rintro e w1 ⟨rfl, rfl⟩
    go_wp2_with fail
    refine (within_yes _ _ _ _ ⟨p1, p2⟩).mono ?_
    rintro e w1 ⟨rfl, rfl⟩
    go_wp2_with fail
    refine (HW2.out _).mono ?_
    rintro e w2 ⟨rfl, hb2⟩
    go_wp2
    go_ret2
    exact ⟨rfl, hb2⟩
theorem rReadDay_c (s : ByteArray) (form pv : Int) (w : World) (hs : s.size ≤ 9223372036854775807) :
    Calls Tryz.prog 100 #[.string s, .int .i64 form, .int .i64 pv] w (RetNF (rdN form pv s.data.toList) (rdF form pv s.data.toList) w) := by
  cases hf : formB form with
  | false =>
    unfold rdN rdF
    rw [hf, if_neg (by simp), if_pos rfl]
    have h : ¬ (1 ≤ form ∧ form ≤ 5) := of_decide_eq_false hf
    clear hf
    go_enter Tryz.func100, Tryz.ntmps100
    go_wp2_with fail
    refine (within_no _ _ _ _ h).mono ?_
    rintro e w1 ⟨rfl, rfl⟩
    go_wp2
    go_ret2
    exact ⟨rfl, Below.refl _ _⟩
  | true =>
    have h : 1 ≤ form ∧ form ≤ 5 := of_decide_eq_true hf
    by_cases hp : 1 ≤ pv ∧ pv ≤ 9900
    case neg =>
      unfold rdN rdF
      rw [hf, if_neg (fun h => hp h.2), if_neg (by simp), if_pos hp]
      clear hf
      go_enter Tryz.func100, Tryz.ntmps100
      go_wp2_with fail
      refine (within_yes _ _ _ _ h).mono ?_
      rintro e w1 ⟨rfl, rfl⟩
      go_wp2_with fail
      refine (within_no _ _ _ _ hp).mono ?_
      rintro e w1 ⟨rfl, rfl⟩
      go_wp2
      go_ret2
      exact ⟨rfl, Below.refl _ _⟩
    rcases (show form = 1 ∨ form = 2 ∨ form = 3 ∨ form = 4 ∨ form = 5 by omega) with rfl | rfl | rfl | rfl | rfl
    · exact (rread1_c s pv w hs hp).mono fun _ _ h => nf_rd hf hp h
    · exact (rread2_c s pv w hs hp).mono fun _ _ h => nf_rd hf hp h
    · exact (rread3_c s pv w hs hp).mono fun _ _ h => nf_rd hf hp h
    · exact (rread4_c s pv w hs hp).mono fun _ _ h => nf_rd hf hp h
    · exact (rread5_c s pv w hs hp).mono fun _ _ h => nf_rd hf hp h

end Go.Proofs.YtklblmbacnnoeaaGreatDoor
