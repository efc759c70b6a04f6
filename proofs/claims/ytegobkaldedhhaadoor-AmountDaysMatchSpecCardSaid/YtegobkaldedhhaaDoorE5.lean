
/- The walks of days and dates: padded, the text of a day, and months later, in the reference. -/
import Derived.Test.YtegobkaldedhhaaDoorE3
import Derived.Test.YtegobkaldedhhaaDoorE4
namespace Go.Proofs.YtegobkaldedhhaaDoor
open Go.RowKit Limb Work
set_option linter.unusedVariables false
set_option linter.unusedSimpArgs false

set_option maxHeartbeats 1000000 in
set_option maxRecDepth 100000 in
theorem rpadded_c (n : Int) (k : Nat) (K : Int) (w : World) (hK : K = (k : Int)) (h0 : 0 ≤ n) (hk0 : 1 ≤ k) (hk : k ≤ 4) (hn : n.toNat < 10 ^ k) (ht : Tab w) :
    Calls Tryd.prog 107 #[.int .i64 n, .int .i64 K] w (RetS (padS n k) w) := by
  have hnb : n ≤ 9999 := by
    have : 10 ^ k ≤ 10 ^ 4 := Nat.pow_le_pow_right (by decide) hk
    omega
  have hl := dec_len hk0 hn
  obtain ⟨s, hs⟩ : ∃ s : ByteArray, (⟨(Lib.decDigits n.toNat).toArray⟩ : ByteArray) = s := ⟨_, rfl⟩
  have hsl : s.data.toList = Lib.decDigits n.toNat := by rw [← hs]
  have hss : s.size = (Lib.decDigits n.toNat).length := by rw [← hsl]; simp
  rw [← hss] at hl
  obtain ⟨c, hc⟩ : ∃ c : Nat, k - s.size = c := ⟨_, rfl⟩
  have HREP := Lib.hid (Tryd.strings_Repeat ⟨#[48]⟩ c)
  have HP := Lib.hid (show padS n k = (⟨(Lib.repeatL [48] c).toArray⟩ : ByteArray) ++ s by
    unfold padS padN
    rw [← hss, hc, ← hsl, rep_one]
    apply ByteArray.ext
    rw [ByteArray.data_append]
    simp)
  have hI := Lib.hid (fun w => itoa_c n w h0 (by omega)); rw [hs] at hI
  have E1 := Lib.hid (show max (0 : Int) (K - (s.size : Int)) = ((c : Nat) : Int) by omega)
  obtain ⟨r, hr⟩ : ∃ r : ByteArray, (⟨(Lib.repeatL [48] c).toArray⟩ : ByteArray) = r := ⟨_, rfl⟩
  have hrs : r.size = c := by rw [← hr, rep_one]; show (List.replicate c (48 : UInt8)).toArray.size = c; simp
  have HR := Lib.hid hr
  have hcond : ¬ 9223372036854775807 < r.size + s.size := by omega
  have hK4 : 1 ≤ K ∧ K ≤ 4 := by omega
  have hc4 : c ≤ 4 := by omega
  clear hc hss hsl hs hr hrs hK hn hk hk0
  go_enter Tryd.func107, Tryd.ntmps107
  go_wp2_with fail
  refine (hI.out _ ht).mono ?_
  rintro e w1 ⟨rfl, hb1⟩
  go_wp2_with fail
  rw [E1.out]
  refine (HREP.out _ (by omega) (by show 1 * c ≤ _; omega)).mono ?_
  rintro e w2 ⟨rfl, hb2⟩
  rw [show (⟨(Lib.repeatL (⟨#[48]⟩ : ByteArray).data.toList c).toArray⟩ : ByteArray) = r from HR.out]
  go_wp2
  go_ret
  exact ⟨congrArg (fun x => Ending.returned (.string x)) (show r ++ s = padS n k by rw [HP.out, HR.out]), below_then hb2 hb1 hb1.size⟩

set_option maxHeartbeats 2000000 in
set_option maxRecDepth 100000 in
theorem rdaytext_c (day form y m d z zm zd : Int) (w : World) (hform : 1 ≤ form ∧ form ≤ 5) (h1 : 1 ≤ day) (h2 : day ≤ 3652059) (hD : DateIs day y m d) (hZ : DateIs (thu day) z zm zd) (ht : Tab w) :
    Calls Tryd.prog 58 #[.int .i64 day, .int .i64 form] w (RetS (dtS form day y m d z) w) := by
  obtain ⟨⟨y1, y2⟩, ⟨m1, m2⟩, ⟨d1, d2⟩, -, -, -⟩ := hD.facts
  obtain ⟨⟨z1, z2⟩, -, -, -, b1, b2⟩ := hZ.facts
  have hw := wk_bd b1 b2
  have HDI := Lib.hid hD; have HZ := Lib.hid hZ
  clear hD hZ b1 b2
  have hf : form = 1 ∨ form = 2 ∨ form = 3 ∨ form = 4 ∨ form = 5 := by omega
  clear hform
  rcases hf with rfl | rfl | rfl | rfl | rfl
  -- FORMS
  · skip
    have s0 : (padS y 4).size = 4 := padS_size (by omega) (by omega)
    have s1 : (padS m 2).size = 2 := padS_size (by omega) (by omega)
    have s2 : (padS d 2).size = 2 := padS_size (by omega) (by omega)
    have k1 : ¬ 9223372036854775807 < (padS y 4).size + (padS m 2).size := by rw [s0, s1]; decide
    have k2 : ¬ 9223372036854775807 < (padS y 4 ++ padS m 2).size + (padS d 2).size := by rw [ByteArray.size_append, s0, s1, s2]; decide
    clear s0 s1 s2
    go_enter Tryd.func58, Tryd.ntmps58
    go_wp2_with fail
    refine (rdateof_c day y m d _ h1 h2 HDI.out).mono ?_
    rintro e w1 ⟨rfl, rfl⟩
    have hb1 := Below.refl w.heap.size w
    go_wp2_with fail
    refine (rpadded_c y 4 _ _ rfl (by omega) (by decide) (by decide) (by omega) (ht.below hb1)).mono ?_
    rintro e w2 ⟨rfl, hc0⟩
    have hd0 := below_then hc0 hb1 hb1.size
    go_wp2_with fail
    refine (rpadded_c m 2 _ _ rfl (by omega) (by decide) (by decide) (by omega) (ht.below hd0)).mono ?_
    rintro e w3 ⟨rfl, hc1⟩
    have hd1 := below_then hc1 hd0 hd0.size
    go_wp2_with fail
    refine (rpadded_c d 2 _ _ rfl (by omega) (by decide) (by decide) (by omega) (ht.below hd1)).mono ?_
    rintro e w4 ⟨rfl, hc2⟩
    have hd2 := below_then hc2 hd1 hd1.size
    go_wp2
    go_ret
    exact ⟨rfl, hd2⟩
  · skip
    have s0 : (padS (y % 100) 2).size = 2 := padS_size (by omega) (by omega)
    have s1 : (padS m 2).size = 2 := padS_size (by omega) (by omega)
    have s2 : (padS d 2).size = 2 := padS_size (by omega) (by omega)
    have k1 : ¬ 9223372036854775807 < (padS (y % 100) 2).size + (padS m 2).size := by rw [s0, s1]; decide
    have k2 : ¬ 9223372036854775807 < (padS (y % 100) 2 ++ padS m 2).size + (padS d 2).size := by rw [ByteArray.size_append, s0, s1, s2]; decide
    clear s0 s1 s2
    go_enter Tryd.func58, Tryd.ntmps58
    go_wp2_with fail
    refine (rdateof_c day y m d _ h1 h2 HDI.out).mono ?_
    rintro e w1 ⟨rfl, rfl⟩
    have hb1 := Below.refl w.heap.size w
    go_wp2_with fail
    refine (rpadded_c (y % 100) 2 _ _ rfl (by omega) (by decide) (by decide) (by omega) (ht.below hb1)).mono ?_
    rintro e w2 ⟨rfl, hc0⟩
    have hd0 := below_then hc0 hb1 hb1.size
    go_wp2_with fail
    refine (rpadded_c m 2 _ _ rfl (by omega) (by decide) (by decide) (by omega) (ht.below hd0)).mono ?_
    rintro e w3 ⟨rfl, hc1⟩
    have hd1 := below_then hc1 hd0 hd0.size
    go_wp2_with fail
    refine (rpadded_c d 2 _ _ rfl (by omega) (by decide) (by decide) (by omega) (ht.below hd1)).mono ?_
    rintro e w4 ⟨rfl, hc2⟩
    have hd2 := below_then hc2 hd1 hd1.size
    go_wp2
    go_ret
    exact ⟨rfl, hd2⟩
  · skip
    have s0 : (padS d 2).size = 2 := padS_size (by omega) (by omega)
    have s1 : (padS m 2).size = 2 := padS_size (by omega) (by omega)
    have s2 : (padS y 4).size = 4 := padS_size (by omega) (by omega)
    have k1 : ¬ 9223372036854775807 < (padS d 2).size + (padS m 2).size := by rw [s0, s1]; decide
    have k2 : ¬ 9223372036854775807 < (padS d 2 ++ padS m 2).size + (padS y 4).size := by rw [ByteArray.size_append, s0, s1, s2]; decide
    clear s0 s1 s2
    go_enter Tryd.func58, Tryd.ntmps58
    go_wp2_with fail
    refine (rdateof_c day y m d _ h1 h2 HDI.out).mono ?_
    rintro e w1 ⟨rfl, rfl⟩
    have hb1 := Below.refl w.heap.size w
    go_wp2_with fail
    refine (rpadded_c d 2 _ _ rfl (by omega) (by decide) (by decide) (by omega) (ht.below hb1)).mono ?_
    rintro e w2 ⟨rfl, hc0⟩
    have hd0 := below_then hc0 hb1 hb1.size
    go_wp2_with fail
    refine (rpadded_c m 2 _ _ rfl (by omega) (by decide) (by decide) (by omega) (ht.below hd0)).mono ?_
    rintro e w3 ⟨rfl, hc1⟩
    have hd1 := below_then hc1 hd0 hd0.size
    go_wp2_with fail
    refine (rpadded_c y 4 _ _ rfl (by omega) (by decide) (by decide) (by omega) (ht.below hd1)).mono ?_
    rintro e w4 ⟨rfl, hc2⟩
    have hd2 := below_then hc2 hd1 hd1.size
    go_wp2
    go_ret
    exact ⟨rfl, hd2⟩
  · skip
    have s0 : (padS y 4).size = 4 := padS_size (by omega) (by omega)
    have s1 : (padS m 2).size = 2 := padS_size (by omega) (by omega)
    have s2 : (padS d 2).size = 2 := padS_size (by omega) (by omega)
    have k1 : ¬ 9223372036854775807 < (padS y 4).size + (⟨#[45]⟩ : ByteArray).size := by rw [s0]; decide
    have k2 : ¬ 9223372036854775807 < (padS y 4 ++ ⟨#[45]⟩).size + (padS m 2).size := by rw [ByteArray.size_append, s0, s1]; decide
    have k3 : ¬ 9223372036854775807 < (padS y 4 ++ ⟨#[45]⟩ ++ padS m 2).size + (⟨#[45]⟩ : ByteArray).size := by rw [ByteArray.size_append, ByteArray.size_append, s0, s1]; decide
    have k4 : ¬ 9223372036854775807 < (padS y 4 ++ ⟨#[45]⟩ ++ padS m 2 ++ ⟨#[45]⟩).size + (padS d 2).size := by rw [ByteArray.size_append, ByteArray.size_append, ByteArray.size_append, s0, s1, s2]; decide
    clear s0 s1 s2
    go_enter Tryd.func58, Tryd.ntmps58
    go_wp2_with fail
    refine (rdateof_c day y m d _ h1 h2 HDI.out).mono ?_
    rintro e w1 ⟨rfl, rfl⟩
    have hb1 := Below.refl w.heap.size w
    go_wp2_with fail
    refine (rpadded_c y 4 _ _ rfl (by omega) (by decide) (by decide) (by omega) (ht.below hb1)).mono ?_
    rintro e w2 ⟨rfl, hc0⟩
    have hd0 := below_then hc0 hb1 hb1.size
    go_wp2_with fail
    refine (rpadded_c m 2 _ _ rfl (by omega) (by decide) (by decide) (by omega) (ht.below hd0)).mono ?_
    rintro e w3 ⟨rfl, hc1⟩
    have hd1 := below_then hc1 hd0 hd0.size
    go_wp2_with fail
    refine (rpadded_c d 2 _ _ rfl (by omega) (by decide) (by decide) (by omega) (ht.below hd1)).mono ?_
    rintro e w4 ⟨rfl, hc2⟩
    have hd2 := below_then hc2 hd1 hd1.size
    go_wp2
    go_ret
    exact ⟨rfl, hd2⟩
  · skip
    have s0 : (padS z 4).size = 4 := padS_size (by omega) (by omega)
    have s1 : (padS (wk day z) 2).size = 2 := padS_size (by omega) (by omega)
    have s2 : (padS ((day - 1) % 7 + 1) 1).size = 1 := padS_size (by omega) (by omega)
    have k1 : ¬ 9223372036854775807 < (padS z 4).size + (padS (wk day z) 2).size := by rw [s0, s1]; decide
    have k2 : ¬ 9223372036854775807 < (padS z 4 ++ padS (wk day z) 2).size + (padS ((day - 1) % 7 + 1) 1).size := by rw [ByteArray.size_append, s0, s1, s2]; decide
    clear s0 s1 s2
    go_enter Tryd.func58, Tryd.ntmps58
    go_wp2_with fail
    refine (rdateof_c day y m d _ h1 h2 HDI.out).mono ?_
    rintro e w1 ⟨rfl, rfl⟩
    have hb1 := Below.refl w.heap.size w
    go_wp2_with fail
    refine (rweekof_c day z zm zd _ h1 h2 HZ.out).mono ?_
    rintro e w2 ⟨rfl, rfl⟩
    go_wp2_with fail
    refine (rpadded_c z 4 _ _ rfl (by omega) (by decide) (by decide) (by omega) (ht.below hb1)).mono ?_
    rintro e w2 ⟨rfl, hc0⟩
    have hd0 := below_then hc0 hb1 hb1.size
    go_wp2_with fail
    refine (rpadded_c (wk day z) 2 _ _ rfl (by omega) (by decide) (by decide) (by omega) (ht.below hd0)).mono ?_
    rintro e w3 ⟨rfl, hc1⟩
    have hd1 := below_then hc1 hd0 hd0.size
    go_wp2_with fail
    refine (rpadded_c ((day - 1) % 7 + 1) 1 _ _ rfl (by omega) (by decide) (by decide) (by omega) (ht.below hd1)).mono ?_
    rintro e w4 ⟨rfl, hc2⟩
    have hd2 := below_then hc2 hd1 hd1.size
    go_wp2
    go_ret
    exact ⟨rfl, hd2⟩
  -- END FORMS

theorem rDayText_kind (day form : Int) (w : World) (h : formB form = false) : Calls Tryd.prog 17 #[.int .i64 day, .int .i64 form] w (RetSF ⟨#[]⟩ 4 w) := by
  have H := Lib.hid h; clear h
  go_enter Tryd.func17, Tryd.ntmps17
  go_wp2_with fail
  refine (within_c _ _ _ _).mono ?_
  rw [show decide (1 ≤ form ∧ form ≤ 5) = formB form from rfl, H.out]
  rintro e w1 ⟨rfl, rfl⟩
  go_wp2
  go_ret2
  exact ⟨rfl, Below.refl _ _⟩
theorem rDayText_range (day form : Int) (w : World) (h : formB form = true) (hd : dayB day = false) : Calls Tryd.prog 17 #[.int .i64 day, .int .i64 form] w (RetSF ⟨#[]⟩ 1 w) := by
  have H := Lib.hid h; have HD := Lib.hid hd; clear h hd
  go_enter Tryd.func17, Tryd.ntmps17
  go_wp2_with fail
  refine (within_c _ _ _ _).mono ?_
  rw [show decide (1 ≤ form ∧ form ≤ 5) = formB form from rfl, H.out]
  rintro e w1 ⟨rfl, rfl⟩
  go_wp2_with fail
  refine (rday_c _ _).mono ?_
  rw [HD.out]
  rintro e w1 ⟨rfl, rfl⟩
  go_wp2
  go_ret2
  exact ⟨rfl, Below.refl _ _⟩
theorem rDayText_ok (day form y m d z zm zd : Int) (w : World) (h : formB form = true) (h1 : 1 ≤ day) (h2 : day ≤ 3652059) (hD : DateIs day y m d) (hZ : DateIs (thu day) z zm zd) (ht : Tab w) :
    Calls Tryd.prog 17 #[.int .i64 day, .int .i64 form] w (RetSF (dtS form day y m d z) 0 w) := by
  have H := Lib.hid h; have HD := Lib.hid (dayB_mk ⟨h1, h2⟩)
  have hform := of_decide_eq_true h
  clear h
  go_enter Tryd.func17, Tryd.ntmps17
  go_wp2_with fail
  refine (within_c _ _ _ _).mono ?_
  rw [show decide (1 ≤ form ∧ form ≤ 5) = formB form from rfl, H.out]
  rintro e w1 ⟨rfl, rfl⟩
  go_wp2_with fail
  refine (rday_c _ _).mono ?_
  rw [HD.out]
  rintro e w1 ⟨rfl, rfl⟩
  go_wp2_with fail
  refine (rdaytext_c day form y m d z zm zd _ hform h1 h2 hD hZ ht).mono ?_
  rintro e w1 ⟨rfl, hb1⟩
  go_wp2
  go_ret2
  exact ⟨rfl, hb1⟩

/-! ### Months later -/
theorem later_range {day k y m d : Int} (h : ¬ (1 ≤ day ∧ day ≤ 3652059) ∨ ¬ (-120000 ≤ k ∧ k ≤ 120000)) : laterF day k y m d = (0, 1) := if_pos h
theorem later_in {day k y m d : Int} (h : (1 ≤ day ∧ day ≤ 3652059) ∧ (-120000 ≤ k ∧ k ≤ 120000)) : laterF day k y m d = monF y m d k := if_neg (by omega)
def RetP (p : Int × Int) (w : World) (e : Ending) (w' : World) : Prop := e = .returned (.tuple #[.int .i64 p.1, .int .i64 p.2]) ∧ Below w.heap.size w w'
theorem min_dim {y m d : Int} (hd : 1 ≤ d ∧ d ≤ 31) : 1 ≤ min d (dim y m) ∧ min d (dim y m) ≤ dim y m ∧ min d (dim y m) ≤ 31 := by have := dim_bd y m; omega
set_option maxHeartbeats 2000000 in
set_option maxRecDepth 100000 in
theorem later_c (day k y m d : Int) (w : World) (hd : dayB day = true → DateIs day y m d) :
    Calls Tryd.prog 18 #[.int .i64 day, .int .i64 k] w (RetP (laterF day k y m d) w) := by
  by_cases h1 : 1 ≤ day ∧ day ≤ 3652059
  case neg =>
    rw [later_range (.inl h1)]
    have HD := Lib.hid (dayB_not h1)
    clear h1 hd
    go_enter Tryd.func18, Tryd.ntmps18
    go_wp2_with fail
    refine (isday_c _ _).mono ?_
    rw [HD.out]
    rintro e w1 ⟨rfl, rfl⟩
    go_wp2
    go_ret2
    exact ⟨rfl, Below.refl _ _⟩
  have HD := Lib.hid (dayB_mk h1)
  by_cases h2 : -120000 ≤ k ∧ k ≤ 120000
  case neg =>
    rw [later_range (.inr h2)]
    clear hd
    go_enter Tryd.func18, Tryd.ntmps18
    go_wp2_with fail
    refine (isday_c _ _).mono ?_
    rw [HD.out]
    rintro e w1 ⟨rfl, rfl⟩
    go_wp2_with fail
    refine (out_yes _ _ _ _ h2).mono ?_
    rintro e w1 ⟨rfl, rfl⟩
    go_wp2
    go_ret2
    exact ⟨rfl, Below.refl _ _⟩
  have hD := hd HD.out
  rw [later_in ⟨h1, h2⟩]
  obtain ⟨⟨y1, y2⟩, ⟨m1, m2⟩, ⟨d1, d2⟩, -, -, -⟩ := hD.facts
  have HDI := Lib.hid hD; clear hD hd
  have hk1 := h2.1; have hk2 := h2.2
  obtain ⟨N, hN⟩ : ∃ N, y * 12 + m - 1 + k = N := ⟨_, rfl⟩
  have hMN : monN y m k = N := by unfold monN; omega
  have hNb : -120000 ≤ N ∧ N ≤ 240000 := by omega
  have EN := Lib.hid hN
  by_cases h3 : N < 12
  · have E := Lib.hid (show monF y m d k = (0, 1) from if_pos (by rw [hMN]; exact .inl h3))
    rw [E.out]
    clear hN hMN
    go_enter Tryd.func18, Tryd.ntmps18
    go_wp2_with fail
    refine (isday_c _ _).mono ?_
    rw [HD.out]
    rintro e w1 ⟨rfl, rfl⟩
    go_wp2_with fail
    refine (out_no _ _ _ _ h2).mono ?_
    rintro e w1 ⟨rfl, rfl⟩
    go_wp2_with fail
    refine (dateof_c day y m d _ h1.1 h1.2 HDI.out).mono ?_
    rintro e w1 ⟨rfl, hb1⟩
    have h3' : y * 12 + m - 1 + k < 12 := by have := EN.out; omega
    go_wp2
    go_ret2
    exact ⟨rfl, hb1⟩
  by_cases h4 : 9999 < N / 12
  · have E := Lib.hid (show monF y m d k = (0, 1) from if_pos (by rw [hMN]; exact .inr h4))
    rw [E.out]
    clear hN hMN
    have h3' : ¬ y * 12 + m - 1 + k < 12 := by have := EN.out; omega
    have h4' : 9999 < (y * 12 + m - 1 + k) / 12 := by have := EN.out; omega
    have h5' : 0 ≤ y * 12 + m - 1 + k := by omega
    go_enter Tryd.func18, Tryd.ntmps18
    go_wp2_with fail
    refine (isday_c _ _).mono ?_
    rw [HD.out]
    rintro e w1 ⟨rfl, rfl⟩
    go_wp2_with fail
    refine (out_no _ _ _ _ h2).mono ?_
    rintro e w1 ⟨rfl, rfl⟩
    go_wp2_with fail
    refine (dateof_c day y m d _ h1.1 h1.2 HDI.out).mono ?_
    rintro e w1 ⟨rfl, hb1⟩
    go_wp2
    go_ret2
    exact ⟨rfl, hb1⟩
  have hmin := min_dim (y := N / 12) (m := N % 12 + 1) ⟨d1, d2⟩
  have HB := Lib.hid (dateB_mk (y := N / 12) (m := N % 12 + 1) (d := min d (dim (N / 12) (N % 12 + 1))) ⟨by omega, by omega, by omega⟩)
  have E := Lib.hid (show monF y m d k = (num (N / 12) (N % 12 + 1) (min d (dim (N / 12) (N % 12 + 1))), 0) by unfold monF; rw [hMN, if_neg (by omega)])
  rw [E.out]
  clear hN hMN
  have h3' : ¬ y * 12 + m - 1 + k < 12 := by have := EN.out; omega
  have h4' : ¬ 9999 < (y * 12 + m - 1 + k) / 12 := by have := EN.out; omega
  have h5' : 0 ≤ y * 12 + m - 1 + k := by omega
  go_enter Tryd.func18, Tryd.ntmps18
  go_wp2_with fail
  refine (isday_c _ _).mono ?_
  rw [HD.out]
  rintro e w1 ⟨rfl, rfl⟩
  go_wp2_with fail
  refine (out_no _ _ _ _ h2).mono ?_
  rintro e w1 ⟨rfl, rfl⟩
  go_wp2_with fail
  refine (dateof_c day y m d _ h1.1 h1.2 HDI.out).mono ?_
  rintro e w1 ⟨rfl, hb1⟩
  go_wp2_with fail
  rw [EN.out]
  refine (daysof_c _ _ _ (by omega) (by omega)).mono ?_
  rintro e w2 ⟨hb2, rfl⟩
  have hd := dim_bd (N / 12) (N % 12 + 1)
  have hbb := below_then hb2 hb1 hb1.size
  go_wp2_with fail
  refine (dayof_c (N / 12) (N % 12 + 1) (min d (dim (N / 12) (N % 12 + 1))) _ (by omega)).mono ?_
  rw [HB.out, dayR_yes HB.out]
  rintro e w3 ⟨rfl, hb3⟩
  go_wp2
  go_ret2
  exact ⟨rfl, below_then hb3 hbb hbb.size⟩
end Go.Proofs.YtegobkaldedhhaaDoor
