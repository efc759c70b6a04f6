
/- The walks of days and dates: months later in the reference. -/
import Derived.Test.YtegobkaldedhhaaDoorE5
namespace Go.Proofs.YtegobkaldedhhaaDoor
open Go.RowKit Limb Work
set_option linter.unusedVariables false
set_option linter.unusedSimpArgs false

set_option maxHeartbeats 2000000 in
set_option maxRecDepth 100000 in
theorem rlater_c (day k y m d : Int) (w : World) (hd : dayB day = true → DateIs day y m d) :
    Calls Tryd.prog 19 #[.int .i64 day, .int .i64 k] w (RetP (laterF day k y m d) w) := by
  by_cases h1 : 1 ≤ day ∧ day ≤ 3652059
  case neg =>
    rw [later_range (.inl h1)]
    have HD := Lib.hid (dayB_not h1)
    clear h1 hd
    go_enter Tryd.func19, Tryd.ntmps19
    go_wp2_with fail
    refine (rday_c _ _).mono ?_
    rw [HD.out]
    rintro e w1 ⟨rfl, rfl⟩
    go_wp2
    go_ret2
    exact ⟨rfl, Below.refl _ _⟩
  have HD := Lib.hid (dayB_mk h1)
  by_cases h2 : -120000 ≤ k ∧ k ≤ 120000
  case neg =>
    rw [later_range (.inr h2)]
    have H2 := Lib.hid (show decide (-120000 ≤ k ∧ k ≤ 120000) = false from decide_eq_false h2)
    clear hd h2
    go_enter Tryd.func19, Tryd.ntmps19
    go_wp2_with fail
    refine (rday_c _ _).mono ?_
    rw [HD.out]
    rintro e w1 ⟨rfl, rfl⟩
    go_wp2_with fail
    refine (within_c _ _ _ _).mono ?_
    rw [H2.out]
    rintro e w1 ⟨rfl, rfl⟩
    go_wp2
    go_ret2
    exact ⟨rfl, Below.refl _ _⟩
  have H2 := Lib.hid (show decide (-120000 ≤ k ∧ k ≤ 120000) = true from decide_eq_true h2)
  have hD := hd HD.out
  rw [later_in ⟨h1, h2⟩]
  obtain ⟨⟨y1, y2⟩, ⟨m1, m2⟩, ⟨d1, d2⟩, -, -, -⟩ := hD.facts
  have HDI := Lib.hid hD; clear hD hd
  have hk1 := h2.1; have hk2 := h2.2
  obtain ⟨N, hN⟩ : ∃ N, 12 * y + m - 1 + k = N := ⟨_, rfl⟩
  have hMN : monN y m k = N := by unfold monN; omega
  have hNb : -120000 ≤ N ∧ N ≤ 240000 := by omega
  have EN := Lib.hid hN
  by_cases h3 : N < 12
  · have E := Lib.hid (show monF y m d k = (0, 1) from if_pos (by rw [hMN]; exact .inl h3))
    rw [E.out]
    clear hN hMN
    go_enter Tryd.func19, Tryd.ntmps19
    go_wp2_with fail
    refine (rday_c _ _).mono ?_
    rw [HD.out]
    rintro e w1 ⟨rfl, rfl⟩
    go_wp2_with fail
    refine (within_c _ _ _ _).mono ?_
    rw [H2.out]
    rintro e w1 ⟨rfl, rfl⟩
    go_wp2_with fail
    refine (rdateof_c day y m d _ h1.1 h1.2 HDI.out).mono ?_
    rintro e w1 ⟨rfl, rfl⟩
    have h3' : 12 * y + m - 1 + k < 12 := by have := EN.out; omega
    go_wp2
    go_ret2
    exact ⟨rfl, Below.refl _ _⟩
  by_cases h4 : 9999 < N / 12
  · have E := Lib.hid (show monF y m d k = (0, 1) from if_pos (by rw [hMN]; exact .inr h4))
    rw [E.out]
    clear hN hMN
    have h3' : ¬ 12 * y + m - 1 + k < 12 := by have := EN.out; omega
    have h4' : 9999 < (12 * y + m - 1 + k) / 12 := by have := EN.out; omega
    have h5' : 0 ≤ 12 * y + m - 1 + k := by omega
    go_enter Tryd.func19, Tryd.ntmps19
    go_wp2_with fail
    refine (rday_c _ _).mono ?_
    rw [HD.out]
    rintro e w1 ⟨rfl, rfl⟩
    go_wp2_with fail
    refine (within_c _ _ _ _).mono ?_
    rw [H2.out]
    rintro e w1 ⟨rfl, rfl⟩
    go_wp2_with fail
    refine (rdateof_c day y m d _ h1.1 h1.2 HDI.out).mono ?_
    rintro e w1 ⟨rfl, rfl⟩
    go_wp2
    go_ret2
    exact ⟨rfl, Below.refl _ _⟩
  have hmin := min_dim (y := N / 12) (m := N % 12 + 1) ⟨d1, d2⟩
  have E := Lib.hid (show monF y m d k = (num (N / 12) (N % 12 + 1) (min d (dim (N / 12) (N % 12 + 1))), 0) by unfold monF; rw [hMN, if_neg (by omega)])
  rw [E.out]
  clear hN hMN
  have h3' : ¬ 12 * y + m - 1 + k < 12 := by have := EN.out; omega
  have h4' : ¬ 9999 < (12 * y + m - 1 + k) / 12 := by have := EN.out; omega
  have h5' : 0 ≤ 12 * y + m - 1 + k := by omega
  go_enter Tryd.func19, Tryd.ntmps19
  go_wp2_with fail
  refine (rday_c _ _).mono ?_
  rw [HD.out]
  rintro e w1 ⟨rfl, rfl⟩
  go_wp2_with fail
  refine (within_c _ _ _ _).mono ?_
  rw [H2.out]
  rintro e w1 ⟨rfl, rfl⟩
  go_wp2_with fail
  refine (rdateof_c day y m d _ h1.1 h1.2 HDI.out).mono ?_
  rintro e w1 ⟨rfl, rfl⟩
  go_wp2_with fail
  rw [EN.out]
  refine (rdaysof_c _ _ _ (by omega) (by omega)).mono ?_
  rintro e w2 ⟨rfl, rfl⟩
  have hd := dim_bd (N / 12) (N % 12 + 1)
  go_wp2_with fail
  refine (rdayof_c (N / 12) (N % 12 + 1) (min d (dim (N / 12) (N % 12 + 1))) _ (by omega) (by omega) (by omega)).mono ?_
  rintro e w3 ⟨rfl, rfl⟩
  go_wp2
  go_ret2
  exact ⟨rfl, Below.refl _ _⟩
end Go.Proofs.YtegobkaldedhhaaDoor
