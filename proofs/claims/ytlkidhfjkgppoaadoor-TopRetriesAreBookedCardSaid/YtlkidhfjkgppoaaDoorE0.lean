
/- Plain facts on dates: each day has a date; weeks; months later. No program in sight. -/
import Derived.Test.YtlkidhfjkgppoaaDoorD2
namespace Go.Proofs.YtlkidhfjkgppoaaDoor.Work

theorem year_ex {day : Int} (h2 : day ≤ 3652059) : ∀ (n : Nat) (y : Int), y + n = 9999 → bef y < day → ∃ z, y ≤ z ∧ z ≤ 9999 ∧ bef z < day ∧ day ≤ bef (z + 1)
  | 0, y, hn, hb => ⟨y, by omega, by omega, hb, by rw [show y + 1 = 10000 by omega, bef_end]; exact h2⟩
  | n + 1, y, hn, hb => by
    by_cases h : day ≤ bef (y + 1)
    · exact ⟨y, by omega, by omega, hb, h⟩
    · obtain ⟨z, h3, h4, h5, h6⟩ := year_ex h2 n (y + 1) (by omega) (by omega)
      exact ⟨z, by omega, h4, h5, h6⟩
theorem month_ex {y r : Int} (hr : r ≤ cum y 12) : ∀ (n k : Nat), k + n = 11 → cum y k < r → ∃ j : Nat, k ≤ j ∧ j ≤ 11 ∧ cum y j < r ∧ r ≤ cum y (j + 1)
  | 0, k, hn, hb => ⟨k, by omega, by omega, hb, by rw [show k + 1 = 12 by omega]; exact hr⟩
  | n + 1, k, hn, hb => by
    by_cases h : r ≤ cum y (k + 1)
    · exact ⟨k, by omega, by omega, hb, h⟩
    · obtain ⟨z, h3, h4, h5, h6⟩ := month_ex hr n (k + 1) (by omega) (by omega)
      exact ⟨z, by omega, h4, h5, h6⟩
theorem date_ex {day : Int} (h : 1 ≤ day) (h2 : day ≤ 3652059) : ∃ y m d, DateIs day y m d := by
  obtain ⟨y, y1, y2, y3, y4⟩ := year_ex h2 9998 1 (by omega) (by have : bef 1 = 0 := by decide
                                                                 omega)
  rw [bef_succ] at y4
  obtain ⟨k, -, k2, k3, k4⟩ := month_ex (y := y) (r := day - bef y) (by omega) 11 0 (by omega) (by rw [cum]; omega)
  rw [cum] at k4
  refine ⟨y, (k : Int) + 1, day - bef y - cum y k, dateB_mk ⟨by omega, by omega, by omega, by omega⟩, ?_⟩
  unfold num
  rw [show ((k : Int) + 1 - 1).toNat = k by omega]
  omega
/-- What is known of the date of a day. -/
theorem DateIs.facts {day y m d : Int} (h : DateIs day y m d) : (1 ≤ y ∧ y ≤ 9999) ∧ (1 ≤ m ∧ m ≤ 12) ∧ (1 ≤ d ∧ d ≤ 31) ∧ d ≤ dim y m ∧ bef y < day ∧ day ≤ bef (y + 1) := by
  obtain ⟨h1, h2⟩ := h
  have a := num_year h1
  have b := dateB_yes h1
  have c := dim_bd y m
  rw [h2] at a
  exact ⟨b.1, b.2.1, by omega, by omega, a.1, a.2⟩

/-- The Thursday of the week of a day. -/
def thu (day : Int) : Int := day - (day - 1) % 7 + 3
theorem thu_bd {day : Int} (h : 1 ≤ day) (h2 : day ≤ 3652059) : 1 ≤ thu day ∧ thu day ≤ 3652059 := by unfold thu; omega
theorem thu_ex {day : Int} (h : 1 ≤ day) (h2 : day ≤ 3652059) : ∃ y m d, DateIs (thu day) y m d := by
  have := thu_bd h h2
  exact date_ex this.1 this.2
/-- The number of the week of a day whose Thursday is in a year. -/
def wk (day y : Int) : Int := (thu day - bef y - 1) / 7 + 1
theorem wk_bd {day y : Int} (h : bef y < thu day) (h2 : thu day ≤ bef (y + 1)) : 1 ≤ wk day y ∧ wk day y ≤ 53 := by
  have a := bef_succ y
  have b := cum_12_bd y
  unfold wk
  omega

/-- The months since the year 0, so many months later. -/
def monN (y m k : Int) : Int := 12 * y + m - 1 + k
def monF (y m d k : Int) : Int × Int :=
  if monN y m k < 12 ∨ 9999 < monN y m k / 12 then (0, 1)
  else (num (monN y m k / 12) (monN y m k % 12 + 1) (min d (dim (monN y m k / 12) (monN y m k % 12 + 1))), 0)
def laterF (day k y m d : Int) : Int × Int := if ¬ (1 ≤ day ∧ day ≤ 3652059) ∨ ¬ (-120000 ≤ k ∧ k ≤ 120000) then (0, 1) else monF y m d k

end Go.Proofs.YtlkidhfjkgppoaaDoor.Work
