
/- Plain facts on dates: years, months and the number of a day. No program in sight. -/
namespace Go.Proofs.YtlkidhfjkgppoaaDoor.Work

def leapB (y : Int) : Bool := decide (y % 4 = 0 ∧ (y % 100 ≠ 0 ∨ y % 400 = 0))
theorem leapB_yes {y : Int} (h : leapB y = true) : y % 4 = 0 ∧ (y % 100 ≠ 0 ∨ y % 400 = 0) := by simpa [leapB] using h
theorem leapB_no {y : Int} (h : leapB y = false) : ¬ (y % 4 = 0 ∧ (y % 100 ≠ 0 ∨ y % 400 = 0)) := of_decide_eq_false h
/-- The days of a month. -/
def dim (y m : Int) : Int := if m = 2 then (if leapB y = true then 29 else 28) else if m = 4 ∨ m = 6 ∨ m = 9 ∨ m = 11 then 30 else 31
theorem dim_bd (y m : Int) : 28 ≤ dim y m ∧ dim y m ≤ 31 := by unfold dim; split <;> split <;> omega
/-- The days before a year. -/
def bef (y : Int) : Int := 365 * (y - 1) + (y - 1) / 4 - (y - 1) / 100 + (y - 1) / 400
/-- The days of the first months of a year. -/
def cum (y : Int) : Nat → Int
  | 0 => 0
  | k + 1 => cum y k + dim y ((k : Int) + 1)
theorem cum_12 (y : Int) : cum y 12 = 365 + if leapB y = true then 1 else 0 := by
  simp only [cum, dim]
  simp
  split <;> omega
theorem bef_succ (y : Int) : bef (y + 1) = bef y + cum y 12 := by
  rw [cum_12]
  unfold bef
  by_cases h : leapB y = true
  · rw [if_pos h]
    have := leapB_yes h
    omega
  · rw [if_neg h]
    have := leapB_no (by simpa using h)
    omega
theorem cum_12_bd (y : Int) : 365 ≤ cum y 12 ∧ cum y 12 ≤ 366 := by rw [cum_12]; split <;> omega
theorem cum_lt (y : Int) {i j : Nat} (h : i < j) : cum y i + 28 ≤ cum y j := by
  obtain ⟨k, rfl⟩ : ∃ k, j = i + k + 1 := ⟨j - i - 1, by omega⟩
  clear h
  induction k with
  | zero => rw [Nat.add_zero, cum]; have := dim_bd y ((i : Int) + 1); omega
  | succ k ih =>
    rw [show i + (k + 1) + 1 = i + k + 1 + 1 by omega, cum]
    have := dim_bd y (((i + k + 1 : Nat) : Int) + 1)
    omega
theorem cum_le (y : Int) {i j : Nat} (h : i ≤ j) : cum y i ≤ cum y j := by
  rcases Nat.eq_or_lt_of_le h with e | e
  · rw [e]; exact Int.le_refl _
  · have := cum_lt y e; omega
theorem bef_mono {a b : Int} (h : a ≤ b) : bef a ≤ bef b := by unfold bef; omega
theorem bef_guess {day : Int} (h : 1 ≤ day) : bef (day / 366 + 1) < day := by unfold bef; omega
theorem bef_guess_le {day : Int} (h : 1 ≤ day) (h2 : day ≤ 3652059) : 1 ≤ day / 366 + 1 ∧ day / 366 + 1 ≤ 9999 := by omega
theorem bef_end : bef 10000 = 3652059 := by decide
theorem bef_bd {y : Int} (h : 1 ≤ y) (h2 : y ≤ 10000) : 0 ≤ bef y ∧ bef y ≤ 3652059 := by unfold bef; omega

/-- The number of a date. -/
def num (y m d : Int) : Int := bef y + cum y (m - 1).toNat + d
/-- There is such a date. -/
def dateB (y m d : Int) : Bool := decide ((1 ≤ y ∧ y ≤ 9999) ∧ (1 ≤ m ∧ m ≤ 12) ∧ (1 ≤ d ∧ d ≤ dim y m))
theorem dateB_yes {y m d : Int} (h : dateB y m d = true) : (1 ≤ y ∧ y ≤ 9999) ∧ (1 ≤ m ∧ m ≤ 12) ∧ (1 ≤ d ∧ d ≤ dim y m) := of_decide_eq_true h
theorem dateB_no {y m d : Int} (h : dateB y m d = false) : ¬ ((1 ≤ y ∧ y ≤ 9999) ∧ (1 ≤ m ∧ m ≤ 12) ∧ (1 ≤ d ∧ d ≤ dim y m)) := of_decide_eq_false h
theorem dateB_mk {y m d : Int} (h : (1 ≤ y ∧ y ≤ 9999) ∧ (1 ≤ m ∧ m ≤ 12) ∧ (1 ≤ d ∧ d ≤ dim y m)) : dateB y m d = true := decide_eq_true h
theorem dateB_not {y m d : Int} (h : ¬ ((1 ≤ y ∧ y ≤ 9999) ∧ (1 ≤ m ∧ m ≤ 12) ∧ (1 ≤ d ∧ d ≤ dim y m))) : dateB y m d = false := decide_eq_false h

theorem num_year {y m d : Int} (h : dateB y m d = true) : bef y < num y m d ∧ num y m d ≤ bef (y + 1) := by
  obtain ⟨h1, h2, h3⟩ := dateB_yes h
  obtain ⟨k, rfl⟩ : ∃ k : Nat, m = (k : Int) + 1 := ⟨(m - 1).toNat, by omega⟩
  have e : ((k : Int) + 1 - 1).toNat = k := by omega
  unfold num
  rw [e, bef_succ]
  have a := cum_le y (i := 0) (j := k) (by omega)
  have b := cum_le y (i := k + 1) (j := 12) (by omega)
  rw [cum] at a
  rw [cum] at b
  omega
theorem num_day {y m d : Int} (h : dateB y m d = true) : 1 ≤ num y m d ∧ num y m d ≤ 3652059 := by
  have h1 := num_year h
  have h2 := dateB_yes h
  have a := bef_bd (y := y) (by omega) (by omega)
  have b := bef_bd (y := y + 1) (by omega) (by omega)
  omega
/-- The date of a day. -/
def DateIs (day y m d : Int) : Prop := dateB y m d = true ∧ num y m d = day
theorem year_unique {a b day : Int} (h1 : bef a < day) (h2 : day ≤ bef (a + 1)) (h3 : bef b < day) (h4 : day ≤ bef (b + 1)) : a = b := by
  rcases Int.lt_trichotomy a b with h | h | h
  · have := bef_mono (a := a + 1) (b := b) (by omega); omega
  · exact h
  · have := bef_mono (a := b + 1) (b := a) (by omega); omega
theorem DateIs.unique {day y m d y' m' d' : Int} (h : DateIs day y m d) (h' : DateIs day y' m' d') : y = y' ∧ m = m' ∧ d = d' := by
  obtain ⟨h1, h2⟩ := h
  obtain ⟨h3, h4⟩ := h'
  have a := num_year h1
  have b := num_year h3
  rw [h2] at a
  rw [h4] at b
  obtain rfl := year_unique a.1 a.2 b.1 b.2
  obtain ⟨_, p2, p3⟩ := dateB_yes h1
  obtain ⟨_, q2, q3⟩ := dateB_yes h3
  obtain ⟨k, rfl⟩ : ∃ k : Nat, m = (k : Int) + 1 := ⟨(m - 1).toNat, by omega⟩
  obtain ⟨j, rfl⟩ : ∃ k : Nat, m' = (k : Int) + 1 := ⟨(m' - 1).toNat, by omega⟩
  have e1 : ((k : Int) + 1 - 1).toNat = k := by omega
  have e2 : ((j : Int) + 1 - 1).toNat = j := by omega
  unfold num at h2 h4
  rw [e1] at h2
  rw [e2] at h4
  have hk : k = j := by
    rcases Nat.lt_trichotomy k j with h | h | h
    · have := cum_le y (i := k + 1) (j := j) (by omega)
      rw [cum] at this
      omega
    · exact h
    · have := cum_le y (i := j + 1) (j := k) (by omega)
      rw [cum] at this
      omega
  subst hk
  refine ⟨rfl, rfl, ?_⟩
  omega

end Go.Proofs.YtlkidhfjkgppoaaDoor.Work
