
/- Plain facts on rounding: what Rounded comes to, and that it is near. No program in sight. -/
import Derived.Test.YtegabimiegdcjaaN1
namespace Go.Proofs.Ytegabimiegdcjaa
open Go.RowKit Limb

/-- What Rounded comes to: units, places, fault. -/
def roundedR (u p q v : Int) : Int × Int × Int :=
  if decB u p = false then (0, 0, 1)
  else if ¬ (0 ≤ q ∧ q ≤ 9) then (0, 0, 1)
  else if ¬ (1 ≤ v ∧ v ≤ 6) then (0, 0, 4)
  else made (rnd (scaled u p 9) (10 ^ (9 - q.toNat)) v) q

theorem made_cases (z p : Int) : (made z p = (z, p, 0) ∧ z.natAbs ≤ 1000000000000000) ∨ made z p = (0, 0, 1) := by
  unfold made
  split
  · rename_i h; exact .inl ⟨rfl, h⟩
  · exact .inr rfl
theorem roundedR_fault {u p q v x y f : Int} (h : roundedR u p q v = (x, y, f)) (hf : f ≠ 0) : x = 0 := by
  unfold roundedR at h
  repeat' split at h
  · simp at h; exact h.1.symm
  · simp at h; exact h.1.symm
  · simp at h; exact h.1.symm
  · rcases made_cases (rnd (scaled u p 9) (10 ^ (9 - q.toNat)) v) q with ⟨h1, _⟩ | h1
    · rw [h1] at h; simp at h; exact absurd h.2.2.symm hf
    · rw [h1] at h; simp at h; exact h.1.symm
theorem roundedR_ok {u p q v x y : Int} (h : roundedR u p q v = (x, y, 0)) : decB u p = true ∧ (0 ≤ q ∧ q ≤ 9) ∧ (1 ≤ v ∧ v ≤ 6) ∧ y = q ∧ x = rnd (scaled u p 9) (10 ^ (9 - q.toNat)) v ∧ x.natAbs ≤ 1000000000000000 := by
  unfold roundedR at h
  repeat' split at h
  · simp at h
  · simp at h
  · simp at h
  · rename_i h1 h2 h3
    rcases made_cases (rnd (scaled u p 9) (10 ^ (9 - q.toNat)) v) q with ⟨h4, h5⟩ | h4
    · rw [h4] at h
      simp at h
      obtain ⟨rfl, rfl⟩ := h
      exact ⟨by simpa using h1, by omega, by omega, rfl, rfl, h5⟩
    · rw [h4] at h; simp at h

/-- A rounded number is near the number, on the side of its way. -/
theorem rnd_near (a : Int) {b : Nat} (hb : 0 < b) (v : Int) : (rnd a b v * b - a).natAbs < b ∧ (v = 5 → rnd a b v * b ≤ a) ∧ (v = 6 → a ≤ rnd a b v * b) ∧ (v = 3 → (0 < a → rnd a b v * b ≤ a) ∧ (a < 0 → a ≤ rnd a b v * b)) ∧ (v = 4 → (0 < a → a ≤ rnd a b v * b) ∧ (a < 0 → rnd a b v * b ≤ a)) := by
  have hd := Nat.div_add_mod a.natAbs b
  have hr := Nat.mod_lt a.natAbs hb
  unfold rnd
  simp only
  generalize a.natAbs / b = q at *
  generalize a.natAbs % b = r at *
  have key : ∀ m : Nat, ((m : Int) * (b : Int)) = ((b * m : Nat) : Int) := fun m => by rw [Int.natCast_mul, Int.mul_comm]
  cases hU : upB q r b (decide (a < 0)) v with
  | false =>
    have hz : v = 4 ∨ (v = 5 ∧ a < 0) ∨ (v = 6 ∧ ¬ a < 0) → r = 0 := by
      intro hv
      rcases Nat.eq_zero_or_pos r with h | h
      · exact h
      · have hne : r ≠ 0 := by omega
        rcases hv with rfl | ⟨rfl, h2⟩ | ⟨rfl, h2⟩
        · simp [upB, hne] at hU
        · simp [upB, hne, h2] at hU
        · simp [upB, hne] at hU; omega
    simp only [Bool.false_eq_true, if_false, Nat.add_zero]
    split
    · rw [Int.neg_mul, key]
      omega
    · rw [key]
      omega
  | true =>
    have hr0 : 0 < r := by
      rcases Nat.eq_zero_or_pos r with h | h
      · subst h; rw [upB_zero] at hU; cases hU
      · exact h
    have hv : v ≠ 3 ∧ (v = 5 → a < 0) ∧ (v = 6 → ¬ a < 0) := by
      refine ⟨?_, ?_, ?_⟩
      · rintro rfl; simp [upB] at hU
      · rintro rfl
        have hne : r ≠ 0 := by omega
        simpa [upB, hne] using hU
      · rintro rfl
        have hne : r ≠ 0 := by omega
        simpa [upB, hne] using hU
    simp only [if_true]
    have hm : b * (q + 1) = b * q + b := by rw [Nat.mul_add, Nat.mul_one]
    split
    · rw [Int.neg_mul, key, hm]
      omega
    · rw [key, hm]
      omega
/-- What is a multiple stays. -/
theorem rnd_mul (x : Int) {b : Nat} (hb : 0 < b) (v : Int) : rnd (x * b) b v = x := by
  unfold rnd
  simp only
  have e : (x * (b : Int)).natAbs = x.natAbs * b := by rw [Int.natAbs_mul, Int.natAbs_natCast]
  rw [e, Nat.mul_div_cancel _ hb, Nat.mul_mod_left, upB_zero]
  simp only [Bool.false_eq_true, if_false, Nat.add_zero]
  have h1 : x * (b : Int) < 0 ↔ x < 0 := by
    constructor
    · intro h
      by_cases h2 : x < 0
      · exact h2
      · have := Int.mul_nonneg (show 0 ≤ x by omega) (Int.natCast_nonneg b); omega
    · intro h
      exact Int.mul_neg_of_neg_of_pos h (by omega)
  split
  · rename_i h; have := h1.1 h; omega
  · rename_i h
    have : ¬ x < 0 := fun h2 => h (h1.2 h2)
    omega
theorem scaled_at (x q : Int) : scaled x q 9 = x * ((10 ^ (9 - q.toNat) : Nat) : Int) := rfl
theorem roundedR_again {u p q v x y : Int} (h : roundedR u p q v = (x, y, 0)) : roundedR x y q v = (x, y, 0) := by
  obtain ⟨_, h2, h3, rfl, h5, h6⟩ := roundedR_ok h
  have hd : decB x y = true := decB_mk (by omega)
  unfold roundedR
  rw [if_neg (by rw [hd]; simp), if_neg (fun h => h h2), if_neg (fun h => h h3), scaled_at, rnd_mul _ (Nat.pow_pos (by omega))]
  unfold made
  rw [if_pos h6]
theorem roundedR_dec {u p q v x y : Int} (h : roundedR u p q v = (x, y, 0)) : decB x y = true := by
  obtain ⟨_, h2, _, rfl, _, h6⟩ := roundedR_ok h
  exact decB_mk (by omega)

end Go.Proofs.Ytegabimiegdcjaa
