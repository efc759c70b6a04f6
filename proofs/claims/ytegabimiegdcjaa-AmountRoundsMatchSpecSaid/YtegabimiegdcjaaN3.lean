
/- Plain facts on quotients. No program in sight. -/
import Derived.Test.YtegabimiegdcjaaA11
namespace Go.Proofs.Ytegabimiegdcjaa
open Go.RowKit Limb

/-- The number above the line. -/
def topZ (u p v r : Int) : Int := if v < 0 then -(scaled u p 9 * ((10 ^ r.toNat : Nat) : Int)) else scaled u p 9 * ((10 ^ r.toNat : Nat) : Int)
/-- What Quotient comes to: units, places, fault. -/
def quotR (u p v q r way : Int) : Int × Int × Int :=
  if decB u p = false ∨ decB v q = false then (0, 0, 1)
  else if ¬ (0 ≤ r ∧ r ≤ 9) then (0, 0, 1)
  else if ¬ (1 ≤ way ∧ way ≤ 6) then (0, 0, 4)
  else if v = 0 then (0, 0, 13)
  else made (rnd (topZ u p v r) (scaled v q 9).natAbs way) r
theorem quotR_bad {u p v q r way : Int} (h : decB u p = false ∨ decB v q = false) : quotR u p v q r way = (0, 0, 1) := if_pos h
theorem quotR_way {u p v q r way : Int} (h1 : decB u p = true) (h2 : decB v q = true) (hw : wayF r way ≠ 0) : quotR u p v q r way = (0, 0, wayF r way) := by
  unfold quotR wayF at *
  rw [if_neg (by rw [h1, h2]; simp)]
  split
  · rfl
  · rename_i h3
    rw [if_neg h3] at hw
    split
    · rfl
    · rename_i h4; rw [if_neg h4] at hw; exact absurd rfl hw
theorem wayF_ok {q v : Int} (hw : wayF q v = 0) : (0 ≤ q ∧ q ≤ 9) ∧ (1 ≤ v ∧ v ≤ 6) := by
  unfold wayF at hw
  split at hw
  · omega
  · rename_i h1
    split at hw
    · omega
    · rename_i h2
      exact ⟨by omega, by omega⟩
theorem quotR_zero {u p v q r way : Int} (h1 : decB u p = true) (h2 : decB v q = true) (hr : 0 ≤ r ∧ r ≤ 9) (hw : 1 ≤ way ∧ way ≤ 6) (hv : v = 0) : quotR u p v q r way = (0, 0, 13) := by
  unfold quotR
  rw [if_neg (by rw [h1, h2]; simp), if_neg (fun h => h hr), if_neg (fun h => h hw), if_pos hv]
theorem quotR_val {u p v q r way : Int} (h1 : decB u p = true) (h2 : decB v q = true) (hr : 0 ≤ r ∧ r ≤ 9) (hw : 1 ≤ way ∧ way ≤ 6) (hv : ¬ v = 0) : quotR u p v q r way = made (rnd (topZ u p v r) (scaled v q 9).natAbs way) r := by
  unfold quotR
  rw [if_neg (by rw [h1, h2]; simp), if_neg (fun h => h hr), if_neg (fun h => h hw), if_neg hv]

theorem top_bound {u p : Int} {R : Nat} (h : decB u p = true) (hR : R ≤ 9) : (scaled u p 9 * ((10 ^ R : Nat) : Int)).natAbs < 10 ^ 190 := by
  have h1 := decB_out h
  have h2 := scaled_bound (p := p) (u := u) (q := 9) (by omega) (by omega)
  rw [Int.natAbs_mul, Int.natAbs_natCast]
  have h3 : (scaled u p 9).natAbs * 10 ^ R ≤ 10 ^ 24 * 10 ^ 9 := Nat.mul_le_mul (by have : (10 : Nat) ^ 24 = 1000000000000000000000000 := by decide
                                                                                    omega) (Nat.pow_le_pow_right (by omega) hR)
  have h4 : (10 : Nat) ^ 24 * 10 ^ 9 = 10 ^ 33 := by decide
  exact Nat.lt_of_le_of_lt (h4 ▸ h3) (Nat.pow_lt_pow_right (by omega) (by omega))
theorem scaled_sign' (u p : Int) : (0 < u ↔ 0 < scaled u p 9) ∧ (u < 0 ↔ scaled u p 9 < 0) := by
  unfold scaled
  have h : 0 < 10 ^ (9 - p.toNat) := Nat.pow_pos (by omega)
  generalize 10 ^ (9 - p.toNat) = k at *
  rcases Int.lt_trichotomy u 0 with h1 | h1 | h1
  · have := Int.mul_neg_of_neg_of_pos h1 (show (0 : Int) < k by omega); omega
  · subst h1; simp
  · have := Int.mul_pos h1 (show (0 : Int) < k by omega); omega
theorem scaled_pos {v q : Int} (hv : ¬ v = 0) : 0 < (scaled v q 9).natAbs := by
  have := scaled_sign' v q
  omega

theorem upB_scale {q r b k : Nat} {neg : Bool} {way : Int} (hk : 0 < k) : upB q (r * k) (b * k) neg way = upB q r b neg way := by
  have e1 : decide (r * k ≠ 0) = decide (r ≠ 0) := decide_eq_decide.2 ⟨fun h e => h (by rw [e, Nat.zero_mul]), fun h e => by rcases Nat.mul_eq_zero.1 e with h1 | h1 <;> omega⟩
  have key : ∀ x y : Nat, x * k ≤ y * k ↔ x ≤ y := fun x y => ⟨fun h => Nat.le_of_mul_le_mul_right h hk, fun h => Nat.mul_le_mul_right k h⟩
  have e2 : 2 * (r * k) = 2 * r * k := by rw [Nat.mul_assoc]
  have e3 : decide (b * k ≤ 2 * (r * k)) = decide (b ≤ 2 * r) := by rw [e2]; exact decide_eq_decide.2 (key _ _)
  have e4 : decide (b * k < 2 * (r * k)) = decide (b < 2 * r) := by
    rw [e2]; apply decide_eq_decide.2
    have := key (2 * r) b
    omega
  have e5 : decide (2 * (r * k) = b * k) = decide (2 * r = b) := by
    rw [e2]; apply decide_eq_decide.2
    have h1 := key (2 * r) b
    have h2 := key b (2 * r)
    omega
  unfold upB
  rw [e1, e3, e4, e5]
theorem rnd_scale (a : Int) {b k : Nat} (hk : 0 < k) (way : Int) : rnd (a * ((k : Nat) : Int)) (b * k) way = rnd a b way := by
  have e : (a * ((k : Nat) : Int)).natAbs = a.natAbs * k := by rw [Int.natAbs_mul, Int.natAbs_natCast]
  have hs : a * ((k : Nat) : Int) < 0 ↔ a < 0 := by
    constructor
    · intro h
      by_cases h2 : a < 0
      · exact h2
      · have := Int.mul_nonneg (show 0 ≤ a by omega) (Int.natCast_nonneg k); omega
    · intro h
      exact Int.mul_neg_of_neg_of_pos h (by omega)
  have hd : decide (a * ((k : Nat) : Int) < 0) = decide (a < 0) := decide_eq_decide.2 hs
  unfold rnd
  simp only
  rw [e, Nat.mul_div_mul_right _ _ hk, Nat.mul_mod_mul_right, upB_scale hk, hd]
  by_cases h : a < 0
  · rw [if_pos h, if_pos (hs.2 h)]
  · rw [if_neg h, if_neg (fun h2 => h (hs.1 h2))]
theorem quot_rounded (u p r way : Int) : quotR u p 1 0 r way = roundedR u p r way := by
  have h1 : decB 1 0 = true := by decide
  unfold quotR roundedR
  by_cases hd : decB u p = false
  · rw [if_pos (Or.inl hd), if_pos hd]
  · rw [if_neg (by rw [h1]; simpa using hd), if_neg hd]
    by_cases hr : ¬ (0 ≤ r ∧ r ≤ 9)
    · rw [if_pos hr, if_pos hr]
    · rw [if_neg hr, if_neg hr]
      by_cases hw : ¬ (1 ≤ way ∧ way ≤ 6)
      · rw [if_pos hw, if_pos hw]
      · rw [if_neg hw, if_neg hw, if_neg (by omega)]
        congr 1
        have e1 : (scaled 1 0 9).natAbs = 10 ^ (9 - r.toNat) * 10 ^ r.toNat := by
          rw [← Nat.pow_add, show 9 - r.toNat + r.toNat = 9 by omega]; rfl
        have e2 : topZ u p 1 r = scaled u p 9 * ((10 ^ r.toNat : Nat) : Int) := if_neg (by omega)
        rw [e1, e2]
        exact rnd_scale _ (Nat.pow_pos (by omega)) _

end Go.Proofs.Ytegabimiegdcjaa
