
/- The walk of the reference's Implied. -/
import Derived.Test.YtmeefinnefanpaaDoorT7
namespace Go.Proofs.YtmeefinnefanpaaDoor
open Go.RowKit Limb
set_option linter.unusedVariables false
set_option linter.unusedSimpArgs false

/-! ### Plain -/
def Imp (u v : Int) (p r : Nat) : Prop := r ≤ p ∧ u = v * ((10 ^ (p - r) : Nat) : Int)
theorem imp_abs {u v : Int} {p r : Nat} (h : Imp u v p r) (hp : p ≤ 9) : impN u (p : Int) = v.natAbs * 10 ^ (9 - r) := by
  obtain ⟨h1, h2⟩ := h
  unfold impN
  rw [h2, Int.natAbs_mul, Int.natAbs_natCast, Int.toNat_natCast, Nat.mul_assoc, ← Nat.pow_add]
  congr 2
  omega
theorem imp_clash {u v : Int} {p r a : Nat} (h : Imp u v p r) (hp : p ≤ 9) (ha : a < r) (hv : v.tmod 10 ≠ 0) : impN u (p : Int) % impD (a : Int) ≠ 0 := by
  rw [imp_abs h hp]
  unfold impD
  rw [Int.toNat_natCast, show 9 - a = (9 - r) + (r - a) by have := h.1; omega, Nat.pow_add, Nat.mul_comm v.natAbs, Nat.mul_mod_mul_left]
  intro e
  have h0 : 0 < 10 ^ (9 - r) := Nat.pow_pos (by decide)
  have h1 : v.natAbs % 10 ^ (r - a) = 0 := by
    rcases Nat.mul_eq_zero.1 e with h | h
    · omega
    · exact h
  have h2 : 10 ∣ v.natAbs := Nat.dvd_trans (by rw [show r - a = (r - a - 1) + 1 by omega, Nat.pow_succ]; exact Nat.dvd_mul_left _ _) (Nat.dvd_of_mod_eq_zero h1)
  apply hv
  have h3 : (10 : Int) ∣ v := by omega
  exact Int.tmod_eq_zero_of_dvd h3
theorem imp_next {u v : Int} {p r : Nat} (h : Imp u v p (r + 1)) (hv : v.tmod 10 = 0) : Imp u (v.tdiv 10) p r := by
  obtain ⟨h1, h2⟩ := h
  refine ⟨by omega, ?_⟩
  have h3 : v = v.tdiv 10 * 10 := by have := Int.tmod_add_mul_tdiv v 10; omega
  rw [h2, show p - r = (p - (r + 1)) + 1 by omega, Nat.pow_succ]
  generalize v.tdiv 10 = x at h3
  subst h3
  rw [Int.natCast_mul, Int.mul_assoc, Int.mul_comm 10]
  rfl
theorem imp_end {u v : Int} {p r a : Nat} (h : Imp u v p r) (hp : p ≤ 9) (ha : r ≤ a) (ha9 : a ≤ 9) : impN u (p : Int) % impD (a : Int) = 0 ∧ impN u (p : Int) / impD (a : Int) = v.natAbs * 10 ^ (a - r) := by
  rw [imp_abs h hp]
  unfold impD
  rw [Int.toNat_natCast, show 9 - r = (a - r) + (9 - a) by omega, Nat.pow_add, ← Nat.mul_assoc]
  exact ⟨Nat.mul_mod_left _ _, Nat.mul_div_cancel _ (Nat.pow_pos (by decide))⟩
theorem imp_neg {u v : Int} {p r : Nat} (h : Imp u v p r) : (u < 0 ↔ v < 0) ∧ (u = 0 ↔ v = 0) ∧ v.natAbs ≤ u.natAbs := by
  obtain ⟨h1, h2⟩ := h
  have h0 : 0 < 10 ^ (p - r) := Nat.pow_pos (by decide)
  generalize 10 ^ (p - r) = k at h0 h2
  have hk : (0 : Int) < (k : Int) := by omega
  subst h2
  refine ⟨⟨fun h => ?_, fun h => Int.mul_neg_of_neg_of_pos h hk⟩, ⟨fun h => ?_, fun h => by rw [h]; simp⟩, ?_⟩
  · rcases Int.lt_or_le v 0 with hv | hv
    · exact hv
    · have := Int.mul_nonneg hv (by omega : (0:Int) ≤ (k : Int)); omega
  · rcases Int.mul_eq_zero.1 h with h | h
    · exact h
    · omega
  · rw [Int.natAbs_mul, Int.natAbs_natCast]
    exact Nat.le_mul_of_pos_right _ h0
theorem dec_shift {m : Nat} (h : 0 < m) : ∀ k, Lib.decDigits (m * 10 ^ k) = Lib.decDigits m ++ List.replicate k 48
  | 0 => by simp
  | k + 1 => by
    have h1 : 0 < m * 10 ^ (k + 1) := Nat.mul_pos h (Nat.pow_pos (by decide))
    have h2 : 0 < m * 10 ^ k := Nat.mul_pos h (Nat.pow_pos (by decide))
    have h3 : m * 10 ^ (k + 1) = 10 * (m * 10 ^ k) := by rw [Nat.pow_succ, ← Nat.mul_assoc, Nat.mul_comm]
    rw [← tail_pos h1, tail_step h1, h3, Nat.mul_div_cancel_left _ (by decide), tail_pos h2, dec_shift h k, Nat.mul_mod_right, List.append_assoc]
    congr 1
    rw [List.replicate_succ']
    rfl
theorem u8_ge (n : Nat) (h : n < 256) : (UInt8.ofNat n).toNat = n := by rw [UInt8.toNat_ofNat']; exact Nat.mod_eq_of_lt h
theorem dec_48 : ∀ (n : Nat), ∀ c ∈ Lib.decDigits n, 48 ≤ c.toNat ∧ c.toNat ≤ 57 := by
  intro n
  induction n using Nat.strongRecOn with
  | _ n ih =>
    rw [Lib.decDigits]
    by_cases h : n < 10
    · rw [dif_pos h]
      have e := u8_ge (48 + n) (by omega)
      intro c hc
      obtain rfl := List.mem_singleton.1 hc
      omega
    · rw [dif_neg h]
      have e := u8_ge (48 + n % 10) (by omega)
      intro c hc
      rw [List.mem_append] at hc
      rcases hc with hc | hc
      · exact ih (n / 10) (by omega) c hc
      · obtain rfl := List.mem_singleton.1 hc
        omega
theorem trim_itoa (v : Int) : Lib.trimPrefix (Lib.itoa v) [45] = Lib.decDigits v.natAbs := by
  unfold Lib.itoa Lib.trimPrefix
  by_cases h : v < 0
  · rw [if_pos h]
    rw [if_pos (by simp [Lib.hasPrefix])]
    rfl
  · rw [if_neg h, show v.toNat = v.natAbs by omega]
    have h1 := dec_48 v.natAbs
    rcases hd : Lib.decDigits v.natAbs with _ | ⟨c, l⟩
    · rfl
    · rw [hd] at h1
      have := h1 c (by simp)
      have hc : c ≠ 45 := by rintro rfl; simp at this
      rw [if_neg (by simp [Lib.hasPrefix]; exact fun e => hc e.symm)]

end Go.Proofs.YtmeefinnefanpaaDoor
