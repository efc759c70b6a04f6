
/- The walks of package amount's numbers: isSum, taxDigit, bankRestOf. -/
import Derived.Test.YtmeefinnefanpaaDoorK1
import Derived.Test.YtmeefinnefanpaaDoorShelf
import Derived.Test.YtmeefinnefanpaaDoorU3
import Derived.Test.YtmeefinnefanpaaDoorD1
import Derived.WalkLawsBesides
import Derived.Deep.QuietTactic
import Derived.BigQuiet
namespace Go.Proofs.YtmeefinnefanpaaDoor
open Go.RowKit Limb Nmb
set_option linter.unusedVariables false
set_option linter.unusedSimpArgs false

theorem ivK {a b : Int} (h : a = b) : Value.int .i64 a = .int .i64 b := by rw [h]
/-! ### Bytes -/
theorem byS (s : ByteArray) (j : Nat) (h : j < s.size) : (s[j].toNat : Int) = byA s.data.toList j := by
  rw [byA_get (by simpa using h)]; rfl
theorem szL (s : ByteArray) : s.data.toList.length = s.size := by simp
theorem inB_inL (l : List UInt8) (a b : Nat) : inB l a b = inL l a b := by
  rw [Bool.eq_iff_iff]
  unfold inB
  rw [List.all_eq_true]
  constructor
  · intro h
    refine inL_mk (fun i hi => ?_)
    have := of_decide_eq_true (h l[i] (List.getElem_mem hi))
    rw [byA_get hi]
    omega
  · intro h c hc
    obtain ⟨i, hi, rfl⟩ := List.getElem_of_mem hc
    have := inL_yes h hi
    rw [byA_get hi] at this
    exact decide_eq_true (by omega)
theorem digB_digs (l : List UInt8) : digB l = digs l := by
  unfold digB digs
  rw [inB_inL, Bool.and_comm]
  rfl

theorem sum_bd {l : List UInt8} (h : ∀ i, i < l.length → 0 ≤ dgt l i ∧ dgt l i ≤ 9) {k : Nat} (hk : k ≤ l.length) : 0 ≤ sumF (wt l) k ∧ sumF (wt l) k ≤ 27 * k := by
  induction k with
  | zero => exact ⟨Int.le_refl _, Int.le_refl _⟩
  | succ k ih =>
    have a := ih (by omega)
    have b := h (l.length - 1 - k) (by omega)
    rw [sumF]
    have : 0 ≤ wt l k ∧ wt l k ≤ 27 := by
      unfold wt
      rcases tr_cases k with ⟨_, e⟩ | ⟨_, e⟩ <;> rw [e] <;> omega
    omega
theorem wt_odd {l : List UInt8} {k : Nat} (h : k % 2 = 1) : wt l k = dgt l (l.length - 1 - k) * 3 := by unfold wt tr; rw [if_pos h]
theorem wt_even {l : List UInt8} {k : Nat} (h : ¬ k % 2 = 1) : wt l k = dgt l (l.length - 1 - k) := by unfold wt tr; rw [if_neg h, Int.mul_one]

theorem taxD_sub (l : List UInt8) : taxD l = 48 + (11 - taxP l 10) % 10 := rfl
end Go.Proofs.YtmeefinnefanpaaDoor
