
/- The walk of package amount: InUnit. -/
import Derived.Test.YtegobkaldedhhaaGreatDoorU10
import Derived.Test.YtegobkaldedhhaaGreatDoorA10
namespace Go.Proofs.YtegobkaldedhhaaGreatDoor
open Go.RowKit Limb
set_option linter.unusedVariables false
set_option linter.unusedSimpArgs false

/-- What is wrong with what InUnit is asked. -/
def inuF (us : List Unt) (x y : List UInt8) (u p r v : Int) : Int := if facF us x y ≠ 0 then facF us x y else if decB u p = false then 1 else wayF r v
def inuR (us : List Unt) (x y : List UInt8) (u p r v : Int) : Int × Int × Int :=
  if inuF us x y u p r v ≠ 0 then (0, 0, inuF us x y u p r v)
  else made (rnd (u * ((prodN (topL us ((idxU us x).getD 0) ((idxU us y).getD 0)) : Nat) : Int) * ((10 ^ r.toNat : Nat) : Int)) (prodN (botL us ((idxU us x).getD 0) ((idxU us y).getD 0)) * 10 ^ p.toNat) v) r
section
variable {us : List Unt} {x y : List UInt8} {u p r v : Int}
theorem inu_fac (h : facF us x y ≠ 0) : inuR us x y u p r v = (0, 0, facF us x y) := by
  have e : inuF us x y u p r v = facF us x y := by unfold inuF; rw [if_pos h]
  unfold inuR; rw [e, if_pos h]
theorem inu_dec (h : facF us x y = 0) (h2 : decB u p = false) : inuR us x y u p r v = (0, 0, 1) := by
  have e : inuF us x y u p r v = 1 := by unfold inuF; rw [if_neg (by omega), if_pos h2]
  unfold inuR; rw [e, if_pos (by decide)]
theorem inu_way (h : facF us x y = 0) (h2 : decB u p = true) (h3 : wayF r v ≠ 0) : inuR us x y u p r v = (0, 0, wayF r v) := by
  have e : inuF us x y u p r v = wayF r v := by unfold inuF; rw [if_neg (by omega), if_neg (by rw [h2]; decide)]
  unfold inuR; rw [e, if_pos h3]
theorem inu_ok (h : facF us x y = 0) (h2 : decB u p = true) (h3 : wayF r v = 0) {i k : Nat} (hx : idxU us x = some i) (hy : idxU us y = some k) :
    inuR us x y u p r v = made (rnd (u * ((prodN (topL us i k) : Nat) : Int) * ((10 ^ r.toNat : Nat) : Int)) (prodN (botL us i k) * 10 ^ p.toNat) v) r := by
  have e : inuF us x y u p r v = 0 := by unfold inuF; rw [if_neg (by omega), if_neg (by rw [h2]; decide), h3]
  unfold inuR; rw [e, if_neg (by omega), hx, hy]; rfl
theorem wayF_ok (h : wayF r v = 0) : (0 ≤ r ∧ r ≤ 9) ∧ (1 ≤ v ∧ v ≤ 6) := by
  unfold wayF at h
  split at h
  · simp at h
  · split at h
    · simp at h
    · omega
end
theorem facF_pq {us : List Unt} {i k : Nat} (h : chkU us = 0) (hi : i < us.length) (hk : k < us.length) : prodN (topL us i k) ≤ 10 ^ 60 ∧ (0 < prodN (botL us i k) ∧ prodN (botL us i k) ≤ 10 ^ 60) := by
  obtain ⟨t1, t2, t3, t4⟩ := top_bounds h hi hk
  have a1 := prodN_le (l := topL us i k) fun x hx => (t1 x hx).2
  have a2 := prodN_le (l := botL us i k) fun x hx => (t3 x hx).2
  have a3 : 1000000 ^ (topL us i k).length ≤ 1000000 ^ 10 := Nat.pow_le_pow_right (by decide) t2
  have a4 : 1000000 ^ (botL us i k).length ≤ 1000000 ^ 10 := Nat.pow_le_pow_right (by decide) t4
  have a5 : (1000000 : Nat) ^ 10 = 10 ^ 60 := by decide
  exact ⟨by omega, prodN_pos fun x hx => (t3 x hx).1, by omega⟩
/-- The sizes of what InUnit computes with. -/
theorem inu_sizes {u : Int} {P Q r p : Nat} (hu : -1000000000000000 ≤ u ∧ u ≤ 1000000000000000) (hP : P ≤ 10 ^ 60) (hQ : 0 < Q ∧ Q ≤ 10 ^ 60) (hr : r ≤ 9) (hp : p ≤ 9) :
    Small u ∧ Small ((P : Nat) : Int) ∧ Small (u * ((P : Nat) : Int)) ∧ Small ((10 ^ r : Nat) : Int) ∧ (u * ((P : Nat) : Int) * ((10 ^ r : Nat) : Int)).natAbs < 10 ^ 190 ∧ Small ((Q : Nat) : Int) ∧ Small ((10 ^ p : Nat) : Int) ∧ Q * 10 ^ p < 10 ^ 190 ∧ 0 < Q * 10 ^ p := by
  have e1 : (u * ((P : Nat) : Int)).natAbs ≤ 10 ^ 15 * 10 ^ 60 := by
    rw [Int.natAbs_mul]
    exact Nat.mul_le_mul (by omega) (by simpa using hP)
  have e2 : 10 ^ r ≤ 10 ^ 9 := Nat.pow_le_pow_right (by decide) hr
  have e3 : 10 ^ p ≤ 10 ^ 9 := Nat.pow_le_pow_right (by decide) hp
  have e4 : (u * ((P : Nat) : Int) * ((10 ^ r : Nat) : Int)).natAbs ≤ 10 ^ 15 * 10 ^ 60 * 10 ^ 9 := by
    rw [Int.natAbs_mul]
    exact Nat.mul_le_mul e1 (by simpa using e2)
  have e5 : Q * 10 ^ p ≤ 10 ^ 60 * 10 ^ 9 := Nat.mul_le_mul hQ.2 e3
  have e6 : 0 < Q * 10 ^ p := Nat.mul_pos hQ.1 (Nat.pow_pos (by decide))
  have n1 : (10 : Nat) ^ 15 * 10 ^ 60 * 10 ^ 9 < 10 ^ 190 := by decide
  have n2 : (10 : Nat) ^ 60 * 10 ^ 9 < 10 ^ 190 := by decide
  have n3 : (10 : Nat) ^ 15 * 10 ^ 60 < 10 ^ 200 := by decide
  have n4 : (10 : Nat) ^ 60 < 10 ^ 200 := by decide
  have n5 : (10 : Nat) ^ 9 < 10 ^ 200 := by decide
  have n6 : (1000000000000000 : Nat) < 10 ^ 200 := by decide
  unfold Small
  refine ⟨by omega, by simp; omega, by omega, ?_, by omega, by simp; omega, ?_, by omega, e6⟩
  · have : ((10 ^ r : Nat) : Int).natAbs = 10 ^ r := by simp
    omega
  · have : ((10 ^ p : Nat) : Int).natAbs = 10 ^ p := by simp
    omega
end Go.Proofs.YtegobkaldedhhaaGreatDoor
