
/- Plain facts on rounding. No program in sight. -/
import Derived.Test.YtegobkaldedhhaaGreatDoorSpec
namespace Go.Proofs.YtegobkaldedhhaaGreatDoor
open Go.RowKit Limb

theorem small_nat {Z : Nat} (h : Z < 10 ^ 190) : Small (Z : Int) := by
  unfold Small
  rw [Int.natAbs_natCast]
  exact Nat.lt_of_lt_of_le h (Nat.pow_le_pow_right (by omega) (by omega))
theorem small_190 {z : Int} (h : z.natAbs < 10 ^ 190) : Small z := Nat.lt_of_lt_of_le h (Nat.pow_le_pow_right (by omega) (by omega))

/-- Whether the quotient goes up: its rest is not 0, and the way asks for it. -/
def upB (q r b : Nat) (neg : Bool) (way : Int) : Bool :=
  decide (r ≠ 0) && (decide (way = 4) || (decide (way = 5) && neg) || (decide (way = 6) && !neg) || (decide (way = 1) && decide (b ≤ 2 * r)) || (decide (way = 2) && (decide (b < 2 * r) || (decide (2 * r = b) && decide (q % 2 = 1)))))
/-- a over b, which is above 0, rounded to a whole number. -/
def rnd (a : Int) (b : Nat) (way : Int) : Int :=
  let m : Nat := a.natAbs / b + if upB (a.natAbs / b) (a.natAbs % b) b (decide (a < 0)) way then 1 else 0
  if a < 0 then -(m : Int) else (m : Int)

theorem upB_zero {q b : Nat} {neg : Bool} {way : Int} : upB q 0 b neg way = false := by simp [upB]
theorem rnd_natAbs_le (a : Int) (b : Nat) (way : Int) : (rnd a b way).natAbs ≤ a.natAbs / b + 1 := by
  unfold rnd
  simp only
  generalize a.natAbs / b = q
  split <;> split <;> omega

end Go.Proofs.YtegobkaldedhhaaGreatDoor
