
/- The walk of amount.Implied. -/
import Derived.Test.YtmeefinnefanpaaDoorT4
import Derived.Test.YtmeefinnefanpaaDoorA7
namespace Go.Proofs.YtmeefinnefanpaaDoor
open Go.RowKit Limb
set_option linter.unusedVariables false
set_option linter.unusedSimpArgs false

/-! ### Plain -/
def impN (u p : Int) : Nat := u.natAbs * 10 ^ (9 - p.toNat)
def impD (a : Int) : Nat := 10 ^ (9 - a.toNat)
def impS (u p a b : Int) : List UInt8 := sgL u ++ List.replicate (b.toNat - (sgL u).length - (Lib.decDigits (impN u p / impD a)).length) 48 ++ Lib.decDigits (impN u p / impD a)
def impF (u p a b : Int) : Int :=
  if ¬ (decB u p = true ∧ 0 ≤ a ∧ a ≤ 9 ∧ 1 ≤ b ∧ b ≤ 30) then 1
  else if impN u p % impD a ≠ 0 then 12
  else if b < (sgL u).length + (Lib.decDigits (impN u p / impD a)).length then 16
  else 0
def impR (u p a b : Int) : List UInt8 := if impF u p a b = 0 then impS u p a b else []

theorem RetST.of {l l' : List UInt8} {f f' : Int} {w w' : World} {e : Ending} (h : RetST l f w e w') (hl : l = l') (hf : f = f') : RetST l' f' w e w' := by subst hl; subst hf; exact h
end Go.Proofs.YtmeefinnefanpaaDoor
