/- The walks of package amount: marksFault, sign, pointed, grouped. The walks of amount.grouped and amount.Text. The walk of amount.Implied. The walk of amount.Grouped. The walk of the reference's Text. The walk of the reference's Implied. The walk of the reference's marks. The walk of the reference's Grouped. The walk of amount.ReadGrouped. Plain laws: what is written is read again. -/
import Derived.Test.YtlabejjgnnlalaaGreatDoorA7
import Derived.Test.YtlabejjgnnlalaaGreatDoorShelf
import Derived.Deep.QuietTactic
import Derived.BigQuiet
import Derived.IntWalk
import Derived.Lib.Repeat
import Derived.Test.YtlabejjgnnlalaaGreatDoorT3
import Derived.Deep.RegionHeld3
import Derived.Test.YtlabejjgnnlalaaGreatDoorA8
import Derived.Test.YtlabejjgnnlalaaGreatDoorE1
import Derived.Lib.Hide
import Derived.Test.YtlabejjgnnlalaaGreatDoorT16
import Derived.Test.YtlabejjgnnlalaaGreatDoorM2
-- merged: T1 T4 T5 T6 T7 T8 T9 T10 T13 T14
namespace Go.Proofs.YtlabejjgnnlalaaGreatDoor
open Go.RowKit Limb
set_option linter.unusedVariables false
set_option linter.unusedSimpArgs false
def padL (l : List UInt8) (p : Nat) : List UInt8 := List.replicate (p + 1 - l.length) 48 ++ l
def sgL (u : Int) : List UInt8 := if u < 0 then [45] else []
def digL (u : Int) : List UInt8 := Lib.decDigits u.natAbs
def befL (u : Int) (p : Nat) : List UInt8 := (padL (digL u) p).take ((padL (digL u) p).length - p)
def behL (u : Int) (p : Nat) : List UInt8 := (padL (digL u) p).drop ((padL (digL u) p).length - p)
def textL (u : Int) (p : Nat) : List UInt8 := sgL u ++ befL u p ++ (if p = 0 then [] else 46 :: behL u p)
def RetST (l : List UInt8) (f : Int) (w : World) (e : Ending) (w' : World) : Prop := ∃ s : ByteArray, e = .returned (.tuple #[.string s, .int .i64 f]) ∧ s.data.toList = l ∧ Below w.heap.size w w'
theorem RetST.of {l l' : List UInt8} {f f' : Int} {w w' : World} {e : Ending} (h : RetST l f w e w') (hl : l = l') (hf : f = f') : RetST l' f' w e w' := by subst hl; subst hf; exact h
theorem dec_shift {m : Nat} (h : 0 < m) : ∀ k, Lib.decDigits (m * 10 ^ k) = Lib.decDigits m ++ List.replicate k 48
  | 0 => by simp
  | k + 1 => by
    have h1 : 0 < m * 10 ^ (k + 1) := Nat.mul_pos h (Nat.pow_pos (by decide))
    have h2 : 0 < m * 10 ^ k := Nat.mul_pos h (Nat.pow_pos (by decide))
    have h3 : m * 10 ^ (k + 1) = 10 * (m * 10 ^ k) := by rw [Nat.pow_succ, ← Nat.mul_assoc, Nat.mul_comm]
    rw [← tail_pos h1, tail_step h1, h3, Nat.mul_div_cancel_left _ (by decide), tail_pos h2, dec_shift h k, Nat.mul_mod_right, List.append_assoc]
    congr 1
    rw [List.replicate_succ']
    rfl
theorem u8_ge (n : Nat) (h : n < 256) : (UInt8.ofNat n).toNat = n := by rw [UInt8.toNat_ofNat']; exact Nat.mod_eq_of_lt h
theorem dec_48 : ∀ (n : Nat), ∀ c ∈ Lib.decDigits n, 48 ≤ c.toNat ∧ c.toNat ≤ 57 := by
  intro n
  induction n using Nat.strongRecOn with
  | _ n ih =>
    rw [Lib.decDigits]
    by_cases h : n < 10
    · rw [dif_pos h]
      have e := u8_ge (48 + n) (by omega)
      intro c hc
      obtain rfl := List.mem_singleton.1 hc
      omega
    · rw [dif_neg h]
      have e := u8_ge (48 + n % 10) (by omega)
      intro c hc
      rw [List.mem_append] at hc
      rcases hc with hc | hc
      · exact ih (n / 10) (by omega) c hc
      · obtain rfl := List.mem_singleton.1 hc
        omega
def RetBt (b : Bool) (w : World) (e : Ending) (w' : World) : Prop := e = .returned (.bool b) ∧ Below w.heap.size w w'
theorem RetBt.of {b b' : Bool} {w w' : World} {e : Ending} (h : RetBt b w e w') (hb : b = b') : RetBt b' w e w' := by subst hb; exact h
theorem padL_48 {u : Int} {q : Nat} : ∀ c ∈ padL (digL u) q, 48 ≤ c.toNat ∧ c.toNat ≤ 57 := by
  intro c hc
  unfold padL at hc
  rcases List.mem_append.1 hc with h | h
  · have := List.eq_of_mem_replicate h
    subst this
    decide
  · exact dec_48 _ c h
theorem bef_48 {u : Int} {q : Nat} : ∀ c ∈ befL u q, 48 ≤ c.toNat ∧ c.toNat ≤ 57 := fun c hc => padL_48 c (List.mem_of_mem_take hc)
theorem beh_48 {u : Int} {q : Nat} : ∀ c ∈ behL u q, 48 ≤ c.toNat ∧ c.toNat ≤ 57 := fun c hc => padL_48 c (List.mem_of_mem_drop hc)
end Go.Proofs.YtlabejjgnnlalaaGreatDoor
namespace Go.Proofs.YtlabejjgnnlalaaGreatDoor
open Go.RowKit Limb
set_option linter.unusedVariables false
set_option linter.unusedSimpArgs false
set_option linter.unnecessarySimpa false
theorem numL_snoc (l : List UInt8) (c : UInt8) : numL (l ++ [c]) = numL l * 10 + (c.toNat - 48) := by
  unfold numL; rw [List.foldl_append]; rfl
theorem dec_ne (n : Nat) : 1 ≤ (Lib.decDigits n).length := by
  rw [Lib.decDigits]; split <;> simp
end Go.Proofs.YtlabejjgnnlalaaGreatDoor
