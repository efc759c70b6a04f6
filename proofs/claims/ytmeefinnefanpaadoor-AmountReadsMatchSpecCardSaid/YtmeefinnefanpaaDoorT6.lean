
/- The walk of amount.Grouped. -/
import Derived.Test.YtmeefinnefanpaaDoorT5
namespace Go.Proofs.YtmeefinnefanpaaDoor
open Go.RowKit Limb
set_option linter.unusedVariables false
set_option linter.unusedSimpArgs false

theorem grpF_len (g : UInt8) : ∀ (k : Nat) (l : List UInt8), (grpF g k l).length ≤ 2 * l.length
  | 0, l => by simp [grpF]; omega
  | k + 1, l => by
    unfold grpF
    split
    · have := grpF_len g k (l.take (l.length - 3))
      simp at this ⊢
      omega
    · omega
theorem grp_len (g : UInt8) (l : List UInt8) : (grp g l).length ≤ 2 * l.length := grpF_len g _ l
def grpdL (u : Int) (p : Nat) (pt gr : UInt8) : List UInt8 := sgL u ++ grp gr (befL u p) ++ (if p = 0 then [] else pt :: behL u p)
def grpdF (u p : Int) (pt gr : UInt8) : Int := if decB u p = true then marksF (pt.toNat : Int) (gr.toNat : Int) else 1
def grpdR (u p : Int) (pt gr : UInt8) : List UInt8 := if grpdF u p pt gr = 0 then grpdL u p.toNat pt gr else []
theorem marks_ok {pt gr : UInt8} (h : marksF (pt.toNat : Int) (gr.toNat : Int) = 0) : pt.toNat < 128 ∧ gr.toNat < 128 ∧ pt ≠ gr := by
  unfold marksF at h
  split at h
  · cases h
  · next hn =>
    have h1 : wrongB (pt.toNat : Int) ≠ true := fun e => hn (.inr (.inl e))
    have h2 : wrongB (gr.toNat : Int) ≠ true := fun e => hn (.inr (.inr e))
    have h3 : (pt.toNat : Int) ≠ (gr.toNat : Int) := fun e => hn (.inl e)
    unfold wrongB at h1 h2
    simp at h1 h2
    refine ⟨by omega, by omega, fun e => h3 (by rw [e])⟩
theorem marks_two {p g : Int} : marksF p g = 0 ∨ marksF p g = 12 := by unfold marksF; split <;> simp

end Go.Proofs.YtmeefinnefanpaaDoor
