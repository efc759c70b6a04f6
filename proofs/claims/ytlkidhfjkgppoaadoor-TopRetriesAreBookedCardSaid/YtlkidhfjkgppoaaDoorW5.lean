
/- The walks of package whole: Sign, Minus, Abs, Less, Compare, Odd, Int. -/
import Derived.Test.YtlkidhfjkgppoaaDoorW4
namespace Go.Proofs.YtlkidhfjkgppoaaDoor
open Go.RowKit Limb

theorem Big.sign {K : IntKind} {E : TypeId} {b : Nat} {w : World} {s : Bool} {A : Option Addr} {n c : Nat} {z : Int} (hb : 0 < b) (h : Big K E b w s A n c z) : (s = true ∧ z.sign = -1) ∨ (s = false ∧ n = 0 ∧ z.sign = 0) ∨ (s = false ∧ 0 < n ∧ z.sign = 1) := by
  obtain ⟨l, hd, _, _, _, nl, sl, rfl⟩ := h
  have hl := hd.1
  cases s with
  | true =>
    have := val_pos hb nl (sl rfl)
    exact .inl ⟨rfl, by simp only [sg, if_true]; exact Int.sign_eq_neg_one_of_neg (by omega)⟩
  | false =>
    rcases Nat.eq_zero_or_pos n with h0 | h0
    · subst h0
      rw [List.length_eq_zero_iff] at hl
      subst hl
      exact .inr (.inl ⟨rfl, rfl, by simp [sg, val]⟩)
    · have := val_pos hb nl (by intro e; subst e; simp at hl; omega)
      exact .inr (.inr ⟨rfl, h0, by simp only [sg]; exact Int.sign_eq_one_of_pos (by simpa using this)⟩)

theorem sg_not {s : Bool} {x : Nat} : sg (!s) x = - sg s x := by cases s <;> simp [sg]

theorem natAbs_sg (s : Bool) (x : Nat) : ((sg s x).natAbs : Int) = sg false x := by rw [sg_natAbs]; rfl

theorem Small.neg {z : Int} (h : Small z) : Small (-z) := by unfold Small at *; omega

end Go.Proofs.YtlkidhfjkgppoaaDoor
