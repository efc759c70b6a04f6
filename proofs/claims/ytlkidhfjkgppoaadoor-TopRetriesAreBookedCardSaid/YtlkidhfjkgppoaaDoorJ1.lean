
/- Words for the join of a walk and a row: arguments opened. -/
import Derived.Test.YtlkidhfjkgppoaaDoorRows
import Derived.Test.YtlkidhfjkgppoaaDoorD1
import Derived.WalkKit
import Derived.ProofKit
import Derived.OpenShut
import Derived.ChangeOld
import Derived.ChangeSame
import Derived.ChangeSlices
import Derived.Below
import Derived.Lib.SmallJoins
import Derived.Deep.Slices
import Derived.Deep.Fields
namespace Go.Proofs.YtlkidhfjkgppoaaDoor
open Go.ChangeShapes Go.WideShapes Go.ChangeAt Go.RowKit Go.Deep Work
set_option linter.unusedVariables false

theorem own : ownKnob Tryd.prog.godebug = none := by kernel_rfl
theorem laidOut : laidOutB Tryd.prog = true := by kernel_rfl
theorem i64_wf {n : Int} (h : (Lit.int .i64 n).wf = true) : -9223372036854775808 ≤ n ∧ n ≤ 9223372036854775807 := by
  have e1 : IntKind.min .i64 = -9223372036854775808 := by decide
  have e2 : IntKind.max .i64 = 9223372036854775807 := by decide
  have h2 : (decide (IntKind.min .i64 ≤ n) && decide (n ≤ IntKind.max .i64)) = true := h
  rw [e1, e2] at h2
  simpa using h2

/-- A slice of numbers opened. -/
theorem opened_ints {H : Type} {enc : TypeId × Value → H} {w : World} {base fuel : Nat} {v : Value} {x : DataW H × List MemPlace}
    (h : DataW.trod enc Tryd.prog w base (fun _ => true) true fuel 44 [v] = some x) :
    ∃ A n c hs, v = .slice A n c ∧ n ≤ c ∧ c ≤ 9223372036854775807 ∧ (A = Option.none → n = 0 ∧ c = 0) ∧ Ints w A n hs := by
  rcases open_ints Tryd.underlying44 Tryd.underlying3 (by kernel_rfl) h with ⟨hcs, _⟩ | ⟨a, len, cap, zs, hcs, _, hl, hm, hzl, _, hc, hw⟩
  · simp at hcs
    subst hcs
    exact ⟨Option.none, 0, 0, [], rfl, Nat.le_refl _, by omega, fun _ => ⟨rfl, rfl⟩, rfl, (fun d hd => by simp at hd), (fun h => by omega)⟩
  · simp at hcs
    subst hcs
    simp only [if_true] at hzl
    refine ⟨some a, len, cap, zs.take len, rfl, hl, by unfold maxLen at hm; omega, (fun h => by cases h), by rw [List.length_take]; omega, fun d hd => i64_wf (hw d (List.mem_of_mem_take hd)), fun h0 => ?_⟩
    obtain ⟨b, off, spot⟩ := a
    have h1 := hc 0 (by omega)
    have hs : spot = Option.none := by
      have := World.cell?_spot h1
      rw [Addr.add, if_pos (by simp)] at this
      exact this
    subst hs
    have hadd : ∀ k, (⟨b, off, Option.none⟩ : Addr).add k = ⟨b, off + k, Option.none⟩ := by intro k; unfold Addr.add; split <;> simp_all
    refine ⟨b, off, rfl, ?_, fun j hj => ?_⟩
    · rw [hadd] at h1
      exact World.block_lt_of_cell? w _ h1
    · have h2 := hc j (by omega)
      rw [hadd] at h2
      rw [h2]
      congr 2
      unfold hol
      rw [List.getD_eq_getElem?_getD, List.getD_eq_getElem?_getD, List.getElem?_take, if_pos hj]

end Go.Proofs.YtlkidhfjkgppoaaDoor
