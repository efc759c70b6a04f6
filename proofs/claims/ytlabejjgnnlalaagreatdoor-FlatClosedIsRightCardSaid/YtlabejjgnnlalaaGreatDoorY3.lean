/- A row of strings of a function's own: pushing to it. The walks of the program's columnOf and Column. (Printed by genY2.py.) The walk of the program's Column. (Printed by genY2.py.) -/
import Derived.Test.YtlabejjgnnlalaaGreatDoorFE
import Derived.Test.YtlabejjgnnlalaaGreatDoorY1
-- merged: YP Y2 Y3
namespace Go.Proofs.YtlabejjgnnlalaaGreatDoor
open Go.RowKit Limb Nmb Work
set_option linter.unusedVariables false
set_option linter.unusedSimpArgs false
def ystrV (L : List ByteArray) : List Value := L.map Value.string
theorem yown_sts {w : World} {B : Nat} {A : Option Addr} {n c : Nat} {L : List ByteArray} (h : w.ownsRow B 9 1 (.slice A n c) n (ystrV L)) (hn : 0 < n) : ∃ g, A = some ⟨g, 0, none⟩ ∧ Sts w (some ⟨g, 0, none⟩) L ∧ n ≤ c ∧ L.length = n := by
  have hc := own_cap h
  obtain ⟨h1, h2⟩ := h
  have hl : L.length = n := by unfold ystrV at h1; rw [List.length_map] at h1; omega
  rcases h2 with ⟨h2, h3⟩ | ⟨g, cap, cur, hv, hb, hh, hn2, _, hs, ht⟩
  · omega
  · cases hv
    refine ⟨g, rfl, fun _ => ⟨g, 0, cur, (0, 0), rfl, hh, fun j hj => ?_⟩, hc.1, hl⟩
    have h3 : (ystrV L)[j]? = some (.string (wd L j)) := by unfold ystrV wd; simp [List.getD_eq_getElem?_getD, hj]
    rw [← ht, List.getElem?_take, if_pos (by omega)] at h3
    rw [Nat.zero_add]
    simpa using h3
def RetCol (R : List ByteArray × Int) (w : World) (e : Ending) (w' : World) : Prop := ∃ A c, e = .returned (.tuple #[.slice A R.1.length c, .int .i64 R.2]) ∧ Svs w' A R.1 ∧ R.1.length ≤ c ∧ c ≤ 9223372036854775807 ∧ Below w.heap.size w w'
theorem RetCol.no {R : List ByteArray × Int} {w w' : World} {x : Int} (h : R = ([], x)) (hb : Below w.heap.size w w') : RetCol R w (.returned (.tuple #[.slice none 0 0, .int .i64 x])) w' := by
  subst h
  exact ⟨none, 0, rfl, fun h => absurd h (Nat.not_lt_zero _), Nat.le_refl 0, by omega, hb⟩
theorem RetCol.own {R : List ByteArray × Int} {w w' : World} {B : Nat} {A : Option Addr} {n c : Nat} {L : List ByteArray} (h : R = (L, 0)) (hn : L.length = n) (ho : w'.ownsRow B 9 1 (.slice A n c) n (ystrV L)) (hb : Below w.heap.size w w') : RetCol R w (.returned (.tuple #[.slice A n c, .int .i64 0])) w' := by
  subst h
  have hc := own_cap ho
  refine ⟨A, c, by rw [← hn], fun h0 => ?_, by rw [hn]; exact hc.1, hc.2, hb⟩
  obtain ⟨g, e, hs, -, -⟩ := yown_sts ho (by rw [← hn]; exact h0)
  subst e
  exact hs.svs h0
end Go.Proofs.YtlabejjgnnlalaaGreatDoor
