
/- Words for the join of a walk and a row: a row of a flat file opened, and a slice of them. -/
import Derived.Test.YthjlleifpnpfgaaGreatDoorJ7
import Derived.Test.YthjlleifpnpfgaaGreatDoorV3
import Derived.Deep.Strs
namespace Go.Proofs.YthjlleifpnpfgaaGreatDoor
open Go.ChangeShapes Go.WideShapes Go.ChangeAt Go.RowKit Go.Deep Go.Joins
set_option linter.unusedVariables false
set_option linter.unusedSimpArgs false
set_option maxRecDepth 100000 in
theorem opened_strsF {H : Type} {enc : TypeId × Value -> H} {w : World} {base fuel : Nat} {v : Value} {y : DataW H × List MemPlace}
  (h : DataW.trod enc Tryz.prog w base (fun _ => true) true fuel 55 [v] = some y) : ∃ A cap L, v = .slice A L.length cap /\ L.length <= cap /\ cap <= 9223372036854775807 /\ Svs w A L /\ ∀ s ∈ L, s.size <= 9223372036854775807 := by
 rcases open_strs Tryz.underlying55 Tryz.underlying9 (by kernel_rfl) h with ⟨hcs, -⟩ | ⟨a, l, c, m, Sx, hcs, -, hl, hm, hmm, -, hc⟩
 ·simp at hcs
  subst hcs
  exact ⟨none, 0, [], rfl, Nat.le_refl 0, by omega, fun h => absurd h (by decide), fun s hs => by cases hs⟩
 ·simp at hcs
  subst hcs
  simp only [if_true] at hmm
  subst hmm
  obtain ⟨b, off, spot⟩ := a
  unfold maxLen at hm
  refine ⟨some ⟨b, off, spot⟩, m, (List.range l).map Sx, by simp, by simpa using hl, by omega, fun hn => ?_, fun s hs => ?_⟩
  ·have hn' : 0 < l := by simpa using hn
   have hs : spot = none := by
    have h1 := (hc 0 (by omega)).1
    have := World.cell?_spot h1
    rw [Addr.add, if_pos (by simp)] at this
    exact this
   subst hs
   have hadd : ∀ k, (⟨b, off, none⟩ : Addr).add k = ⟨b, off + k, none⟩ := by intro k; unfold Addr.add; split <;> simp_all
   refine ⟨b, off, rfl, ?_, fun j hj => ?_⟩
   ·have := (hc 0 (by omega)).1
    rw [hadd] at this
    exact World.block_lt_of_cell? w _ this
   ·have hj' : j < l := by simpa using hj
    have h1 := (hc j (by omega)).1
    rw [hadd] at h1
    rw [h1]
    unfold wd
    simp [List.getD_eq_getElem?_getD, hj']
  ·obtain ⟨i, hi, rfl⟩ := List.mem_map.1 hs
   rw [List.mem_range] at hi
   have := (hc i (by omega)).2
   unfold maxLen at this
   omega
end Go.Proofs.YthjlleifpnpfgaaGreatDoor
