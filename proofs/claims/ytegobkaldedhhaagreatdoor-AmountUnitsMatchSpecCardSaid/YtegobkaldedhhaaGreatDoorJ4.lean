
/- Words for the join of a walk and a row: a slice of units opened. -/
import Derived.Test.YtegobkaldedhhaaGreatDoorJ2
import Derived.Test.YtegobkaldedhhaaGreatDoorU3
namespace Go.Proofs.YtegobkaldedhhaaGreatDoor
open Go.ChangeShapes Go.WideShapes Go.ChangeAt Go.RowKit Go.Deep
set_option linter.unusedVariables false
set_option linter.unusedSimpArgs false

theorem opened_units {H : Type} {enc : TypeId × Value → H} {w : World} {base : Nat} {a : Option Addr} {len cap : Nat} {d : DataW H} {p : List MemPlace}
    (h : DataW.Trod enc Tryz.prog w base (fun _ => true) true 22 (.slice a len cap) d p) :
    len ≤ 9223372036854775807 ∧ ∃ us, Uns w a len us := by
  obtain ⟨fuel, hf⟩ := h
  rcases open_rows Tryz.underlying22 Tryz.underlying69 (by kernel_rfl) (by kernel_rfl) hf with hcs | ⟨x, l, c, m, hcs, hl, hm, hmm, hc⟩
  · simp [Value.cells] at hcs
    obtain ⟨rfl, rfl, rfl⟩ := hcs
    exact ⟨by omega, [], rfl, (fun d hd => by simp at hd), (fun h => by omega)⟩
  · simp [Value.cells] at hcs
    obtain ⟨rfl, rfl, rfl⟩ := hcs
    simp only [if_true] at hmm
    subst hmm
    obtain ⟨b, off, spot⟩ := x
    have hstr : ∀ j, j < 2 → ∀ i, i < m → ∃ s : ByteArray, w.cell? ((⟨b, off, spot⟩ : Addr).add (i * 4 + j)) = some (.string s) ∧ s.size ≤ 9223372036854775807 := by
      intro j hj i hi
      match j, hj with
      | 0, _ =>
        obtain ⟨n, v, y, h1, h2⟩ := hc i hi 0 _ rfl
        obtain ⟨k, hk, _, hw⟩ := DataW.trod_string Tryz.underlying9 h2
        simp at hk
        subst hk
        exact ⟨k, h1, by unfold maxLen at hw; omega⟩
      | 1, _ =>
        obtain ⟨n, v, y, h1, h2⟩ := hc i hi 1 _ rfl
        obtain ⟨k, hk, _, hw⟩ := DataW.trod_string Tryz.underlying9 h2
        simp at hk
        subst hk
        exact ⟨k, h1, by unfold maxLen at hw; omega⟩
    have hint : ∀ j, j < 2 → ∀ i, i < m → ∃ n, w.cell? ((⟨b, off, spot⟩ : Addr).add (i * 4 + (2 + j))) = some (.int .i64 n) ∧ (-9223372036854775808 ≤ n ∧ n ≤ 9223372036854775807) := by
      intro j hj i hi
      match j, hj with
      | 0, _ =>
        obtain ⟨n, v, y, h1, h2⟩ := hc i hi 2 _ rfl
        obtain ⟨k, hk, _, hw⟩ := DataW.trod_int Tryz.underlying3 h2
        simp at hk
        subst hk
        exact ⟨k, h1, i64_wf hw⟩
      | 1, _ =>
        obtain ⟨n, v, y, h1, h2⟩ := hc i hi 3 _ rfl
        obtain ⟨k, hk, _, hw⟩ := DataW.trod_int Tryz.underlying3 h2
        simp at hk
        subst hk
        exact ⟨k, h1, i64_wf hw⟩
    have hspot : 0 < m → spot = Option.none := fun h => by
      obtain ⟨n, h1, _⟩ := hstr 0 (by omega) 0 h
      have := World.cell?_spot h1
      rw [Addr.add, if_pos (by simp)] at this
      exact this
    refine ⟨by unfold maxLen at hm; omega, ?_⟩
    obtain ⟨F, hF⟩ := choose_lt (hstr 0 (by omega))
    obtain ⟨G, hG⟩ := choose_lt (hstr 1 (by omega))
    obtain ⟨X, hX⟩ := choose_lt (hint 0 (by omega))
    obtain ⟨Y, hY⟩ := choose_lt (hint 1 (by omega))
    have hcl : len ≤ m := hl
    refine ⟨(List.range len).map fun i => ⟨F i, G i, X i, Y i⟩, by simp, ?_, ?_⟩
    · intro d hd
      obtain ⟨i, hi, rfl⟩ := List.mem_map.1 hd
      rw [List.mem_range] at hi
      exact ⟨(hX i (by omega)).2, (hY i (by omega)).2, (hF i (by omega)).2, (hG i (by omega)).2⟩
    · intro hn
      have hs := hspot (by omega)
      subst hs
      have hadd : ∀ k, (⟨b, off, Option.none⟩ : Addr).add k = ⟨b, off + k, Option.none⟩ := by intro k; unfold Addr.add; split <;> simp_all
      refine ⟨b, off, rfl, ?_, fun j hj => ?_⟩
      · have := (hF 0 (by omega)).1
        rw [hadd] at this
        exact World.block_lt_of_cell? w _ this
      · have e1 : uA ((List.range len).map fun i => (⟨F i, G i, X i, Y i⟩ : Unt)) j = ⟨F j, G j, X j, Y j⟩ := by simp [uA, List.getD_eq_getElem?_getD, hj]
        rw [e1]
        have h1 := (hF j (by omega)).1
        have h2 := (hG j (by omega)).1
        have h3 := (hX j (by omega)).1
        have h4 := (hY j (by omega)).1
        rw [hadd] at h1 h2 h3 h4
        exact ⟨h1, h2, h3, h4⟩
end Go.Proofs.YtegobkaldedhhaaGreatDoor
