
/- Words for the join of a walk and a row: a slice of rows of a flat file opened. -/
import Derived.Test.YthjlleifpnpfgaaGreatDoorJ9
import Derived.Test.YthjlleifpnpfgaaGreatDoorY1
namespace Go.Proofs.YthjlleifpnpfgaaGreatDoor
open Go.ChangeShapes Go.WideShapes Go.ChangeAt Go.RowKit Go.Deep Go.Joins
set_option linter.unusedVariables false
set_option linter.unusedSimpArgs false
set_option maxRecDepth 100000 in
theorem opened_flatrowsC {H : Type} {enc : TypeId × Value -> H} {w : World} {base : Nat} {v : Value} {d : DataW H} {p : List MemPlace}
  {r : Reach} {b0 : Nat} (hv : Value.okWide Tryz.prog w r b0 25 v) (h : DataW.Trod enc Tryz.prog w base (fun _ => true) true 25 v d p) :
  ∃ L cap rs RA RC, v = .slice L rs.length cap /\ RowsM w L rs RA RC /\ rs.length <= cap := by
 obtain ⟨A0, n0, c0, rfl⟩ := okWide_slice Tryz.underlying25 hv
 obtain ⟨fuel, h⟩ := h
 rcases open_rows Tryz.underlying25 Tryz.underlying57 (by kernel_rfl) (by kernel_rfl) h with hcs | ⟨x, l, c, m, hcs, hl, hm, hmm, hc⟩
 ·simp [Value.cells] at hcs
  obtain ⟨rfl, rfl, rfl⟩ := hcs
  exact ⟨none, 0, [], fun _ => none, fun _ => 0, rfl, ⟨fun h => absurd h (Nat.not_lt_zero _), fun j hj => absurd hj (Nat.not_lt_zero _), by decide⟩, Nat.le_refl _⟩
 ·simp [Value.cells] at hcs
  obtain ⟨rfl, rfl, rfl⟩ := hcs
  simp only [if_true] at hmm
  subst hmm
  obtain ⟨b, off, spot⟩ := x
  have h0 : ∀ i, i < m -> ∃ z : RowP × Option Addr × Nat, (∀ k, k < 2 -> w.cell? ((⟨b, off, spot⟩ : Addr).add (i * 2 + k)) = some (rowV [z.1] (fun _ => z.2.1) (fun _ => z.2.2) 0 k)) /\ RowM w z.1 z.2.1 z.2.2 := by
   intro i hi
   obtain ⟨m0, v0, y0, e0, t0⟩ := hc i hi 0 _ rfl
   obtain ⟨m1, v1, y1, e1, t1⟩ := hc i hi 1 _ rfl
   obtain ⟨k0, z0, -, w0⟩ := DataW.trod_string Tryz.underlying9 t0
   obtain ⟨A, cap, L, rfl, hl2, hl3, hS, hz⟩ := opened_strsF t1
   simp at z0
   subst z0
   refine ⟨⟨⟨k0, L⟩, A, cap⟩, fun k hk => ?_, ⟨hS, ⟨hl2, hl3⟩, hz, by unfold maxLen at w0; exact w0⟩⟩
   match k, hk with
   | 0, _ => exact e0
   | 1, _ => exact e1
  obtain ⟨F, hF⟩ := choose_ltF (row0, none, 0) h0
  have hk : ∀ j, j < n0 -> rA ((List.range n0).map fun i => (F i).1) j = (F j).1 := fun j hj => by simp [rA, List.getD_eq_getElem?_getD, hj]
  refine ⟨some ⟨b, off, spot⟩, m, (List.range n0).map fun i => (F i).1, fun j => (F j).2.1, fun j => (F j).2.2, by simp, ⟨fun hn => ?_, fun j hj => ?_, by simp; unfold maxLen at hm; omega⟩, by simpa using hl⟩
  ·have hn' : 0 < n0 := by simpa using hn
   have hs : spot = none := by
    have h1 := (hF 0 (by omega)).1 0 (by decide)
    have := World.cell?_spot h1
    rw [Addr.add, if_pos (by simp)] at this
    exact this
   subst hs
   have hadd : ∀ k, (⟨b, off, none⟩ : Addr).add k = ⟨b, off + k, none⟩ := by intro k; unfold Addr.add; split <;> simp_all
   refine ⟨b, off, rfl, ?_, fun j hj i hi => ?_⟩
   ·have := (hF 0 (by omega)).1 0 (by decide)
    rw [hadd] at this
    exact World.block_lt_of_cell? w _ this
   ·have hj' : j < n0 := by simpa using hj
    have h1 := (hF j (by omega)).1 i hi
    rw [hadd, <- Nat.add_assoc] at h1
    rw [h1]
    unfold rowV
    rw [hk j hj']
    rfl
  ·have hj' : j < n0 := by simpa using hj
   rw [hk j hj']
   exact (hF j (by omega)).2
set_option maxRecDepth 100000 in
theorem opened_flatrows {H : Type} {enc : TypeId × Value -> H} {w : World} {base : Nat} {v : Value} {d : DataW H} {p : List MemPlace}
  {r : Reach} {b0 : Nat} (hv : Value.okWide Tryz.prog w r b0 25 v) (h : DataW.Trod enc Tryz.prog w base (fun _ => true) true 25 v d p) :
  ∃ L cap rs RA RC, v = .slice L rs.length cap /\ RowsM w L rs RA RC := by
 obtain ⟨L, cap, rs, RA, RC, h1, h2, -⟩ := opened_flatrowsC hv h
 exact ⟨L, cap, rs, RA, RC, h1, h2⟩
end Go.Proofs.YthjlleifpnpfgaaGreatDoor
