/- Words for the join of a walk and a row: a row of a flat file opened, and a slice of them. -/
import Derived.Test.YtbnjejenejoibaaGreatDoorJ7
import Derived.Test.YtbnjejenejoibaaGreatDoorV3
import Derived.Deep.Strs
import Derived.Test.YtbnjejenejoibaaGreatDoorSQU
import Derived.SizedLaws
-- merged: J9 J10 J11
namespace Go.Proofs.YtbnjejenejoibaaGreatDoor
open Go.ChangeShapes Go.WideShapes Go.ChangeAt Go.RowKit Go.Deep Go.Joins
set_option linter.unusedVariables false
set_option linter.unusedSimpArgs false
set_option maxRecDepth 100000 in
theorem opened_strsF {H : Type} {enc : TypeId × Value -> H} {w : World} {base fuel : Nat} {v : Value} {y : DataW H × List MemPlace}
  (h : DataW.trod enc Tryz.prog w base (fun _ => true) true fuel 49 [v] = some y) : ∃ A cap L, v = .slice A L.length cap /\ L.length <= cap /\ cap <= 9223372036854775807 /\ Svs w A L /\ ∀ s ∈ L, s.size <= 9223372036854775807 := by
 rcases open_strs Tryz.underlying49 Tryz.underlying9 (by kernel_rfl) h with ⟨hcs, -⟩ | ⟨a, l, c, m, Sx, hcs, -, hl, hm, hmm, -, hc⟩
 ·simp at hcs
  subst hcs
  exact ⟨none, 0, [], rfl, Nat.le_refl 0, by omega, fun h => absurd h (by decide), fun s hs => by cases hs⟩
 ·simp at hcs
  subst hcs
  simp only [if_true] at hmm
  subst hmm
  obtain ⟨b, off, spot⟩ := a
  unfold maxLen at hm
  refine ⟨some ⟨b, off, spot⟩, m, (List.range l).map Sx, by simp, by simpa using hl, by omega, fun hn => ?_, fun s hs => ?_⟩
  ·have hn' : 0 < l := by simpa using hn
   have hs : spot = none := by
    have h1 := (hc 0 (by omega)).1
    have := World.cell?_spot h1
    rw [Addr.add, if_pos (by simp)] at this
    exact this
   subst hs
   have hadd : ∀ k, (⟨b, off, none⟩ : Addr).add k = ⟨b, off + k, none⟩ := by intro k; unfold Addr.add; split <;> simp_all
   refine ⟨b, off, rfl, ?_, fun j hj => ?_⟩
   ·have := (hc 0 (by omega)).1
    rw [hadd] at this
    exact World.block_lt_of_cell? w _ this
   ·have hj' : j < l := by simpa using hj
    have h1 := (hc j (by omega)).1
    rw [hadd] at h1
    rw [h1]
    unfold wd
    simp [List.getD_eq_getElem?_getD, hj']
  ·obtain ⟨i, hi, rfl⟩ := List.mem_map.1 hs
   rw [List.mem_range] at hi
   have := (hc i (by omega)).2
   unfold maxLen at this
   omega
set_option maxRecDepth 100000 in
theorem opened_flatrowsC {H : Type} {enc : TypeId × Value -> H} {w : World} {base : Nat} {v : Value} {d : DataW H} {p : List MemPlace}
  {r : Reach} {b0 : Nat} (hv : Value.okWide Tryz.prog w r b0 25 v) (h : DataW.Trod enc Tryz.prog w base (fun _ => true) true 25 v d p) :
  ∃ L cap rs RA RC, v = .slice L rs.length cap /\ RowsM w L rs RA RC /\ rs.length <= cap := by
 obtain ⟨A0, n0, c0, rfl⟩ := okWide_slice Tryz.underlying25 hv
 obtain ⟨fuel, h⟩ := h
 rcases open_rows Tryz.underlying25 Tryz.underlying51 (by kernel_rfl) (by kernel_rfl) h with hcs | ⟨x, l, c, m, hcs, hl, hm, hmm, hc⟩
 ·simp [Value.cells] at hcs
  obtain ⟨rfl, rfl, rfl⟩ := hcs
  exact ⟨none, 0, [], fun _ => none, fun _ => 0, rfl, ⟨fun h => absurd h (Nat.not_lt_zero _), fun j hj => absurd hj (Nat.not_lt_zero _), by decide⟩, Nat.le_refl _⟩
 ·simp [Value.cells] at hcs
  obtain ⟨rfl, rfl, rfl⟩ := hcs
  simp only [if_true] at hmm
  subst hmm
  obtain ⟨b, off, spot⟩ := x
  have h0 : ∀ i, i < m -> ∃ z : RowP × Option Addr × Nat, (∀ k, k < 2 -> w.cell? ((⟨b, off, spot⟩ : Addr).add (i * 2 + k)) = some (rowV [z.1] (fun _ => z.2.1) (fun _ => z.2.2) 0 k)) /\ RowM w z.1 z.2.1 z.2.2 := by
   intro i hi
   obtain ⟨m0, v0, y0, e0, t0⟩ := hc i hi 0 _ rfl
   obtain ⟨m1, v1, y1, e1, t1⟩ := hc i hi 1 _ rfl
   obtain ⟨k0, z0, -, w0⟩ := DataW.trod_string Tryz.underlying9 t0
   obtain ⟨A, cap, L, rfl, hl2, hl3, hS, hz⟩ := opened_strsF t1
   simp at z0
   subst z0
   refine ⟨⟨⟨k0, L⟩, A, cap⟩, fun k hk => ?_, ⟨hS, ⟨hl2, hl3⟩, hz, by unfold maxLen at w0; exact w0⟩⟩
   match k, hk with
   | 0, _ => exact e0
   | 1, _ => exact e1
  obtain ⟨F, hF⟩ := choose_ltF (row0, none, 0) h0
  have hk : ∀ j, j < n0 -> rA ((List.range n0).map fun i => (F i).1) j = (F j).1 := fun j hj => by simp [rA, List.getD_eq_getElem?_getD, hj]
  refine ⟨some ⟨b, off, spot⟩, m, (List.range n0).map fun i => (F i).1, fun j => (F j).2.1, fun j => (F j).2.2, by simp, ⟨fun hn => ?_, fun j hj => ?_, by simp; unfold maxLen at hm; omega⟩, by simpa using hl⟩
  ·have hn' : 0 < n0 := by simpa using hn
   have hs : spot = none := by
    have h1 := (hF 0 (by omega)).1 0 (by decide)
    have := World.cell?_spot h1
    rw [Addr.add, if_pos (by simp)] at this
    exact this
   subst hs
   have hadd : ∀ k, (⟨b, off, none⟩ : Addr).add k = ⟨b, off + k, none⟩ := by intro k; unfold Addr.add; split <;> simp_all
   refine ⟨b, off, rfl, ?_, fun j hj i hi => ?_⟩
   ·have := (hF 0 (by omega)).1 0 (by decide)
    rw [hadd] at this
    exact World.block_lt_of_cell? w _ this
   ·have hj' : j < n0 := by simpa using hj
    have h1 := (hF j (by omega)).1 i hi
    rw [hadd, <- Nat.add_assoc] at h1
    rw [h1]
    unfold rowV
    rw [hk j hj']
    rfl
  ·have hj' : j < n0 := by simpa using hj
   rw [hk j hj']
   exact (hF j (by omega)).2
set_option maxRecDepth 100000 in
theorem opened_flatrowsZ {H : Type} {enc : TypeId × Value -> H} {w : World} {base : Nat} {v : Value} {d : DataW H} {p : List MemPlace}
  {r : Reach} {b0 : Nat} (hv : Value.okWide Tryz.prog w r b0 25 v) (h : DataW.Trod enc Tryz.prog w base (fun _ => true) true 25 v d p) :
  ∃ L cap rs RA RC, v = .slice L rs.length cap /\ RowsM w L rs RA RC /\ rs.length <= cap /\ cap <= 9223372036854775807 /\ ((d = .nil /\ cap = 0) ∨ ∃ el sp, d = .slice el sp /\ el.length + sp.length = cap) := by
 obtain ⟨L, cap, rs, RA, RC, e, h1, h2⟩ := opened_flatrowsC hv h
 refine ⟨L, cap, rs, RA, RC, e, h1, h2, ?_⟩
 obtain ⟨fuel, h⟩ := h
 rcases open_slice Tryz.underlying25 h with ⟨hcs, hx⟩ | ⟨a, len, c, m, n, D, Pl, hcs, hb, hl, hm, hmm, hx, hi⟩
 ·rw [e] at hcs
  simp [Value.cells] at hcs
  obtain ⟨_, _, hc⟩ := hcs
  subst hc
  exact ⟨by decide, .inl ⟨(Prod.mk.inj hx).1, rfl⟩⟩
 ·rw [e] at hcs
  simp [Value.cells] at hcs
  obtain ⟨_, _, hc⟩ := hcs
  subst hc
  simp only [if_true] at hmm
  subst hmm
  refine ⟨by unfold maxLen at hm; exact hm, .inr ⟨_, _, (Prod.mk.inj hx).1, ?_⟩⟩
  simp
  omega
theorem rows_reach {H : Type} {ts : List TypeId} {ds : List (DataW H)} {j : Nat} {d : DataW H} {cap : Nat} (h : (DataW.weightsEach Tryz.prog ts ds).all (· <= reachBytes) = true) (ht : ts[j]? = some 25) (hd : ds[j]? = some d) (hz : (d = .nil /\ cap = 0) ∨ ∃ el sp, d = .slice el sp /\ el.length + sp.length = cap) : cap * 40 <= 140737488351232 := by
 rcases hz with ⟨_, rfl⟩ | ⟨el, sp, rfl, hc⟩
 ·omega
 ·have h1 := sized_slice h ht hd Tryz.underlying25
  rw [hc, show (Tryz.prog : Program).bytesOf 51 = 40 by kernel_rfl] at h1
  unfold reachBytes at h1
  omega
end Go.Proofs.YtbnjejenejoibaaGreatDoor
