/- Words for the join of a walk and a row: a slice of decimals opened. Words for the join of a walk and a row: a format opened: rows of kinds, each with a row of columns. Words for the join of a walk and a row: a row of a flat file opened, and a slice of them. The statement of FlatLinesMatchSpec: for every input the law returns true, and the input reads as it did; the listed tables are tied to the program's text. -/
import Derived.Test.YtklblmbacnnoeaaGreatDoorFA
import Derived.Test.YtklblmbacnnoeaaGreatDoorF0
import Derived.Test.YtklblmbacnnoeaaGreatDoorJ5
import Derived.Test.YtklblmbacnnoeaaGreatDoorE1
import Derived.Test.YtklblmbacnnoeaaGreatDoorV3
import Derived.Deep.Strs
import Derived.SizedLaws
import Derived.Deep.DeepWitnessRowRef
-- merged: J2 J7 J9 P24

namespace Go.Proofs.YtklblmbacnnoeaaGreatDoor
open Go.ChangeShapes Go.WideShapes Go.ChangeAt Go.RowKit Go.Deep
set_option linter.unusedVariables false

section
variable {H : Type} {enc : TypeId × Value → H} {P : Program} {w : World} {base : Nat} {spare : Nat → Bool} {held : Bool}
/-- A slice of structs opened to its cells. -/
theorem open_rows {t e : TypeId} {fs : Array Field} {fuel : Nat} {cs : List Value} {x : DataW H × List MemPlace} (ht : P.underlying t = some (.slice e)) (he : P.underlying e = some (.struct fs))
    (hone : oneCellFields P fs = true) (hC : P.cellsOf e = fs.size) (h : DataW.trod enc P w base spare held fuel t cs = some x) :
    cs = [.slice Option.none 0 0] ∨
    ∃ (a : Addr) (len cap m : Nat), cs = [.slice (some a) len cap] ∧ len ≤ cap ∧ cap ≤ maxLen ∧ m = (if spare a.block then cap else len) ∧
      ∀ i, i < m → ∀ (j : Nat) (f : Field), fs[j]? = some f → ∃ (n : Nat) (v : Value) (y : DataW H × List MemPlace), w.cell? (a.add (i * fs.size + j)) = some v ∧ DataW.trod enc P w base spare held n f.type [v] = some y := by
  rcases open_slice ht h with h0 | ⟨a, len, cap, m, n, D, Pl, hcs, hb, hl, hm, hmm, hx, hi⟩
  · exact .inl h0.1
  · refine .inr ⟨a, len, cap, m, hcs, hl, hm, hmm, fun i him => ?_⟩
    obtain ⟨cs', hc, ht'⟩ := hi i him
    rw [hC] at hc
    obtain ⟨ys, n', hn', hy, hlen, hyl, hf⟩ := DataW.trod_struct he ht'
    obtain ⟨_, hcl, hat⟩ := World.cells?_some hc
    intro j f hj
    obtain ⟨ho, hk⟩ := hone_of hone j f hj
    have hjl : j < fs.size := (Array.getElem?_eq_some_iff.1 hj).1
    have hcell := hat j hjl
    have hv : cs'[j]? = some (cs'[j]'(by omega)) := List.getElem?_eq_getElem (by omega)
    have h1 := hf j f hj
    rw [ho, hk] at h1
    have hone' : (cs'.drop j).take 1 = [cs'[j]'(by omega)] := by
      rw [List.drop_eq_getElem_cons (by omega)]
      rfl
    rw [hone'] at h1
    have hys : ys[j]? = some (ys[j]'(by omega)) := List.getElem?_eq_getElem (by omega)
    refine ⟨_, _, _, ?_, h1.trans hys⟩
    rw [← Go.Deep.add_add, hcell, hv]
end

end Go.Proofs.YtklblmbacnnoeaaGreatDoor

namespace Go.Proofs.YtklblmbacnnoeaaGreatDoor
open Go.ChangeShapes Go.WideShapes Go.ChangeAt Go.RowKit Go.Deep Go.Joins
set_option linter.unusedVariables false
set_option linter.unusedSimpArgs false

section
variable {H : Type} {enc : TypeId × Value → H} {P : Program} {w : World} {base : Nat} {spare : Nat → Bool} {held : Bool}
/-- A struct by value, taken apart. -/
theorem open_structF {r : Reach} {b0 : Nat} {t : TypeId} {fs : Array Field} {v : Value} {d : DataW H} {p : List MemPlace} (hs : P.underlying t = some (.struct fs)) (hone : oneCellFields P fs = true) (hC : P.cellsOf t = fs.size)
    (hv : Value.okWide P w r b0 t v) (h : DataW.Trod enc P w base spare held t v d p) :
    ∃ (cs : List Value) (n : Nat), v = .agg ⟨cs⟩ ∧ cs.length = fs.size ∧ ∀ (j : Nat) (f : Field), fs[j]? = some f → ∃ c y, cs[j]? = some c ∧ DataW.trod enc P w base spare held n f.type [c] = some y := by
  obtain ⟨⟨cs⟩, rfl, hsz⟩ := okWide_struct hs hv
  have hl : cs.length = fs.size := hsz.trans hC
  obtain ⟨fuel, hf⟩ := h
  obtain ⟨ys, n, _, _, _, hyl, hg⟩ := DataW.trod_struct hs hf
  refine ⟨cs, n, rfl, hl, fun j f hj => ?_⟩
  obtain ⟨ho, hk⟩ := hone_of hone j f hj
  have hjl : j < fs.size := (Array.getElem?_eq_some_iff.1 hj).1
  have hone' : (cs.drop j).take 1 = [cs[j]'(by omega)] := by
    rw [List.drop_eq_getElem_cons (by omega)]
    rfl
  have h1 := hg j f hj
  rw [ho, hk] at h1
  simp only [Value.cells, hone'] at h1
  exact ⟨_, _, List.getElem?_eq_getElem (by omega), h1.trans (List.getElem?_eq_getElem (by omega))⟩
end
theorem choose_ltF {α : Type} (d : α) {n : Nat} {p : Nat → α → Prop} (h : ∀ i, i < n → ∃ z, p i z) : ∃ F : Nat → α, ∀ i, i < n → p i (F i) :=
  ⟨fun i => if hi : i < n then Classical.choose (h i hi) else d, fun i hi => by
    show p i (if hi : i < n then Classical.choose (h i hi) else d)
    rw [dif_pos hi]
    exact Classical.choose_spec (h i hi)⟩

set_option maxRecDepth 100000 in
theorem opened_cols {H : Type} {enc : TypeId × Value → H} {w : World} {base fuel : Nat} {v : Value} {y : DataW H × List MemPlace}
    (h : DataW.trod enc Tryz.prog w base (fun _ => true) true fuel 65 [v] = some y) : ∃ A cap cs, v = .slice A cs.length cap ∧ cs.length ≤ cap ∧ Cols w A cs := by
  rcases open_rows Tryz.underlying65 Tryz.underlying60 (by kernel_rfl) (by kernel_rfl) h with hcs | ⟨x, l, c, m, hcs, hl, hm, hmm, hc⟩
  · simp at hcs
    subst hcs
    exact ⟨none, 0, [], rfl, Nat.le_refl 0, ⟨(fun c hc => by cases hc), by decide⟩, fun h => absurd h (by decide)⟩
  · simp at hcs
    subst hcs
    simp only [if_true] at hmm
    subst hmm
    obtain ⟨b, off, spot⟩ := x
    have h0 : ∀ i, i < m → ∃ z : Col, (∀ k, k < 8 → w.cell? ((⟨b, off, spot⟩ : Addr).add (i * 8 + k)) = some (colV [z] 0 k)) ∧ z.name.size ≤ 9223372036854775807 := by
      intro i hi
      obtain ⟨n0, v0, y0, e0, t0⟩ := hc i hi 0 _ rfl
      obtain ⟨n1, v1, y1, e1, t1⟩ := hc i hi 1 _ rfl
      obtain ⟨n2, v2, y2, e2, t2⟩ := hc i hi 2 _ rfl
      obtain ⟨n3, v3, y3, e3, t3⟩ := hc i hi 3 _ rfl
      obtain ⟨n4, v4, y4, e4, t4⟩ := hc i hi 4 _ rfl
      obtain ⟨n5, v5, y5, e5, t5⟩ := hc i hi 5 _ rfl
      obtain ⟨n6, v6, y6, e6, t6⟩ := hc i hi 6 _ rfl
      obtain ⟨n7, v7, y7, e7, t7⟩ := hc i hi 7 _ rfl
      obtain ⟨k0, z0, -, hw⟩ := DataW.trod_string Tryz.underlying9 t0
      obtain ⟨k1, z1, -, -⟩ := DataW.trod_int Tryz.underlying3 t1
      obtain ⟨k2, z2, -, -⟩ := DataW.trod_int Tryz.underlying3 t2
      obtain ⟨k3, z3, -, -⟩ := DataW.trod_int Tryz.underlying3 t3
      obtain ⟨k4, z4, -, -⟩ := DataW.trod_int Tryz.underlying3 t4
      obtain ⟨k5, z5, -⟩ := DataW.trod_bool Tryz.underlying4 t5
      obtain ⟨k6, z6, -, -⟩ := DataW.trod_int Tryz.underlying5 t6
      obtain ⟨k7, z7, -⟩ := DataW.trod_bool Tryz.underlying4 t7
      simp at z0 z1 z2 z3 z4 z5 z6 z7
      subst z0 z1 z2 z3 z4 z5 z6 z7
      refine ⟨⟨k0, k1, k2, k3, k4, k5, k6, k7⟩, fun k hk => ?_, by unfold maxLen at hw; omega⟩
      match k, hk with
      | 0, _ => exact e0
      | 1, _ => exact e1
      | 2, _ => exact e2
      | 3, _ => exact e3
      | 4, _ => exact e4
      | 5, _ => exact e5
      | 6, _ => exact e6
      | 7, _ => exact e7
    obtain ⟨F, hF⟩ := choose_ltF col0 h0
    refine ⟨some ⟨b, off, spot⟩, m, (List.range l).map F, by simp, by simpa using hl, ⟨fun c hc => ?_, by simp; unfold maxLen at hm; omega⟩, fun hn => ?_⟩
    · obtain ⟨i, hi, rfl⟩ := List.mem_map.1 hc
      rw [List.mem_range] at hi
      exact (hF i (by omega)).2
    · have hn' : 0 < l := by simpa using hn
      have hs : spot = none := by
        have h1 := (hF 0 (by omega)).1 0 (by decide)
        have := World.cell?_spot h1
        rw [Addr.add, if_pos (by simp)] at this
        exact this
      subst hs
      have hadd : ∀ k, (⟨b, off, none⟩ : Addr).add k = ⟨b, off + k, none⟩ := by intro k; unfold Addr.add; split <;> simp_all
      refine ⟨b, off, rfl, ?_, fun j hj i hi => ?_⟩
      · have := (hF 0 (by omega)).1 0 (by decide)
        rw [hadd] at this
        exact World.block_lt_of_cell? w _ this
      · have hj' : j < l := by simpa using hj
        have e1 : cA ((List.range l).map F) j = F j := by simp [cA, List.getD_eq_getElem?_getD, hj']
        have h1 := (hF j (by omega)).1 i hi
        rw [hadd, ← Nat.add_assoc] at h1
        rw [h1]
        unfold colV
        rw [e1]
        rfl

set_option maxRecDepth 100000 in
theorem opened_kinds {H : Type} {enc : TypeId × Value → H} {w : World} {base fuel : Nat} {v : Value} {y : DataW H × List MemPlace}
    (h : DataW.trod enc Tryz.prog w base (fun _ => true) true fuel 22 [v] = some y) : ∃ A cap ks FA FC, v = .slice A ks.length cap ∧ ks.length ≤ cap ∧ cap ≤ 9223372036854775807 ∧ Kinds w A ks FA FC := by
  rcases open_rows Tryz.underlying22 Tryz.underlying67 (by kernel_rfl) (by kernel_rfl) h with hcs | ⟨x, l, c, m, hcs, hl, hm, hmm, hc⟩
  · simp at hcs
    subst hcs
    exact ⟨none, 0, [], fun _ => none, fun _ => 0, rfl, Nat.le_refl 0, by omega, ⟨(fun c hc => by cases hc), by decide⟩, fun h => absurd h (by decide), fun j hj => absurd hj (Nat.not_lt_zero _)⟩
  · simp at hcs
    subst hcs
    simp only [if_true] at hmm
    subst hmm
    obtain ⟨b, off, spot⟩ := x
    have h0 : ∀ i, i < m → ∃ z : RKd × Option Addr × Nat, (∀ k, k < 4 → w.cell? ((⟨b, off, spot⟩ : Addr).add (i * 4 + k)) = some (kindV [z.1] (fun _ => z.2.1) (fun _ => z.2.2) 0 k)) ∧ (z.1.tag.size ≤ 9223372036854775807 ∧ z.1.under.size ≤ 9223372036854775807) ∧ Cols w z.2.1 z.1.fields ∧ z.1.fields.length ≤ z.2.2 := by
      intro i hi
      obtain ⟨n0, v0, y0, e0, t0⟩ := hc i hi 0 _ rfl
      obtain ⟨n1, v1, y1, e1, t1⟩ := hc i hi 1 _ rfl
      obtain ⟨n2, v2, y2, e2, t2⟩ := hc i hi 2 _ rfl
      obtain ⟨n3, v3, y3, e3, t3⟩ := hc i hi 3 _ rfl
      obtain ⟨k0, z0, -, hw0⟩ := DataW.trod_string Tryz.underlying9 t0
      obtain ⟨A1, c1, cs1, rfl, hl1, hC1⟩ := opened_cols t1
      obtain ⟨k2, z2, -, -⟩ := DataW.trod_int Tryz.underlying3 t2
      obtain ⟨k3, z3, -, hw3⟩ := DataW.trod_string Tryz.underlying9 t3
      simp at z0 z2 z3
      subst z0 z2 z3
      refine ⟨⟨⟨k0, cs1, k2, k3⟩, A1, c1⟩, fun k hk => ?_, ⟨by unfold maxLen at hw0; omega, by unfold maxLen at hw3; omega⟩, hC1, hl1⟩
      match k, hk with
      | 0, _ => exact e0
      | 1, _ => exact e1
      | 2, _ => exact e2
      | 3, _ => exact e3
    obtain ⟨F, hF⟩ := choose_ltF (kind0, none, 0) h0
    have hk : ∀ j, j < l → kA ((List.range l).map fun i => (F i).1) j = (F j).1 := fun j hj => by simp [kA, List.getD_eq_getElem?_getD, hj]
    refine ⟨some ⟨b, off, spot⟩, m, (List.range l).map fun i => (F i).1, fun j => (F j).2.1, fun j => (F j).2.2, by simp, by simpa using hl, by unfold maxLen at hm; omega, ⟨fun c hc => ?_, by simp; unfold maxLen at hm; omega⟩, fun hn => ?_, fun j hj => ?_⟩
    · obtain ⟨i, hi, rfl⟩ := List.mem_map.1 hc
      rw [List.mem_range] at hi
      exact (hF i (by omega)).2.1
    · have hn' : 0 < l := by simpa using hn
      have hs : spot = none := by
        have h1 := (hF 0 (by omega)).1 0 (by decide)
        have := World.cell?_spot h1
        rw [Addr.add, if_pos (by simp)] at this
        exact this
      subst hs
      have hadd : ∀ k, (⟨b, off, none⟩ : Addr).add k = ⟨b, off + k, none⟩ := by intro k; unfold Addr.add; split <;> simp_all
      refine ⟨b, off, rfl, ?_, fun j hj i hi => ?_⟩
      · have := (hF 0 (by omega)).1 0 (by decide)
        rw [hadd] at this
        exact World.block_lt_of_cell? w _ this
      · have hj' : j < l := by simpa using hj
        have h1 := (hF j (by omega)).1 i hi
        rw [hadd, ← Nat.add_assoc] at h1
        rw [h1]
        unfold kindV
        rw [hk j hj']
        rfl
    · have hj' : j < l := by simpa using hj
      rw [hk j hj']
      exact (hF j (by omega)).2.2

set_option maxRecDepth 100000 in
theorem opened_fmt {H : Type} {enc : TypeId × Value → H} {w : World} {r : Reach} {b0 base : Nat} {v : Value} {d : DataW H} {p : List MemPlace}
    (hv : Value.okWide Tryz.prog w r b0 24 v) (h : DataW.Trod enc Tryz.prog w base (fun _ => true) true 24 v d p) :
    ∃ (f : Fmt) (A : Option Addr) (c : Nat) (FA : Nat → Option Addr) (FC : Nat → Nat), v = .agg #[.int .u8 f.mark, .int .u8 f.quote, .slice A f.kinds.length c, .string f.head, .string f.tail, .string f.count, .string f.sum] ∧ Kinds w A f.kinds FA FC ∧ f.kinds.length ≤ c ∧ c ≤ 9223372036854775807 ∧ (0 ≤ f.mark ∧ f.mark ≤ 255) ∧ (0 ≤ f.quote ∧ f.quote ≤ 255) := by
  obtain ⟨cs, n, rfl, hl, hg⟩ := open_structF Tryz.underlying24 (by kernel_rfl) (by kernel_rfl) hv h
  obtain ⟨c0, y0, e0, t0⟩ := hg 0 _ rfl
  obtain ⟨c1, y1, e1, t1⟩ := hg 1 _ rfl
  obtain ⟨c2, y2, e2, t2⟩ := hg 2 _ rfl
  obtain ⟨c3, y3, e3, t3⟩ := hg 3 _ rfl
  obtain ⟨c4, y4, e4, t4⟩ := hg 4 _ rfl
  obtain ⟨c5, y5, e5, t5⟩ := hg 5 _ rfl
  obtain ⟨c6, y6, e6, t6⟩ := hg 6 _ rfl
  match cs, hl with
  | [a0, a1, a2, a3, a4, a5, a6], _ =>
    simp at e0 e1 e2 e3 e4 e5 e6
    subst e0 e1 e2 e3 e4 e5 e6
    obtain ⟨k0, z0, -, w0⟩ := DataW.trod_int Tryz.underlying5 t0
    obtain ⟨k1, z1, -, w1⟩ := DataW.trod_int Tryz.underlying5 t1
    obtain ⟨A, cap, ks, FA, FC, rfl, hl2, hl3, hK⟩ := opened_kinds t2
    obtain ⟨k3, z3, -, -⟩ := DataW.trod_string Tryz.underlying9 t3
    obtain ⟨k4, z4, -, -⟩ := DataW.trod_string Tryz.underlying9 t4
    obtain ⟨k5, z5, -, -⟩ := DataW.trod_string Tryz.underlying9 t5
    obtain ⟨k6, z6, -, -⟩ := DataW.trod_string Tryz.underlying9 t6
    simp at z0 z1 z3 z4 z5 z6
    subst z0 z1 z3 z4 z5 z6
    exact ⟨⟨k0, k1, ks, k3, k4, k5, k6⟩, A, cap, FA, FC, rfl, hK, hl2, hl3, u8_wf w0, u8_wf w1⟩
end Go.Proofs.YtklblmbacnnoeaaGreatDoor

namespace Go.Proofs.YtklblmbacnnoeaaGreatDoor
open Go.ChangeShapes Go.WideShapes Go.ChangeAt Go.RowKit Go.Deep Go.Joins
set_option linter.unusedVariables false
set_option linter.unusedSimpArgs false

set_option maxRecDepth 100000 in
theorem opened_strsF {H : Type} {enc : TypeId × Value → H} {w : World} {base fuel : Nat} {v : Value} {y : DataW H × List MemPlace}
    (h : DataW.trod enc Tryz.prog w base (fun _ => true) true fuel 25 [v] = some y) : ∃ A cap L, v = .slice A L.length cap ∧ L.length ≤ cap ∧ cap ≤ 9223372036854775807 ∧ Svs w A L ∧ ∀ s ∈ L, s.size ≤ 9223372036854775807 := by
  rcases open_strs Tryz.underlying25 Tryz.underlying9 (by kernel_rfl) h with ⟨hcs, -⟩ | ⟨a, l, c, m, Sx, hcs, -, hl, hm, hmm, -, hc⟩
  · simp at hcs
    subst hcs
    exact ⟨none, 0, [], rfl, Nat.le_refl 0, by omega, fun h => absurd h (by decide), fun s hs => by cases hs⟩
  · simp at hcs
    subst hcs
    simp only [if_true] at hmm
    subst hmm
    obtain ⟨b, off, spot⟩ := a
    unfold maxLen at hm
    refine ⟨some ⟨b, off, spot⟩, m, (List.range l).map Sx, by simp, by simpa using hl, by omega, fun hn => ?_, fun s hs => ?_⟩
    · have hn' : 0 < l := by simpa using hn
      have hs : spot = none := by
        have h1 := (hc 0 (by omega)).1
        have := World.cell?_spot h1
        rw [Addr.add, if_pos (by simp)] at this
        exact this
      subst hs
      have hadd : ∀ k, (⟨b, off, none⟩ : Addr).add k = ⟨b, off + k, none⟩ := by intro k; unfold Addr.add; split <;> simp_all
      refine ⟨b, off, rfl, ?_, fun j hj => ?_⟩
      · have := (hc 0 (by omega)).1
        rw [hadd] at this
        exact World.block_lt_of_cell? w _ this
      · have hj' : j < l := by simpa using hj
        have h1 := (hc j (by omega)).1
        rw [hadd] at h1
        rw [h1]
        unfold wd
        simp [List.getD_eq_getElem?_getD, hj']
    · obtain ⟨i, hi, rfl⟩ := List.mem_map.1 hs
      rw [List.mem_range] at hi
      have := (hc i (by omega)).2
      unfold maxLen at this
      omega

set_option maxRecDepth 100000 in
theorem opened_flatrow {H : Type} {enc : TypeId × Value → H} {w : World} {r : Reach} {b0 base : Nat} {v : Value} {d : DataW H} {p : List MemPlace}
    (hv : Value.okWide Tryz.prog w r b0 27 v) (h : DataW.Trod enc Tryz.prog w base (fun _ => true) true 27 v d p) :
    ∃ (x : RowP) (A : Option Addr) (c : Nat), v = .agg #[.string x.tag, .slice A x.vals.length c] ∧ RowM w x A c := by
  obtain ⟨cs, n, rfl, hl, hg⟩ := open_structF Tryz.underlying27 (by kernel_rfl) (by kernel_rfl) hv h
  obtain ⟨c0, y0, e0, t0⟩ := hg 0 _ rfl
  obtain ⟨c1, y1, e1, t1⟩ := hg 1 _ rfl
  match cs, hl with
  | [a0, a1], _ =>
    simp at e0 e1
    subst e0 e1
    obtain ⟨k0, z0, -, w0⟩ := DataW.trod_string Tryz.underlying9 t0
    obtain ⟨A, cap, L, rfl, hl2, hl3, hS, hz⟩ := opened_strsF t1
    simp at z0
    subst z0
    exact ⟨⟨k0, L⟩, A, cap, rfl, ⟨hS, ⟨hl2, hl3⟩, hz, by unfold maxLen at w0; exact w0⟩⟩
end Go.Proofs.YtklblmbacnnoeaaGreatDoor

namespace Go.Proofs.YtklblmbacnnoeaaGreatDoor
open Go.ChangeShapes Go.WideShapes Go.ChangeAt Go.RowKit Go.Deep Go.Joins
open Go.ChangeMaps (open_string)
set_option linter.unusedVariables false
set_option linter.unusedSimpArgs false

noncomputable def low_24 : Nat := (World.holding Tryz.prog default ⟨#[], #[], []⟩).heap.size
noncomputable def putErr (h : Array Obj) (g k : Nat) : Array Obj := h.modify g fun
  | .cells _ t frozen => .cells #[.iface 264 (.pointer (some ⟨k, 0, none⟩))] t frozen
  | o => o

/-- A world for the witness: the settled one, the listed tables laid. -/
noncomputable def lw_24 (os : Os) : World :=
  let w0 := World.holding Tryz.prog os ⟨#[.cells #[.string ⟨#[118, 97, 108, 117, 101, 32, 111, 117, 116, 32, 111, 102, 32, 114, 97, 110, 103, 101]⟩] 266, .cells #[.string ⟨#[105, 110, 118, 97, 108, 105, 100, 32, 115, 121, 110, 116, 97, 120]⟩] 266], #[], []⟩
  { w0 with heap := putTab (putErr (putErr (putTab (putTab (putTab (putTab (w0.heap) 7 Rows.laid_math_bits_deBruijn32tab) 8 Rows.laid_math_bits_deBruijn64tab) 4 Rows.laid_internal_strconv_uint64pow10) 3 Rows.laid_unicode_utf8_acceptRanges) 6 (low_24 + 0)) 5 (low_24 + 1)) 2 Rows.laid_unicode_utf8_first }
theorem lwm_24 (os : Os) : laidMet Tryz.prog Rows.flatLinesMatchSpecRow.laid ((lw_24 os).forCall (fun _ _ => 0) ⟨#[], #[.agg #[.int .u8 0, .int .u8 0, .slice Option.none 0 0, .string ⟨#[]⟩, .string ⟨#[]⟩, .string ⟨#[]⟩, .string ⟨#[]⟩], .agg #[.string ⟨#[]⟩, .slice Option.none 0 0]], []⟩).memory :=
  laidMet_of_run' 8 (by kernel_rfl) (by kernel_rfl)
theorem reads_24 (os : Os) {H : Type} (enc : TypeId × Value → H) : ∃ places, DataW.whole enc Tryz.prog ((lw_24 os).forCall (fun _ _ => 0) ⟨#[], #[.agg #[.int .u8 0, .int .u8 0, .slice Option.none 0 0, .string ⟨#[]⟩, .string ⟨#[]⟩, .string ⟨#[]⟩, .string ⟨#[]⟩], .agg #[.string ⟨#[]⟩, .slice Option.none 0 0]], []⟩).memory Tryz.f3.params.toList Rows.flatLinesMatchSpecSpec.vars false #[.agg #[.int .u8 0, .int .u8 0, .slice Option.none 0 0, .string ⟨#[]⟩, .string ⟨#[]⟩, .string ⟨#[]⟩, .string ⟨#[]⟩], .agg #[.string ⟨#[]⟩, .slice Option.none 0 0]].toList 8 = some ([.agg [.lit (.int .u8 0), .lit (.int .u8 0), .nil, .lit (.string []), .lit (.string []), .lit (.string []), .lit (.string [])], .agg [.lit (.string []), .nil]], [], places) :=
  ⟨[], by kernel_rfl⟩

set_option maxRecDepth 100000 in
theorem contract_24 (H : Type) (enc : TypeId × Value → H) (W : World) (base : Nat) (args : Array Value) (ds gs : List (DataW H)) (before : List MemPlace)
    (hval0 : ∀ (j : Nat) t v, Tryz.f3.params[j]? = some t → args[j]? = some v → Value.okWide Tryz.prog W .any base t v)
    (hW : DataW.Whole enc Tryz.prog Tryz.f3.params.toList Rows.flatLinesMatchSpecSpec.vars false W args.toList ds gs before) (hsz : (DataW.weightsEach Tryz.prog (Tryz.f3.params.toList ++ (OpenSpec.ofChange Rows.flatLinesMatchSpecSpec).bare.plain.varTypes Tryz.prog) (ds ++ gs)).all (· ≤ reachBytes) = true) (hL : laidMetH Tryz.prog Rows.flatLinesMatchSpecRow.laid W) (hsh : W.ShapedOpen Tryz.prog) :
    Calls Tryz.prog 3 args W fun e W' => ∃ v, e = .returned v ∧ Rows.flatLinesMatchSpecSpec.post enc Tryz.prog Tryz.f3 false true false false W args v W' := by
  have hval : ∀ (j : Nat) t v, Tryz.f3.params[j]? = some t → args[j]? = some v → Value.okWide Tryz.prog W .any base t v := hval0
  have hW' := hW
  obtain ⟨p, q, hA0, hV, rfl, hfz, hnd⟩ := hW
  have hA : DataW.TrodAll enc Tryz.prog W 0 (fun _ => true) true Tryz.f3.params.toList args.toList ds p := hA0
  rw [Tryz.params3] at hA hval
  obtain ⟨v0, vs0, d0, ds0, p0, q0, hargs, rfl, rfl, h0, r0⟩ := trodAll_cons hA
  obtain ⟨v1, vs1, d1, ds1, p1, q1, rfl, rfl, rfl, h1, r1⟩ := trodAll_cons r0
  obtain ⟨rfl, rfl, rfl⟩ := trodAll_nil r1
  obtain rfl : args = #[v0, v1] := by cases args; simp_all
  obtain ⟨rfl, rfl⟩ := trodVars_none hV
  have k0 := h0
  have lt0 : ∀ x ∈ p0, x.block < W.heap.size := by obtain ⟨m, hm⟩ := k0; exact DataW.trod_lt m _ _ _ hm
  obtain ⟨f0, A0, c0, FA0, FC0, rfl, hK0, hl0, hc0, hm0, hq0⟩ := opened_fmt (hval 0 24 v0 rfl rfl) h0
  have k1 := h1
  have lt1 : ∀ x ∈ p1, x.block < W.heap.size := by obtain ⟨m, hm⟩ := k1; exact DataW.trod_lt m _ _ _ hm
  obtain ⟨x1, A1, c1, rfl, hR1⟩ := opened_flatrow (hval 1 27 v1 rfl rfl) h1
  clear hA0 hval0
  refine (law_lines_i f0 A0 c0 FA0 FC0 x1 A1 c1 W hK0 hR1 hl0 hm0 hq0 (tab_of_laid (l := Rows.flatLinesMatchSpecRow.laid) (by kernel_rfl) (.tail _ (.tail _ (.head _))) (by kernel_rfl) hL) (Tryz.laysM146.s1_3 W hsh)).mono fun e W' ⟨he, bel⟩ => ?_
  subst he
  exact ⟨_, rfl, _, _, _, [], _, [], hW', trodAll_mk1 (shut_bool Tryz.underlying4 _), (trodAll_cons_mk (Below.trod laidOut (by kernel_rfl) (of_decide_eq_true (by kernel_rfl)) k0 bel lt0) (trodAll_cons_mk (Below.trod laidOut (by kernel_rfl) (of_decide_eq_true (by kernel_rfl)) k1 bel lt1) trodAll_mk0)), rfl, bel.frame _, fun h => by cases h⟩

set_option maxRecDepth 100000 in
theorem lifted_24 (os : Os) (started : os.Started) (H : Type) (enc : TypeId × Value → H) (F : Stop.Interp) :
    ReturnsInHanded {} Tryz.checked os 3 .any ((OpenSpec.ofChange Rows.flatLinesMatchSpecSpec).preRow enc Tryz.prog Tryz.f3 Rows.flatLinesMatchSpecRow.domain false Rows.flatLinesMatchSpecRow.laid) (((OpenSpec.ofChange Rows.flatLinesMatchSpecSpec).at F).post enc Tryz.prog Tryz.f3 false true false false) := by
  obtain ⟨places, hx⟩ := reads_24 os enc
  refine returnsInHanded_of_row (C := Tryz.checked) (s := OpenSpec.ofChange Rows.flatLinesMatchSpecSpec) own started (by kernel_rfl) Tryz.func3
    (witness_row_atRef (enc := enc) (C := Tryz.checked) false (lw_24 os) #[.agg #[.int .u8 0, .int .u8 0, .slice Option.none 0 0, .string ⟨#[]⟩, .string ⟨#[]⟩, .string ⟨#[]⟩, .string ⟨#[]⟩], .agg #[.string ⟨#[]⟩, .slice Option.none 0 0]] rfl (by kernel_rfl) (by kernel_rfl) (by kernel_rfl)
      (OpenSpec.preRow_of_cond 8 hx (by kernel_rfl) (fun k hk => by cases hk) (by kernel_rfl) (lwm_24 os))) ?_
  intro W base args ds gs before hval hW _ _ hsz hL hsh _
  exact contract_24 H enc W base args ds gs before hval hW hsz hL hsh

theorem said_24 : Rows.FlatLinesMatchSpecSaid :=
  OpenClaim.holds_of_cond 3 Tryz.f3 rfl rfl rfl rfl rfl rfl rfl ⟨rfl, rfl, rfl, rfl, rfl⟩ rfl rfl rfl rfl rfl (by kernel_rfl) Tryz.func3 (by kernel_rfl)
    (of_decide_eq_true (by kernel_rfl)) (by unfold Func.isWrapper; first | (rw [if_pos (by decide +kernel)]; kernel_rfl) | (rw [if_neg (by decide +kernel)]; exact ⟨rfl, rfl⟩))
    (fun os started H enc _ F => by rw [OpenClaim.pre_eq_preRow]; exact lifted_24 os started H enc F)

set_option maxRecDepth 100000 in
/-- No parameter wants a stand-in; the program's own looks are off. -/
theorem plain_24 (f : FuncId) (fn : Func) (hf : Tryz.pinned.checked.prog.funcNamed Rows.flatLinesMatchSpecRow.func = some f) (hfn : Tryz.pinned.checked.prog.funcs[f]? = some fn) :
    true = Tryz.pinned.checked.prog.looks [] ∧ ∀ (j : Nat) t, fn.params[j]? = some t → Tryz.pinned.checked.prog.wantsStandIn t = false := by
  obtain rfl : f = 3 := Option.some.inj ((show Tryz.prog.funcNamed Rows.flatLinesMatchSpecRow.func = some 3 by kernel_rfl).symm.trans hf) |>.symm
  obtain rfl : fn = Tryz.f3 := (Option.some.inj (Tryz.func3.symm.trans hfn)).symm
  refine ⟨by kernel_rfl, fun j t ht => ?_⟩
  rw [Tryz.params3] at ht
  have hm := Array.mem_of_getElem? ht
  simp at hm
  rcases hm with rfl | rfl
  all_goals first | (exact (show Tryz.prog.wantsStandIn 3 = false by kernel_rfl)) | (exact (show Tryz.prog.wantsStandIn 9 = false by kernel_rfl)) | (exact (show Tryz.prog.wantsStandIn 5 = false by kernel_rfl)) | (exact (show Tryz.prog.wantsStandIn 24 = false by kernel_rfl))

theorem card_24 : Rows.FlatLinesMatchSpecCardSaid :=
  Claim7.holds_tied_plain_at .later [] _ _ _ _ said_24 (fun _ h => by cases h) (by kernel_rfl) (fun _ h => by cases h) flatLinesMatchSpec_row_tie rfl ⟨rfl, rfl⟩ (by kernel_rfl) rfl plain_24 (by kernel_rfl)
end Go.Proofs.YtklblmbacnnoeaaGreatDoor
