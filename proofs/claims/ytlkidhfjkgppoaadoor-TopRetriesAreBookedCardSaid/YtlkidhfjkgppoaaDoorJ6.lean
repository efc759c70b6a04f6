
/- Words for the join of a walk and a row: a slice of jobs, one of outages, and a policy opened. -/
import Derived.Test.YtlkidhfjkgppoaaDoorJ2
import Derived.Test.YtlkidhfjkgppoaaDoorO1
namespace Go.Proofs.YtlkidhfjkgppoaaDoor
open Go.ChangeShapes Go.WideShapes Go.ChangeAt Go.RowKit Go.Deep Go.Joins
set_option linter.unusedVariables false
set_option linter.unusedSimpArgs false

section
variable {H : Type} {enc : TypeId × Value → H} {P : Program} {w : World} {base : Nat} {spare : Nat → Bool} {held : Bool}
/-- A struct by value, opened to its fields. -/
theorem open_struct {r : Reach} {b0 : Nat} {t : TypeId} {fs : Array Field} {v : Value} {d : DataW H} {p : List MemPlace} (hs : P.underlying t = some (.struct fs)) (hone : oneCellFields P fs = true) (hC : P.cellsOf t = fs.size)
    (hv : Value.okWide P w r b0 t v) (h : DataW.Trod enc P w base spare held t v d p) :
    ∃ (cs : List Value) (n : Nat), v = .agg ⟨cs⟩ ∧ cs.length = fs.size ∧ ∀ (j : Nat) (f : Field), fs[j]? = some f → ∃ c y, cs[j]? = some c ∧ DataW.trod enc P w base spare held n f.type [c] = some y := by
  obtain ⟨⟨cs⟩, rfl, hsz⟩ := okWide_struct hs hv
  have hl : cs.length = fs.size := hsz.trans hC
  obtain ⟨fuel, hf⟩ := h
  obtain ⟨ys, n, _, _, _, hyl, hg⟩ := DataW.trod_struct hs hf
  refine ⟨cs, n, rfl, hl, fun j f hj => ?_⟩
  obtain ⟨ho, hk⟩ := hone_of hone j f hj
  have hjl : j < fs.size := (Array.getElem?_eq_some_iff.1 hj).1
  have hone' : (cs.drop j).take 1 = [cs[j]'(by omega)] := by
    rw [List.drop_eq_getElem_cons (by omega)]
    rfl
  have h1 := hg j f hj
  rw [ho, hk] at h1
  simp only [Value.cells, hone'] at h1
  exact ⟨_, _, List.getElem?_eq_getElem (by omega), h1.trans (List.getElem?_eq_getElem (by omega))⟩
end

set_option maxRecDepth 100000 in
theorem opened_jobs {H : Type} {enc : TypeId × Value → H} {w : World} {base : Nat} {a : Option Addr} {len cap : Nat} {d : DataW H} {p : List MemPlace}
    (h : DataW.Trod enc Tryd.prog w base (fun _ => true) true 24 (.slice a len cap) d p) :
    len ≤ 9223372036854775807 ∧ ∃ js, js.length = len ∧ Jobs w a js := by
  obtain ⟨fuel, hf⟩ := h
  rcases open_rows Tryd.underlying24 Tryd.underlying39 (by kernel_rfl) (by kernel_rfl) hf with hcs | ⟨x, l, c, m, hcs, hl, hm, hmm, hc⟩
  · simp [Value.cells] at hcs
    obtain ⟨rfl, rfl, rfl⟩ := hcs
    exact ⟨by omega, [], rfl, (fun d hd => by simp at hd), (fun h => by simp at h)⟩
  · simp [Value.cells] at hcs
    obtain ⟨rfl, rfl, rfl⟩ := hcs
    simp only [if_true] at hmm
    subst hmm
    obtain ⟨b, off, spot⟩ := x
    have h0 : ∀ i, i < m → ∃ z : ByteArray, w.cell? ((⟨b, off, spot⟩ : Addr).add (i * 2 + 0)) = some (.string z) ∧ z.size ≤ 9223372036854775807 := by
      intro i hi
      obtain ⟨n, v, y, h1, h2⟩ := hc i hi 0 _ rfl
      obtain ⟨k, hk, _, hw⟩ := DataW.trod_string Tryd.underlying9 h2
      simp at hk
      subst hk
      exact ⟨k, h1, by unfold maxLen at hw; omega⟩
    obtain ⟨F0, hF0⟩ := choose_lt h0
    have h1 : ∀ i, i < m → ∃ z : Int, w.cell? ((⟨b, off, spot⟩ : Addr).add (i * 2 + 1)) = some (.int .i64 z) ∧ (-9223372036854775808 ≤ z ∧ z ≤ 9223372036854775807) := by
      intro i hi
      obtain ⟨n, v, y, h1, h2⟩ := hc i hi 1 _ rfl
      obtain ⟨k, hk, _, hw⟩ := DataW.trod_int Tryd.underlying3 h2
      simp at hk
      subst hk
      exact ⟨k, h1, i64_wf hw⟩
    obtain ⟨F1, hF1⟩ := choose_lt h1
    have hspot : 0 < m → spot = Option.none := fun h => by
      obtain ⟨n, h1, _⟩ := h0 0 h
      have := World.cell?_spot h1
      rw [Addr.add, if_pos (by simp)] at this
      exact this
    have hcl : len ≤ m := hl
    refine ⟨by unfold maxLen at hm; omega, (List.range len).map fun i => ⟨F0 i, F1 i⟩, by simp, ?_, ?_⟩
    · intro d hd
      obtain ⟨i, hi, rfl⟩ := List.mem_map.1 hd
      rw [List.mem_range] at hi
      exact (hF0 i (by omega)).2
    · intro hn
      have hn' : 0 < len := by simpa using hn
      have hs := hspot (by omega)
      subst hs
      have hadd : ∀ k, (⟨b, off, Option.none⟩ : Addr).add k = ⟨b, off + k, Option.none⟩ := by intro k; unfold Addr.add; split <;> simp_all
      refine ⟨b, off, rfl, ?_, fun j hj i hi => ?_⟩
      · have := (hF0 0 (by omega)).1
        rw [hadd] at this
        exact World.block_lt_of_cell? w _ this
      · have hj' : j < len := by simpa using hj
        have e1 : jA ((List.range len).map fun i => (⟨F0 i, F1 i⟩ : Jb)) j = (⟨F0 j, F1 j⟩ : Jb) := by simp [jA, List.getD_eq_getElem?_getD, hj']
        match i, hi with
        | 0, _ => have h1 := (hF0 j (by omega)).1; rw [hadd] at h1; unfold jobV; rw [e1]; exact h1
        | 1, _ => have h1 := (hF1 j (by omega)).1; rw [hadd] at h1; unfold jobV; rw [e1]; exact h1

set_option maxRecDepth 100000 in
theorem opened_outs {H : Type} {enc : TypeId × Value → H} {w : World} {base : Nat} {a : Option Addr} {len cap : Nat} {d : DataW H} {p : List MemPlace}
    (h : DataW.Trod enc Tryd.prog w base (fun _ => true) true 25 (.slice a len cap) d p) :
    len ≤ 9223372036854775807 ∧ ∃ js, js.length = len ∧ Outs w a js := by
  obtain ⟨fuel, hf⟩ := h
  rcases open_rows Tryd.underlying25 Tryd.underlying87 (by kernel_rfl) (by kernel_rfl) hf with hcs | ⟨x, l, c, m, hcs, hl, hm, hmm, hc⟩
  · simp [Value.cells] at hcs
    obtain ⟨rfl, rfl, rfl⟩ := hcs
    exact ⟨by omega, [], rfl, (fun d hd => by simp at hd), (fun h => by simp at h)⟩
  · simp [Value.cells] at hcs
    obtain ⟨rfl, rfl, rfl⟩ := hcs
    simp only [if_true] at hmm
    subst hmm
    obtain ⟨b, off, spot⟩ := x
    have h0 : ∀ i, i < m → ∃ z : ByteArray, w.cell? ((⟨b, off, spot⟩ : Addr).add (i * 3 + 0)) = some (.string z) ∧ z.size ≤ 9223372036854775807 := by
      intro i hi
      obtain ⟨n, v, y, h1, h2⟩ := hc i hi 0 _ rfl
      obtain ⟨k, hk, _, hw⟩ := DataW.trod_string Tryd.underlying9 h2
      simp at hk
      subst hk
      exact ⟨k, h1, by unfold maxLen at hw; omega⟩
    obtain ⟨F0, hF0⟩ := choose_lt h0
    have h1 : ∀ i, i < m → ∃ z : Int, w.cell? ((⟨b, off, spot⟩ : Addr).add (i * 3 + 1)) = some (.int .i64 z) ∧ (-9223372036854775808 ≤ z ∧ z ≤ 9223372036854775807) := by
      intro i hi
      obtain ⟨n, v, y, h1, h2⟩ := hc i hi 1 _ rfl
      obtain ⟨k, hk, _, hw⟩ := DataW.trod_int Tryd.underlying3 h2
      simp at hk
      subst hk
      exact ⟨k, h1, i64_wf hw⟩
    obtain ⟨F1, hF1⟩ := choose_lt h1
    have h2 : ∀ i, i < m → ∃ z : Int, w.cell? ((⟨b, off, spot⟩ : Addr).add (i * 3 + 2)) = some (.int .i64 z) ∧ (-9223372036854775808 ≤ z ∧ z ≤ 9223372036854775807) := by
      intro i hi
      obtain ⟨n, v, y, h1, h2⟩ := hc i hi 2 _ rfl
      obtain ⟨k, hk, _, hw⟩ := DataW.trod_int Tryd.underlying3 h2
      simp at hk
      subst hk
      exact ⟨k, h1, i64_wf hw⟩
    obtain ⟨F2, hF2⟩ := choose_lt h2
    have hspot : 0 < m → spot = Option.none := fun h => by
      obtain ⟨n, h1, _⟩ := h0 0 h
      have := World.cell?_spot h1
      rw [Addr.add, if_pos (by simp)] at this
      exact this
    have hcl : len ≤ m := hl
    refine ⟨by unfold maxLen at hm; omega, (List.range len).map fun i => ⟨F0 i, F1 i, F2 i⟩, by simp, ?_, ?_⟩
    · intro d hd
      obtain ⟨i, hi, rfl⟩ := List.mem_map.1 hd
      rw [List.mem_range] at hi
      exact (hF0 i (by omega)).2
    · intro hn
      have hn' : 0 < len := by simpa using hn
      have hs := hspot (by omega)
      subst hs
      have hadd : ∀ k, (⟨b, off, Option.none⟩ : Addr).add k = ⟨b, off + k, Option.none⟩ := by intro k; unfold Addr.add; split <;> simp_all
      refine ⟨b, off, rfl, ?_, fun j hj i hi => ?_⟩
      · have := (hF0 0 (by omega)).1
        rw [hadd] at this
        exact World.block_lt_of_cell? w _ this
      · have hj' : j < len := by simpa using hj
        have e1 : oA ((List.range len).map fun i => (⟨F0 i, F1 i, F2 i⟩ : Otg)) j = (⟨F0 j, F1 j, F2 j⟩ : Otg) := by simp [oA, List.getD_eq_getElem?_getD, hj']
        match i, hi with
        | 0, _ => have h1 := (hF0 j (by omega)).1; rw [hadd] at h1; unfold otgV; rw [e1]; exact h1
        | 1, _ => have h1 := (hF1 j (by omega)).1; rw [hadd] at h1; unfold otgV; rw [e1]; exact h1
        | 2, _ => have h1 := (hF2 j (by omega)).1; rw [hadd] at h1; unfold otgV; rw [e1]; exact h1

set_option maxRecDepth 100000 in
theorem opened_pol {H : Type} {enc : TypeId × Value → H} {w : World} {r : Reach} {b0 base : Nat} {v : Value} {d : DataW H} {p : List MemPlace}
    (hv : Value.okWide Tryd.prog w r b0 23 v) (h : DataW.Trod enc Tryd.prog w base (fun _ => true) true 23 v d p) : ∃ q : Pol, v = polV q := by
  obtain ⟨cs, n, rfl, hl, hg⟩ := open_struct Tryd.underlying23 (by kernel_rfl) (by kernel_rfl) hv h
  obtain ⟨c0, y0, e0, t0⟩ := hg 0 _ rfl
  obtain ⟨c1, y1, e1, t1⟩ := hg 1 _ rfl
  obtain ⟨c2, y2, e2, t2⟩ := hg 2 _ rfl
  obtain ⟨c3, y3, e3, t3⟩ := hg 3 _ rfl
  obtain ⟨c4, y4, e4, t4⟩ := hg 4 _ rfl
  match cs, hl with
  | [a0, a1, a2, a3, a4], _ =>
    simp at e0 e1 e2 e3 e4
    subst e0 e1 e2 e3 e4
    obtain ⟨k0, z0, -, -⟩ := DataW.trod_int Tryd.underlying3 t0
    obtain ⟨k1, z1, -, -⟩ := DataW.trod_int Tryd.underlying3 t1
    obtain ⟨k2, z2, -, -⟩ := DataW.trod_int Tryd.underlying3 t2
    obtain ⟨k3, z3, -, -⟩ := DataW.trod_int Tryd.underlying3 t3
    obtain ⟨k4, z4, -⟩ := DataW.trod_bool Tryd.underlying4 t4
    simp at z0 z1 z2 z3 z4
    subst z0 z1 z2 z3 z4
    exact ⟨⟨k0, k1, k2, k3, k4⟩, rfl⟩
end Go.Proofs.YtlkidhfjkgppoaaDoor
