
/- Words for the join of a walk and a row: a slice of decimals opened. -/
import Derived.Test.YtlkidhfjkgppoaaDoorJ1
import Derived.Test.YtlkidhfjkgppoaaDoorSpec
namespace Go.Proofs.YtlkidhfjkgppoaaDoor
open Go.ChangeShapes Go.WideShapes Go.ChangeAt Go.RowKit Go.Deep
set_option linter.unusedVariables false

section
variable {H : Type} {enc : TypeId × Value → H} {P : Program} {w : World} {base : Nat} {spare : Nat → Bool} {held : Bool}
/-- A slice of structs opened to its cells. -/
theorem open_rows {t e : TypeId} {fs : Array Field} {fuel : Nat} {cs : List Value} {x : DataW H × List MemPlace} (ht : P.underlying t = some (.slice e)) (he : P.underlying e = some (.struct fs))
    (hone : oneCellFields P fs = true) (hC : P.cellsOf e = fs.size) (h : DataW.trod enc P w base spare held fuel t cs = some x) :
    cs = [.slice Option.none 0 0] ∨
    ∃ (a : Addr) (len cap m : Nat), cs = [.slice (some a) len cap] ∧ len ≤ cap ∧ cap ≤ maxLen ∧ m = (if spare a.block then cap else len) ∧
      ∀ i, i < m → ∀ (j : Nat) (f : Field), fs[j]? = some f → ∃ (n : Nat) (v : Value) (y : DataW H × List MemPlace), w.cell? (a.add (i * fs.size + j)) = some v ∧ DataW.trod enc P w base spare held n f.type [v] = some y := by
  rcases open_slice ht h with h0 | ⟨a, len, cap, m, n, D, Pl, hcs, hb, hl, hm, hmm, hx, hi⟩
  · exact .inl h0.1
  · refine .inr ⟨a, len, cap, m, hcs, hl, hm, hmm, fun i him => ?_⟩
    obtain ⟨cs', hc, ht'⟩ := hi i him
    rw [hC] at hc
    obtain ⟨ys, n', hn', hy, hlen, hyl, hf⟩ := DataW.trod_struct he ht'
    obtain ⟨_, hcl, hat⟩ := World.cells?_some hc
    intro j f hj
    obtain ⟨ho, hk⟩ := hone_of hone j f hj
    have hjl : j < fs.size := (Array.getElem?_eq_some_iff.1 hj).1
    have hcell := hat j hjl
    have hv : cs'[j]? = some (cs'[j]'(by omega)) := List.getElem?_eq_getElem (by omega)
    have h1 := hf j f hj
    rw [ho, hk] at h1
    have hone' : (cs'.drop j).take 1 = [cs'[j]'(by omega)] := by
      rw [List.drop_eq_getElem_cons (by omega)]
      rfl
    rw [hone'] at h1
    have hys : ys[j]? = some (ys[j]'(by omega)) := List.getElem?_eq_getElem (by omega)
    refine ⟨_, _, _, ?_, h1.trans hys⟩
    rw [← Go.Deep.add_add, hcell, hv]
end

/-- The argument opened. -/
theorem opened {H : Type} {enc : TypeId × Value → H} {w : World} {base : Nat} {a : Option Addr} {len cap : Nat} {d : DataW H} {p : List MemPlace}
    (h : DataW.Trod enc Tryd.prog w base (fun _ => true) true 54 (.slice a len cap) d p) :
    len ≤ cap ∧ cap ≤ 9223372036854775807 ∧ (a = Option.none → len = 0 ∧ cap = 0) ∧ (∀ x, a = some x → 0 < cap → ∃ b off, x = ⟨b, off, Option.none⟩) ∧ ∃ ds, Decs w a len ds := by
  obtain ⟨fuel, hf⟩ := h
  rcases open_rows Tryd.underlying54 Tryd.underlying51 (by kernel_rfl) (by kernel_rfl) hf with hcs | ⟨x, l, c, m, hcs, hl, hm, hmm, hc⟩
  · simp [Value.cells] at hcs
    obtain ⟨rfl, rfl, rfl⟩ := hcs
    exact ⟨Nat.le_refl _, by omega, fun _ => ⟨rfl, rfl⟩, (fun x hx => by cases hx), [], rfl, (fun d hd => by simp at hd), (fun h => by omega)⟩
  · simp [Value.cells] at hcs
    obtain ⟨rfl, rfl, rfl⟩ := hcs
    simp only [if_true] at hmm
    subst hmm
    obtain ⟨b, off, spot⟩ := x
    have hint : ∀ i, i < m → ∀ j, j < 2 → ∃ n, w.cell? ((⟨b, off, spot⟩ : Addr).add (i * 2 + j)) = some (.int .i64 n) ∧ (-9223372036854775808 ≤ n ∧ n ≤ 9223372036854775807) := by
      intro i hi j hj
      match j, hj with
      | 0, _ =>
        obtain ⟨n, v, y, h1, h2⟩ := hc i hi 0 _ rfl
        obtain ⟨k, hk, _, hw⟩ := DataW.trod_int Tryd.underlying3 h2
        simp at hk
        subst hk
        exact ⟨k, h1, i64_wf hw⟩
      | 1, _ =>
        obtain ⟨n, v, y, h1, h2⟩ := hc i hi 1 _ rfl
        obtain ⟨k, hk, _, hw⟩ := DataW.trod_int Tryd.underlying3 h2
        simp at hk
        subst hk
        exact ⟨k, h1, i64_wf hw⟩
    have hspot : 0 < m → spot = Option.none := fun h => by
      obtain ⟨n, h1, _⟩ := hint 0 h 0 (by omega)
      have := World.cell?_spot h1
      rw [Addr.add, if_pos (by simp)] at this
      exact this
    refine ⟨hl, by unfold maxLen at hm; omega, (fun h => by cases h), fun y hy h0 => ?_, ?_⟩
    · injection hy with hy
      subst hy
      rw [hspot h0]
      exact ⟨_, _, rfl⟩
    · obtain ⟨F, hF⟩ : ∃ F : Nat → Int, ∀ i, i < m → w.cell? ((⟨b, off, spot⟩ : Addr).add (i * 2)) = some (.int .i64 (F i)) ∧ (-9223372036854775808 ≤ F i ∧ F i ≤ 9223372036854775807) :=
        choose_lt fun i hi => hint i hi 0 (by omega)
      obtain ⟨G, hG⟩ : ∃ F : Nat → Int, ∀ i, i < m → w.cell? ((⟨b, off, spot⟩ : Addr).add (i * 2 + 1)) = some (.int .i64 (F i)) ∧ (-9223372036854775808 ≤ F i ∧ F i ≤ 9223372036854775807) :=
        choose_lt fun i hi => hint i hi 1 (by omega)
      refine ⟨(List.range len).map fun i => (F i, G i), by simp, ?_, ?_⟩
      · intro d hd
        obtain ⟨i, hi, rfl⟩ := List.mem_map.1 hd
        rw [List.mem_range] at hi
        exact ⟨(hF i (by omega)).2, (hG i (by omega)).2⟩
      · intro hn
        have hs := hspot (by omega)
        subst hs
        have hadd : ∀ k, (⟨b, off, Option.none⟩ : Addr).add k = ⟨b, off + k, Option.none⟩ := by intro k; unfold Addr.add; split <;> simp_all
        refine ⟨b, off, rfl, ?_, fun j hj => ?_⟩
        · have := (hF 0 (by omega)).1
          rw [hadd] at this
          exact World.block_lt_of_cell? w _ this
        · have e1 : dU ((List.range len).map fun i => (F i, G i)) j = F j := by simp [dU, List.getD_eq_getElem?_getD, hj]
          have e2 : dP ((List.range len).map fun i => (F i, G i)) j = G j := by simp [dP, List.getD_eq_getElem?_getD, hj]
          rw [e1, e2]
          have h1 := (hF j (by omega)).1
          have h2 := (hG j (by omega)).1
          rw [hadd] at h1 h2
          exact ⟨h1, h2⟩

end Go.Proofs.YtlkidhfjkgppoaaDoor
