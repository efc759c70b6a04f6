/- The statement of AmountSumsAreExact: for every input the law returns true, and the input reads as it did. -/
import Derived.Test.YtjhinelbejjafaaRows
import Derived.Test.YtjhinelbejjafaaA9
import Derived.WalkKit
import Derived.ProofKit
import Derived.OpenShut
import Derived.ChangeOld
import Derived.ChangeSame
import Derived.Below
import Derived.Deep.Slices
import Derived.Deep.Fields
namespace Go.Proofs.Ytjhinelbejjafaa
open Go.ChangeShapes Go.WideShapes Go.ChangeAt Go.RowKit Go.Deep
set_option linter.unusedVariables false

theorem own : ownKnob Try.prog.godebug = none := by kernel_rfl
theorem laidOut : laidOutB Try.prog = true := by kernel_rfl

section
variable {H : Type} {enc : TypeId × Value → H} {P : Program} {w : World} {base : Nat} {spare : Nat → Bool} {held : Bool}
/-- A slice of structs opened to its cells. -/
theorem open_rows {t e : TypeId} {fs : Array Field} {fuel : Nat} {cs : List Value} {x : DataW H × List MemPlace} (ht : P.underlying t = some (.slice e)) (he : P.underlying e = some (.struct fs))
    (hone : oneCellFields P fs = true) (hC : P.cellsOf e = fs.size) (h : DataW.trod enc P w base spare held fuel t cs = some x) :
    cs = [.slice Option.none 0 0] ∨
    ∃ (a : Addr) (len cap m : Nat), cs = [.slice (some a) len cap] ∧ len ≤ cap ∧ cap ≤ maxLen ∧ m = (if spare a.block then cap else len) ∧
      ∀ i, i < m → ∀ (j : Nat) (f : Field), fs[j]? = some f → ∃ (n : Nat) (v : Value) (y : DataW H × List MemPlace), w.cell? (a.add (i * fs.size + j)) = some v ∧ DataW.trod enc P w base spare held n f.type [v] = some y := by
  rcases open_slice ht h with h0 | ⟨a, len, cap, m, n, D, Pl, hcs, hb, hl, hm, hmm, hx, hi⟩
  · exact .inl h0.1
  · refine .inr ⟨a, len, cap, m, hcs, hl, hm, hmm, fun i him => ?_⟩
    obtain ⟨cs', hc, ht'⟩ := hi i him
    rw [hC] at hc
    obtain ⟨ys, n', hn', hy, hlen, hyl, hf⟩ := DataW.trod_struct he ht'
    obtain ⟨_, hcl, hat⟩ := World.cells?_some hc
    intro j f hj
    obtain ⟨ho, hk⟩ := hone_of hone j f hj
    have hjl : j < fs.size := (Array.getElem?_eq_some_iff.1 hj).1
    have hcell := hat j hjl
    have hv : cs'[j]? = some (cs'[j]'(by omega)) := List.getElem?_eq_getElem (by omega)
    have h1 := hf j f hj
    rw [ho, hk] at h1
    have hone' : (cs'.drop j).take 1 = [cs'[j]'(by omega)] := by
      rw [List.drop_eq_getElem_cons (by omega)]
      rfl
    rw [hone'] at h1
    have hys : ys[j]? = some (ys[j]'(by omega)) := List.getElem?_eq_getElem (by omega)
    refine ⟨_, _, _, ?_, h1.trans hys⟩
    rw [← Go.Deep.add_add, hcell, hv]
end


theorem i64_wf {n : Int} (h : (Lit.int .i64 n).wf = true) : -9223372036854775808 ≤ n ∧ n ≤ 9223372036854775807 := by
  have e1 : IntKind.min .i64 = -9223372036854775808 := by decide
  have e2 : IntKind.max .i64 = 9223372036854775807 := by decide
  have h2 : (decide (IntKind.min .i64 ≤ n) && decide (n ≤ IntKind.max .i64)) = true := h
  rw [e1, e2] at h2
  simpa using h2

/-- The argument opened. -/
theorem opened {H : Type} {enc : TypeId × Value → H} {w : World} {base : Nat} {a : Option Addr} {len cap : Nat} {d : DataW H} {p : List MemPlace}
    (h : DataW.Trod enc Try.prog w base (fun _ => true) true 22 (.slice a len cap) d p) :
    len ≤ cap ∧ cap ≤ 9223372036854775807 ∧ (a = Option.none → len = 0 ∧ cap = 0) ∧ (∀ x, a = some x → 0 < cap → ∃ b off, x = ⟨b, off, Option.none⟩) ∧ ∃ ds, Decs w a len ds := by
  obtain ⟨fuel, hf⟩ := h
  rcases open_rows Try.underlying22 Try.underlying24 (by kernel_rfl) (by kernel_rfl) hf with hcs | ⟨x, l, c, m, hcs, hl, hm, hmm, hc⟩
  · simp [Value.cells] at hcs
    obtain ⟨rfl, rfl, rfl⟩ := hcs
    exact ⟨Nat.le_refl _, by omega, fun _ => ⟨rfl, rfl⟩, (fun x hx => by cases hx), [], rfl, (fun d hd => by simp at hd), (fun h => by omega)⟩
  · simp [Value.cells] at hcs
    obtain ⟨rfl, rfl, rfl⟩ := hcs
    simp only [if_true] at hmm
    subst hmm
    obtain ⟨b, off, spot⟩ := x
    have hint : ∀ i, i < m → ∀ j, j < 2 → ∃ n, w.cell? ((⟨b, off, spot⟩ : Addr).add (i * 2 + j)) = some (.int .i64 n) ∧ (-9223372036854775808 ≤ n ∧ n ≤ 9223372036854775807) := by
      intro i hi j hj
      match j, hj with
      | 0, _ =>
        obtain ⟨n, v, y, h1, h2⟩ := hc i hi 0 _ rfl
        obtain ⟨k, hk, _, hw⟩ := DataW.trod_int Try.underlying3 h2
        simp at hk
        subst hk
        exact ⟨k, h1, i64_wf hw⟩
      | 1, _ =>
        obtain ⟨n, v, y, h1, h2⟩ := hc i hi 1 _ rfl
        obtain ⟨k, hk, _, hw⟩ := DataW.trod_int Try.underlying3 h2
        simp at hk
        subst hk
        exact ⟨k, h1, i64_wf hw⟩
    have hspot : 0 < m → spot = Option.none := fun h => by
      obtain ⟨n, h1, _⟩ := hint 0 h 0 (by omega)
      have := World.cell?_spot h1
      rw [Addr.add, if_pos (by simp)] at this
      exact this
    refine ⟨hl, by unfold maxLen at hm; omega, (fun h => by cases h), fun y hy h0 => ?_, ?_⟩
    · injection hy with hy
      subst hy
      rw [hspot h0]
      exact ⟨_, _, rfl⟩
    · obtain ⟨F, hF⟩ : ∃ F : Nat → Int, ∀ i, i < m → w.cell? ((⟨b, off, spot⟩ : Addr).add (i * 2)) = some (.int .i64 (F i)) ∧ (-9223372036854775808 ≤ F i ∧ F i ≤ 9223372036854775807) :=
        choose_lt fun i hi => hint i hi 0 (by omega)
      obtain ⟨G, hG⟩ : ∃ F : Nat → Int, ∀ i, i < m → w.cell? ((⟨b, off, spot⟩ : Addr).add (i * 2 + 1)) = some (.int .i64 (F i)) ∧ (-9223372036854775808 ≤ F i ∧ F i ≤ 9223372036854775807) :=
        choose_lt fun i hi => hint i hi 1 (by omega)
      refine ⟨(List.range len).map fun i => (F i, G i), by simp, ?_, ?_⟩
      · intro d hd
        obtain ⟨i, hi, rfl⟩ := List.mem_map.1 hd
        rw [List.mem_range] at hi
        exact ⟨(hF i (by omega)).2, (hG i (by omega)).2⟩
      · intro hn
        have hs := hspot (by omega)
        subst hs
        have hadd : ∀ k, (⟨b, off, Option.none⟩ : Addr).add k = ⟨b, off + k, Option.none⟩ := by intro k; unfold Addr.add; split <;> simp_all
        refine ⟨b, off, rfl, ?_, fun j hj => ?_⟩
        · have := (hF 0 (by omega)).1
          rw [hadd] at this
          exact World.block_lt_of_cell? w _ this
        · have e1 : dU ((List.range len).map fun i => (F i, G i)) j = F j := by simp [dU, List.getD_eq_getElem?_getD, hj]
          have e2 : dP ((List.range len).map fun i => (F i, G i)) j = G j := by simp [dP, List.getD_eq_getElem?_getD, hj]
          rw [e1, e2]
          have h1 := (hF j (by omega)).1
          have h2 := (hG j (by omega)).1
          rw [hadd] at h1 h2
          exact ⟨h1, h2⟩

/-- The walk of the law, in one. -/
theorem walk (ds : List (Int × Int)) (A : Option Addr) (n c : Nat) (k : Int) (w : World) (hd : Decs w A n ds) (hnc : n ≤ c) (hcm : c ≤ 9223372036854775807) (hA : A = Option.none → n = 0 ∧ c = 0) (hA2 : ∀ a, A = some a → 0 < c → ∃ b off, a = ⟨b, off, Option.none⟩) (hk : -9223372036854775808 ≤ k ∧ k ≤ 9223372036854775807) :
    Calls Try.prog 3 #[.slice A n c, .int .i64 k] w fun e w' => e = .returned (.bool true) ∧ Below w.heap.size w w' := by
  by_cases h : (sumR ds).2.2 = 0
  · exact law_ok ds A n c k w hd hnc hcm hA hA2 hk (x := (sumR ds).1) (p := (sumR ds).2.1) (by rw [← h])
  · exact law_bad ds A n c k w hd (by omega) h

set_option maxRecDepth 100000 in
theorem lifted (os : Os) (started : os.Started) (H : Type) (enc : TypeId × Value → H) :
    ReturnsInHanded {} Try.checked os 3 .any (Rows.amountSumsAreExactSpec.pre6 enc Try.prog Try.f3 Rows.amountSumsAreExactRow.domain false) (Rows.amountSumsAreExactSpec.post enc Try.prog Try.f3 false true false false) := by
  refine returnsInHanded_of_change (C := Try.checked) own started (by kernel_rfl) Try.func3
    (ChangeSpec.witness6 (enc := enc) (C := Try.checked) false ⟨#[], #[.slice Option.none 0 0, .int .i64 0], []⟩ 8 (by kernel_rfl) (by kernel_rfl) (by kernel_rfl) (by kernel_rfl)) ?_
  intro W base args ds gs before hval0 hW hcnd _
  have hval : ∀ (j : Nat) t v, Try.f3.params[j]? = some t → args[j]? = some v → Value.okWide Try.prog W .any base t v := hval0
  have hW' := hW
  obtain ⟨p, q, hA0, hV, rfl, hfz, hnd⟩ := hW
  have hA : DataW.TrodAll enc Try.prog W 0 (fun _ => true) true Try.f3.params.toList args.toList ds p := hA0
  rw [Try.params3] at hA hval
  obtain ⟨v0, vs0, d0, ds0, p0, q0, hargs, rfl, rfl, h0, r0⟩ := trodAll_cons hA
  obtain ⟨v1, vs1, d1, ds1, p1, q1, rfl, rfl, rfl, h1, r1⟩ := trodAll_cons r0
  obtain ⟨rfl, rfl, rfl⟩ := trodAll_nil r1
  obtain rfl : args = #[v0, v1] := by cases args; simp_all
  obtain ⟨rfl, rfl⟩ := trodVars_none hV
  obtain ⟨a0, len0, cap0, rfl⟩ := okWide_slice Try.underlying22 (hval 0 22 v0 rfl rfl)
  have k0 := h0
  have lt0 : ∀ x ∈ p0, x.block < W.heap.size := by obtain ⟨m, hm⟩ := k0; exact DataW.trod_lt m _ _ _ hm
  obtain ⟨u1, u2, u3, u4, z0, w0⟩ := opened h0
  obtain ⟨a1, rfl, rfl, rfl, w1⟩ := open_int Try.underlying3 (hval 1 3 v1 rfl rfl) h1
  clear hA0 hval0
  refine (walk z0 a0 len0 cap0 a1 W w0 u1 u2 u3 u4 (i64_wf w1)).mono fun e W' ⟨he, bel⟩ => ?_
  subst he
  exact ⟨_, rfl, _, _, _, [], _, [], hW', trodAll_mk1 (shut_bool Try.underlying4 _), (trodAll_cons_mk (Below.trod laidOut (by kernel_rfl) (of_decide_eq_true (by kernel_rfl)) k0 bel lt0) (trodAll_cons_mk (shut_int Try.underlying3 w1) trodAll_mk0)), rfl, bel.frame _, fun h => by cases h⟩

theorem over : Rows.amountSumsAreExactRow.holds Try.pinned (OpenSpec.ofChange Rows.amountSumsAreExactSpec) :=
  OpenClaim.holds_of_wide 3 Try.f3 rfl rfl rfl rfl rfl rfl rfl ⟨rfl, rfl, rfl, rfl, rfl⟩ rfl rfl rfl rfl rfl (by kernel_rfl) Try.func3 (by kernel_rfl)
    (of_decide_eq_true (by kernel_rfl)) (by unfold Func.isWrapper; first | (rw [if_pos (by decide +kernel)]; kernel_rfl) | (rw [if_neg (by decide +kernel)]; exact ⟨rfl, rfl⟩))
    (fun os started H enc _ => lifted os started H enc)

theorem sumsAreExact : Rows.AmountSumsAreExactSaid := over
end Go.Proofs.Ytjhinelbejjafaa
