
/- Words for the join of a walk and a row: a slice of records opened, with its capacity and its bytes; the tables that the law's digest and numbers read. -/
import Derived.Test.YtcfhaljkemaefaaGreatDoorJ3
import Derived.Test.YtcfhaljkemaefaaGreatDoorARJ
import Derived.Lib.LaidU8
import Derived.MakeChecks
import Derived.SizedLaws
namespace Go.Proofs.YtcfhaljkemaefaaGreatDoor
open Go.ChangeShapes Go.WideShapes Go.ChangeAt Go.RowKit Go.Deep Go.Joins
set_option linter.unusedVariables false
set_option linter.unusedSimpArgs false

theorem choose_ltR {α : Type} (d : α) {n : Nat} {p : Nat → α → Prop} (h : ∀ i, i < n → ∃ z, p i z) : ∃ F : Nat → α, ∀ i, i < n → p i (F i) :=
  ⟨fun i => if hi : i < n then Classical.choose (h i hi) else d, fun i hi => by
    show p i (if hi : i < n then Classical.choose (h i hi) else d)
    rw [dif_pos hi]
    exact Classical.choose_spec (h i hi)⟩
set_option maxRecDepth 100000 in
theorem opened_recs {H : Type} {enc : TypeId × Value → H} {w : World} {base : Nat} {v : Value} {d : DataW H} {p : List MemPlace}
    {r : Reach} {b0 : Nat} (hv : Value.okWide Tryz.prog w r b0 22 v) (h : DataW.Trod enc Tryz.prog w base (fun _ => true) true 22 v d p) :
    ∃ L cap rs, v = .slice L rs.length cap ∧ RecsZ w L rs ∧ rs.length ≤ cap ∧ ((d = .nil ∧ cap = 0) ∨ ∃ el sp, d = .slice el sp ∧ el.length + sp.length = cap) := by
  obtain ⟨A0, n0, c0, rfl⟩ := okWide_slice Tryz.underlying22 hv
  obtain ⟨fuel, h⟩ := h
  have hcap : (d = .nil ∧ c0 = 0) ∨ ∃ el sp, d = .slice el sp ∧ el.length + sp.length = c0 := by
    rcases open_slice Tryz.underlying22 h with ⟨hcs, hx⟩ | ⟨a, len, c, m, n, D, Pl, hcs, hb, hl, hm, hmm, hx, hi⟩
    · simp [Value.cells] at hcs
      obtain ⟨_, _, hc⟩ := hcs
      subst hc
      exact .inl ⟨(Prod.mk.inj hx).1, rfl⟩
    · simp [Value.cells] at hcs
      obtain ⟨_, _, hc⟩ := hcs
      subst hc
      simp only [if_true] at hmm
      subst hmm
      refine .inr ⟨_, _, (Prod.mk.inj hx).1, ?_⟩
      simp
      omega
  rcases open_rows Tryz.underlying22 Tryz.underlying45 (by kernel_rfl) (by kernel_rfl) h with hcs | ⟨x, l, c, m, hcs, hl, hm, hmm, hc⟩
  · simp [Value.cells] at hcs
    obtain ⟨rfl, rfl, rfl⟩ := hcs
    exact ⟨none, 0, [], rfl, ⟨fun j hj => absurd hj (Nat.not_lt_zero _), fun h => absurd h (Nat.not_lt_zero _)⟩, Nat.le_refl _, hcap⟩
  · simp [Value.cells] at hcs
    obtain ⟨rfl, rfl, rfl⟩ := hcs
    simp only [if_true] at hmm
    subst hmm
    obtain ⟨b, off, spot⟩ := x
    have h0 : ∀ i, i < m → ∃ z : Rec, (∀ k, k < 6 → w.cell? ((⟨b, off, spot⟩ : Addr).add (i * 6 + k)) = some (recV [z] 0 k)) ∧ RecZ z := by
      intro i hi
      obtain ⟨m0, v0, y0, e0, t0⟩ := hc i hi 0 _ rfl
      obtain ⟨m1, v1, y1, e1, t1⟩ := hc i hi 1 _ rfl
      obtain ⟨m2, v2, y2, e2, t2⟩ := hc i hi 2 _ rfl
      obtain ⟨m3, v3, y3, e3, t3⟩ := hc i hi 3 _ rfl
      obtain ⟨m4, v4, y4, e4, t4⟩ := hc i hi 4 _ rfl
      obtain ⟨m5, v5, y5, e5, t5⟩ := hc i hi 5 _ rfl
      obtain ⟨k0, z0, -, -⟩ := DataW.trod_int Tryz.underlying3 t0
      obtain ⟨k1, z1, -, w1⟩ := DataW.trod_string Tryz.underlying9 t1
      obtain ⟨k2, z2, -, w2⟩ := DataW.trod_string Tryz.underlying9 t2
      obtain ⟨k3, z3, -, w3⟩ := DataW.trod_string Tryz.underlying9 t3
      obtain ⟨k4, z4, -⟩ := DataW.trod_bool Tryz.underlying4 t4
      obtain ⟨k5, z5, -, w5⟩ := DataW.trod_string Tryz.underlying9 t5
      simp at z0 z1 z2 z3 z4 z5
      subst z0 z1 z2 z3 z4 z5
      unfold maxLen at w1 w2 w3 w5
      refine ⟨⟨k0, k1, k2, k3, k4, k5⟩, fun k hk => ?_, ⟨w1, w2, w5, w3⟩⟩
      match k, hk with
      | 0, _ => exact e0
      | 1, _ => exact e1
      | 2, _ => exact e2
      | 3, _ => exact e3
      | 4, _ => exact e4
      | 5, _ => exact e5
    obtain ⟨F, hF⟩ := choose_ltR rec0 h0
    have hk : ∀ j, j < n0 → arA ((List.range n0).map F) j = F j := fun j hj => by simp [arA, List.getD_eq_getElem?_getD, hj]
    refine ⟨some ⟨b, off, spot⟩, m, (List.range n0).map F, by simp, ⟨fun j hj => ?_, fun hn => ?_⟩, by simpa using hl, hcap⟩
    · have hj' : j < n0 := by simpa using hj
      rw [hk j hj']
      exact (hF j (by omega)).2
    · have hn' : 0 < n0 := by simpa using hn
      have hs : spot = none := by
        have h1 := (hF 0 (by omega)).1 0 (by decide)
        have := World.cell?_spot h1
        rw [Addr.add, if_pos (by simp)] at this
        exact this
      subst hs
      have hadd : ∀ k, (⟨b, off, none⟩ : Addr).add k = ⟨b, off + k, none⟩ := by intro k; unfold Addr.add; split <;> simp_all
      refine ⟨b, off, rfl, ?_, fun j hj i hi => ?_⟩
      · have := (hF 0 (by omega)).1 0 (by decide)
        rw [hadd] at this
        exact World.block_lt_of_cell? w _ this
      · have hj' : j < n0 := by simpa using hj
        have h1 := (hF j (by omega)).1 i hi
        rw [hadd] at h1
        rw [Nat.add_assoc, h1]
        unfold recV
        rw [hk j hj']
        rfl
theorem recs_reach {H : Type} {ts : List TypeId} {ds : List (DataW H)} {j : Nat} {d : DataW H} {cap : Nat} (h : (DataW.weightsEach Tryz.prog ts ds).all (· ≤ reachBytes) = true) (ht : ts[j]? = some 22) (hd : ds[j]? = some d) (hz : (d = .nil ∧ cap = 0) ∨ ∃ el sp, d = .slice el sp ∧ el.length + sp.length = cap) : cap * 80 ≤ 140737488351232 := by
  rcases hz with ⟨_, rfl⟩ | ⟨el, sp, rfl, hc⟩
  · omega
  · have h1 := sized_slice h ht hd Tryz.underlying22
    rw [hc, show (Tryz.prog : Program).bytesOf 45 = 80 by kernel_rfl] at h1
    unfold reachBytes at h1
    omega
theorem tabA_of_laid {l : List (String × DataW Unit)} {W : World} {d : DataW Unit} (hn : (l.all fun x => x.2.handleName?.isNone) = true) (hm : ("internal/strconv.uint64pow10", d) ∈ l) (hd : d = Lib.tabData .u64 Lib.pow10Tab) (h : laidMetH Tryz.prog l W) : TabA W := by
  subst hd
  rw [MakeChecks.laidMetH_plain _ _ _ hn] at h
  obtain ⟨g', t', cs, fuel, p, hg', ht', hvar, hd⟩ := Lib.laidMet.reads h hm
  obtain rfl := Option.some.inj ((show Tryz.prog.globalNamed "internal/strconv.uint64pow10" = some 1 by kernel_rfl).symm.trans hg')
  obtain rfl := Option.some.inj ((show (Tryz.prog.globals[1]?).map (·.type) = some 146 by kernel_rfl).symm.trans ht')
  unfold TabA Lib.TabIs
  rw [hvar]
  have := Lib.cells_of_tab (e := 87) Tryz.underlying146 Tryz.underlying87 (by kernel_rfl) (by kernel_rfl) hd
  rw [← this]
def bruijn64 : List Int := [0, 1, 56, 2, 57, 49, 28, 3, 61, 58, 42, 50, 38, 29, 17, 4, 62, 47, 59, 36, 45, 43, 51, 22, 53, 39, 33, 30, 24, 18, 12, 5, 63, 55, 48, 27, 60, 41, 37, 16, 46, 35, 44, 21, 52, 32, 23, 11, 54, 26, 40, 15, 34, 20, 31, 10, 25, 14, 19, 9, 13, 8, 7, 6]
theorem zcell_of_laid {l : List (String × DataW Unit)} {W : World} {d : DataW Unit} (hn : (l.all fun x => x.2.handleName?.isNone) = true) (hm : ("math/bits.deBruijn64tab", d) ∈ l) (hd : d = Lib.tabData .u8 bruijn64) (h : laidMetH Tryz.prog l W) : ZCell W := by
  subst hd
  rw [MakeChecks.laidMetH_plain _ _ _ hn] at h
  obtain ⟨g', t', cs, fuel, p, hg', ht', hvar, hd⟩ := Lib.laidMet.reads h hm
  obtain rfl := Option.some.inj ((show Tryz.prog.globalNamed "math/bits.deBruijn64tab" = some 7 by kernel_rfl).symm.trans hg')
  obtain rfl := Option.some.inj ((show (Tryz.prog.globals[7]?).map (·.type) = some 167 by kernel_rfl).symm.trans ht')
  have h2 := Lib.cells_of_tab (e := 5) Tryz.underlying167 Tryz.underlying5 (by kernel_rfl) (by kernel_rfl) hd
  have h3 : Lib.TabIs Tryz.prog W "math/bits.deBruijn64tab" .u8 bruijn64 := by
    unfold Lib.TabIs
    rw [hvar, ← h2]
  exact h3.cell hg' 15 (by decide)
end Go.Proofs.YtcfhaljkemaefaaGreatDoor
