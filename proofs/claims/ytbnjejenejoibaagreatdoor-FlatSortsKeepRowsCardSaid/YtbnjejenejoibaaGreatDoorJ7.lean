/- Words for the join of a walk and a row: arguments opened. Words for the join of a walk and a card: a world in which the listed tables are laid. -/
import Derived.Test.YtbnjejenejoibaaGreatDoorRows
import Derived.Test.YtbnjejenejoibaaGreatDoorT1
import Derived.WalkKit
import Derived.ProofKit
import Derived.OpenShut
import Derived.ChangeOld
import Derived.ChangeSame
import Derived.ChangeSlices
import Derived.Below
import Derived.Lib.SmallJoins
import Derived.Deep.Slices
import Derived.Deep.Fields
import Derived.Test.YtbnjejenejoibaaGreatDoorCards
import Derived.Test.YtbnjejenejoibaaGreatDoorTie
import Derived.Deep.DeepHandedRow
import Derived.LaidLaws
import Derived.Test.YtbnjejenejoibaaGreatDoorE4
import Derived.Lib.LaidU8
import Derived.MakeChecks
import Derived.Test.YtbnjejenejoibaaGreatDoorS1
import Derived.Test.YtbnjejenejoibaaGreatDoorUN
-- merged: J1 J3 J5 J2 J7
namespace Go.Proofs.YtbnjejenejoibaaGreatDoor
open Go.ChangeShapes Go.WideShapes Go.ChangeAt Go.RowKit Go.Deep Work
set_option linter.unusedVariables false
theorem own : ownKnob Tryz.prog.godebug = none := by kernel_rfl
theorem laidOut : laidOutB Tryz.prog = true := by kernel_rfl
end Go.Proofs.YtbnjejenejoibaaGreatDoor
namespace Go.Proofs.YtbnjejenejoibaaGreatDoor
open Go.ChangeShapes Go.WideShapes Go.ChangeAt Go.RowKit
set_option linter.unusedVariables false
set_option linter.unusedSimpArgs false
def tabCells : Nat -> DataW Unit -> List Value
 | 0, _ => []
 | f + 1, .agg l => l.flatMap (tabCells f)
 | _, .lit (.int k n) => [.int k n]
 | _, _ => []
def putTab (h : Array Obj) (g : Nat) (d : DataW Unit) : Array Obj := h.modify g fun
 | .cells _ t frozen => .cells (tabCells 4 d).toArray t frozen
 | o => o
theorem u8_wf {n : Int} (h : (Lit.int .u8 n).wf = true) : 0 <= n /\ n <= 255 := by
 have e1 : IntKind.min .u8 = 0 := by decide
 have e2 : IntKind.max .u8 = 255 := by decide
 have h2 : (decide (IntKind.min .u8 <= n) && decide (n <= IntKind.max .u8)) = true := h
 rw [e1, e2] at h2
 simpa using h2
theorem tab_of_laid {l : List (String × DataW Unit)} {W : World} {d : DataW Unit} (hn : (l.all fun x => x.2.handleName?.isNone) = true) (hm : ("internal/strconv.uint64pow10", d) ∈ l) (hd : d = Lib.tabData .u64 Lib.pow10Tab) (h : laidMetH Tryz.prog l W) : Tab W := by
 subst hd
 rw [MakeChecks.laidMetH_plain _ _ _ hn] at h
 obtain ⟨g', t', cs, fuel, p, hg', ht', hvar, hd⟩ := Lib.laidMet.reads h hm
 obtain rfl := Option.some.inj ((show Tryz.prog.globalNamed "internal/strconv.uint64pow10" = some 6 by kernel_rfl).symm.trans hg')
 obtain rfl := Option.some.inj ((show (Tryz.prog.globals[6]?).map (·.type) = some 302 by kernel_rfl).symm.trans ht')
 unfold Tab Lib.TabIs
 rw [hvar]
 have := Lib.cells_of_tab (e := 198) Tryz.underlying302 Tryz.underlying198 (by kernel_rfl) (by kernel_rfl) hd
 rw [<- this]
end Go.Proofs.YtbnjejenejoibaaGreatDoor
namespace Go.Proofs.YtbnjejenejoibaaGreatDoor
open Go.ChangeShapes Go.WideShapes Go.ChangeAt Go.RowKit Go.Deep
set_option linter.unusedVariables false
section
variable {H : Type} {enc : TypeId × Value -> H} {P : Program} {w : World} {base : Nat} {spare : Nat -> Bool} {held : Bool}
theorem open_rows {t e : TypeId} {fs : Array Field} {fuel : Nat} {cs : List Value} {x : DataW H × List MemPlace} (ht : P.underlying t = some (.slice e)) (he : P.underlying e = some (.struct fs))
  (hone : oneCellFields P fs = true) (hC : P.cellsOf e = fs.size) (h : DataW.trod enc P w base spare held fuel t cs = some x) :
  cs = [.slice Option.none 0 0] ∨
  ∃ (a : Addr) (len cap m : Nat), cs = [.slice (some a) len cap] /\ len <= cap /\ cap <= maxLen /\ m = (if spare a.block then cap else len) /\
   ∀ i, i < m -> ∀ (j : Nat) (f : Field), fs[j]? = some f -> ∃ (n : Nat) (v : Value) (y : DataW H × List MemPlace), w.cell? (a.add (i * fs.size + j)) = some v /\ DataW.trod enc P w base spare held n f.type [v] = some y := by
 rcases open_slice ht h with h0 | ⟨a, len, cap, m, n, D, Pl, hcs, hb, hl, hm, hmm, hx, hi⟩
 ·exact .inl h0.1
 ·refine .inr ⟨a, len, cap, m, hcs, hl, hm, hmm, fun i him => ?_⟩
  obtain ⟨cs', hc, ht'⟩ := hi i him
  rw [hC] at hc
  obtain ⟨ys, n', hn', hy, hlen, hyl, hf⟩ := DataW.trod_struct he ht'
  obtain ⟨_, hcl, hat⟩ := World.cells?_some hc
  intro j f hj
  obtain ⟨ho, hk⟩ := hone_of hone j f hj
  have hjl : j < fs.size := (Array.getElem?_eq_some_iff.1 hj).1
  have hcell := hat j hjl
  have hv : cs'[j]? = some (cs'[j]'(by omega)) := List.getElem?_eq_getElem (by omega)
  have h1 := hf j f hj
  rw [ho, hk] at h1
  have hone' : (cs'.drop j).take 1 = [cs'[j]'(by omega)] := by
   rw [List.drop_eq_getElem_cons (by omega)]
   rfl
  rw [hone'] at h1
  have hys : ys[j]? = some (ys[j]'(by omega)) := List.getElem?_eq_getElem (by omega)
  refine ⟨_, _, _, ?_, h1.trans hys⟩
  rw [<- Go.Deep.add_add, hcell, hv]
end
end Go.Proofs.YtbnjejenejoibaaGreatDoor
namespace Go.Proofs.YtbnjejenejoibaaGreatDoor
open Go.ChangeShapes Go.WideShapes Go.ChangeAt Go.RowKit Go.Deep Go.Joins
set_option linter.unusedVariables false
set_option linter.unusedSimpArgs false
section
variable {H : Type} {enc : TypeId × Value -> H} {P : Program} {w : World} {base : Nat} {spare : Nat -> Bool} {held : Bool}
theorem open_structF {r : Reach} {b0 : Nat} {t : TypeId} {fs : Array Field} {v : Value} {d : DataW H} {p : List MemPlace} (hs : P.underlying t = some (.struct fs)) (hone : oneCellFields P fs = true) (hC : P.cellsOf t = fs.size)
  (hv : Value.okWide P w r b0 t v) (h : DataW.Trod enc P w base spare held t v d p) :
  ∃ (cs : List Value) (n : Nat), v = .agg ⟨cs⟩ /\ cs.length = fs.size /\ ∀ (j : Nat) (f : Field), fs[j]? = some f -> ∃ c y, cs[j]? = some c /\ DataW.trod enc P w base spare held n f.type [c] = some y := by
 obtain ⟨⟨cs⟩, rfl, hsz⟩ := okWide_struct hs hv
 have hl : cs.length = fs.size := hsz.trans hC
 obtain ⟨fuel, hf⟩ := h
 obtain ⟨ys, n, _, _, _, hyl, hg⟩ := DataW.trod_struct hs hf
 refine ⟨cs, n, rfl, hl, fun j f hj => ?_⟩
 obtain ⟨ho, hk⟩ := hone_of hone j f hj
 have hjl : j < fs.size := (Array.getElem?_eq_some_iff.1 hj).1
 have hone' : (cs.drop j).take 1 = [cs[j]'(by omega)] := by
  rw [List.drop_eq_getElem_cons (by omega)]
  rfl
 have h1 := hg j f hj
 rw [ho, hk] at h1
 simp only [Value.cells, hone'] at h1
 exact ⟨_, _, List.getElem?_eq_getElem (by omega), h1.trans (List.getElem?_eq_getElem (by omega))⟩
end
theorem choose_ltF {α : Type} (d : α) {n : Nat} {p : Nat -> α -> Prop} (h : ∀ i, i < n -> ∃ z, p i z) : ∃ F : Nat -> α, ∀ i, i < n -> p i (F i) :=
 ⟨fun i => if hi : i < n then Classical.choose (h i hi) else d, fun i hi => by
  show p i (if hi : i < n then Classical.choose (h i hi) else d)
  rw [dif_pos hi]
  exact Classical.choose_spec (h i hi)⟩
set_option maxRecDepth 100000 in
theorem opened_cols {H : Type} {enc : TypeId × Value -> H} {w : World} {base fuel : Nat} {v : Value} {y : DataW H × List MemPlace}
  (h : DataW.trod enc Tryz.prog w base (fun _ => true) true fuel 44 [v] = some y) : ∃ A cap cs, v = .slice A cs.length cap /\ cs.length <= cap /\ Cols w A cs := by
 rcases open_rows Tryz.underlying44 Tryz.underlying85 (by kernel_rfl) (by kernel_rfl) h with hcs | ⟨x, l, c, m, hcs, hl, hm, hmm, hc⟩
 ·simp at hcs
  subst hcs
  exact ⟨none, 0, [], rfl, Nat.le_refl 0, ⟨(fun c hc => by cases hc), by decide⟩, fun h => absurd h (by decide)⟩
 ·simp at hcs
  subst hcs
  simp only [if_true] at hmm
  subst hmm
  obtain ⟨b, off, spot⟩ := x
  have h0 : ∀ i, i < m -> ∃ z : Col, (∀ k, k < 8 -> w.cell? ((⟨b, off, spot⟩ : Addr).add (i * 8 + k)) = some (colV [z] 0 k)) /\ z.name.size <= 9223372036854775807 := by
   intro i hi
   obtain ⟨n0, v0, y0, e0, t0⟩ := hc i hi 0 _ rfl
   obtain ⟨n1, v1, y1, e1, t1⟩ := hc i hi 1 _ rfl
   obtain ⟨n2, v2, y2, e2, t2⟩ := hc i hi 2 _ rfl
   obtain ⟨n3, v3, y3, e3, t3⟩ := hc i hi 3 _ rfl
   obtain ⟨n4, v4, y4, e4, t4⟩ := hc i hi 4 _ rfl
   obtain ⟨n5, v5, y5, e5, t5⟩ := hc i hi 5 _ rfl
   obtain ⟨n6, v6, y6, e6, t6⟩ := hc i hi 6 _ rfl
   obtain ⟨n7, v7, y7, e7, t7⟩ := hc i hi 7 _ rfl
   obtain ⟨k0, z0, -, hw⟩ := DataW.trod_string Tryz.underlying9 t0
   obtain ⟨k1, z1, -, -⟩ := DataW.trod_int Tryz.underlying3 t1
   obtain ⟨k2, z2, -, -⟩ := DataW.trod_int Tryz.underlying3 t2
   obtain ⟨k3, z3, -, -⟩ := DataW.trod_int Tryz.underlying3 t3
   obtain ⟨k4, z4, -, -⟩ := DataW.trod_int Tryz.underlying3 t4
   obtain ⟨k5, z5, -⟩ := DataW.trod_bool Tryz.underlying4 t5
   obtain ⟨k6, z6, -, -⟩ := DataW.trod_int Tryz.underlying5 t6
   obtain ⟨k7, z7, -⟩ := DataW.trod_bool Tryz.underlying4 t7
   simp at z0 z1 z2 z3 z4 z5 z6 z7
   subst z0 z1 z2 z3 z4 z5 z6 z7
   refine ⟨⟨k0, k1, k2, k3, k4, k5, k6, k7⟩, fun k hk => ?_, by unfold maxLen at hw; omega⟩
   match k, hk with
   | 0, _ => exact e0
   | 1, _ => exact e1
   | 2, _ => exact e2
   | 3, _ => exact e3
   | 4, _ => exact e4
   | 5, _ => exact e5
   | 6, _ => exact e6
   | 7, _ => exact e7
  obtain ⟨F, hF⟩ := choose_ltF col0 h0
  refine ⟨some ⟨b, off, spot⟩, m, (List.range l).map F, by simp, by simpa using hl, ⟨fun c hc => ?_, by simp; unfold maxLen at hm; omega⟩, fun hn => ?_⟩
  ·obtain ⟨i, hi, rfl⟩ := List.mem_map.1 hc
   rw [List.mem_range] at hi
   exact (hF i (by omega)).2
  ·have hn' : 0 < l := by simpa using hn
   have hs : spot = none := by
    have h1 := (hF 0 (by omega)).1 0 (by decide)
    have := World.cell?_spot h1
    rw [Addr.add, if_pos (by simp)] at this
    exact this
   subst hs
   have hadd : ∀ k, (⟨b, off, none⟩ : Addr).add k = ⟨b, off + k, none⟩ := by intro k; unfold Addr.add; split <;> simp_all
   refine ⟨b, off, rfl, ?_, fun j hj i hi => ?_⟩
   ·have := (hF 0 (by omega)).1 0 (by decide)
    rw [hadd] at this
    exact World.block_lt_of_cell? w _ this
   ·have hj' : j < l := by simpa using hj
    have e1 : cA ((List.range l).map F) j = F j := by simp [cA, List.getD_eq_getElem?_getD, hj']
    have h1 := (hF j (by omega)).1 i hi
    rw [hadd, <- Nat.add_assoc] at h1
    rw [h1]
    unfold colV
    rw [e1]
    rfl
set_option maxRecDepth 100000 in
theorem opened_kinds {H : Type} {enc : TypeId × Value -> H} {w : World} {base fuel : Nat} {v : Value} {y : DataW H × List MemPlace}
  (h : DataW.trod enc Tryz.prog w base (fun _ => true) true fuel 22 [v] = some y) : ∃ A cap ks FA FC, v = .slice A ks.length cap /\ ks.length <= cap /\ cap <= 9223372036854775807 /\ Kinds w A ks FA FC := by
 rcases open_rows Tryz.underlying22 Tryz.underlying46 (by kernel_rfl) (by kernel_rfl) h with hcs | ⟨x, l, c, m, hcs, hl, hm, hmm, hc⟩
 ·simp at hcs
  subst hcs
  exact ⟨none, 0, [], fun _ => none, fun _ => 0, rfl, Nat.le_refl 0, by omega, ⟨(fun c hc => by cases hc), by decide⟩, fun h => absurd h (by decide), fun j hj => absurd hj (Nat.not_lt_zero _)⟩
 ·simp at hcs
  subst hcs
  simp only [if_true] at hmm
  subst hmm
  obtain ⟨b, off, spot⟩ := x
  have h0 : ∀ i, i < m -> ∃ z : RKd × Option Addr × Nat, (∀ k, k < 4 -> w.cell? ((⟨b, off, spot⟩ : Addr).add (i * 4 + k)) = some (kindV [z.1] (fun _ => z.2.1) (fun _ => z.2.2) 0 k)) /\ (z.1.tag.size <= 9223372036854775807 /\ z.1.under.size <= 9223372036854775807) /\ Cols w z.2.1 z.1.fields /\ z.1.fields.length <= z.2.2 := by
   intro i hi
   obtain ⟨n0, v0, y0, e0, t0⟩ := hc i hi 0 _ rfl
   obtain ⟨n1, v1, y1, e1, t1⟩ := hc i hi 1 _ rfl
   obtain ⟨n2, v2, y2, e2, t2⟩ := hc i hi 2 _ rfl
   obtain ⟨n3, v3, y3, e3, t3⟩ := hc i hi 3 _ rfl
   obtain ⟨k0, z0, -, hw0⟩ := DataW.trod_string Tryz.underlying9 t0
   obtain ⟨A1, c1, cs1, rfl, hl1, hC1⟩ := opened_cols t1
   obtain ⟨k2, z2, -, -⟩ := DataW.trod_int Tryz.underlying3 t2
   obtain ⟨k3, z3, -, hw3⟩ := DataW.trod_string Tryz.underlying9 t3
   simp at z0 z2 z3
   subst z0 z2 z3
   refine ⟨⟨⟨k0, cs1, k2, k3⟩, A1, c1⟩, fun k hk => ?_, ⟨by unfold maxLen at hw0; omega, by unfold maxLen at hw3; omega⟩, hC1, hl1⟩
   match k, hk with
   | 0, _ => exact e0
   | 1, _ => exact e1
   | 2, _ => exact e2
   | 3, _ => exact e3
  obtain ⟨F, hF⟩ := choose_ltF (kind0, none, 0) h0
  have hk : ∀ j, j < l -> kA ((List.range l).map fun i => (F i).1) j = (F j).1 := fun j hj => by simp [kA, List.getD_eq_getElem?_getD, hj]
  refine ⟨some ⟨b, off, spot⟩, m, (List.range l).map fun i => (F i).1, fun j => (F j).2.1, fun j => (F j).2.2, by simp, by simpa using hl, by unfold maxLen at hm; omega, ⟨fun c hc => ?_, by simp; unfold maxLen at hm; omega⟩, fun hn => ?_, fun j hj => ?_⟩
  ·obtain ⟨i, hi, rfl⟩ := List.mem_map.1 hc
   rw [List.mem_range] at hi
   exact (hF i (by omega)).2.1
  ·have hn' : 0 < l := by simpa using hn
   have hs : spot = none := by
    have h1 := (hF 0 (by omega)).1 0 (by decide)
    have := World.cell?_spot h1
    rw [Addr.add, if_pos (by simp)] at this
    exact this
   subst hs
   have hadd : ∀ k, (⟨b, off, none⟩ : Addr).add k = ⟨b, off + k, none⟩ := by intro k; unfold Addr.add; split <;> simp_all
   refine ⟨b, off, rfl, ?_, fun j hj i hi => ?_⟩
   ·have := (hF 0 (by omega)).1 0 (by decide)
    rw [hadd] at this
    exact World.block_lt_of_cell? w _ this
   ·have hj' : j < l := by simpa using hj
    have h1 := (hF j (by omega)).1 i hi
    rw [hadd, <- Nat.add_assoc] at h1
    rw [h1]
    unfold kindV
    rw [hk j hj']
    rfl
  ·have hj' : j < l := by simpa using hj
   rw [hk j hj']
   exact (hF j (by omega)).2.2
set_option maxRecDepth 100000 in
theorem opened_fmt {H : Type} {enc : TypeId × Value -> H} {w : World} {r : Reach} {b0 base : Nat} {v : Value} {d : DataW H} {p : List MemPlace}
  (hv : Value.okWide Tryz.prog w r b0 24 v) (h : DataW.Trod enc Tryz.prog w base (fun _ => true) true 24 v d p) :
  ∃ (f : Fmt) (A : Option Addr) (c : Nat) (FA : Nat -> Option Addr) (FC : Nat -> Nat), v = .agg #[.int .u8 f.mark, .int .u8 f.quote, .slice A f.kinds.length c, .string f.head, .string f.tail, .string f.count, .string f.sum] /\ Kinds w A f.kinds FA FC /\ f.kinds.length <= c /\ c <= 9223372036854775807 /\ (0 <= f.mark /\ f.mark <= 255) /\ (0 <= f.quote /\ f.quote <= 255) := by
 obtain ⟨cs, n, rfl, hl, hg⟩ := open_structF Tryz.underlying24 (by kernel_rfl) (by kernel_rfl) hv h
 obtain ⟨c0, y0, e0, t0⟩ := hg 0 _ rfl
 obtain ⟨c1, y1, e1, t1⟩ := hg 1 _ rfl
 obtain ⟨c2, y2, e2, t2⟩ := hg 2 _ rfl
 obtain ⟨c3, y3, e3, t3⟩ := hg 3 _ rfl
 obtain ⟨c4, y4, e4, t4⟩ := hg 4 _ rfl
 obtain ⟨c5, y5, e5, t5⟩ := hg 5 _ rfl
 obtain ⟨c6, y6, e6, t6⟩ := hg 6 _ rfl
 match cs, hl with
 | [a0, a1, a2, a3, a4, a5, a6], _ =>
  simp at e0 e1 e2 e3 e4 e5 e6
  subst e0 e1 e2 e3 e4 e5 e6
  obtain ⟨k0, z0, -, w0⟩ := DataW.trod_int Tryz.underlying5 t0
  obtain ⟨k1, z1, -, w1⟩ := DataW.trod_int Tryz.underlying5 t1
  obtain ⟨A, cap, ks, FA, FC, rfl, hl2, hl3, hK⟩ := opened_kinds t2
  obtain ⟨k3, z3, -, -⟩ := DataW.trod_string Tryz.underlying9 t3
  obtain ⟨k4, z4, -, -⟩ := DataW.trod_string Tryz.underlying9 t4
  obtain ⟨k5, z5, -, -⟩ := DataW.trod_string Tryz.underlying9 t5
  obtain ⟨k6, z6, -, -⟩ := DataW.trod_string Tryz.underlying9 t6
  simp at z0 z1 z3 z4 z5 z6
  subst z0 z1 z3 z4 z5 z6
  exact ⟨⟨k0, k1, ks, k3, k4, k5, k6⟩, A, cap, FA, FC, rfl, hK, hl2, hl3, u8_wf w0, u8_wf w1⟩
end Go.Proofs.YtbnjejenejoibaaGreatDoor
