
/- The walk of package amount: factor. -/
import Derived.Test.YtegobkaldedhhaaGreatDoorU6
import Derived.Deep.RegionHeld3
import Derived.Deep.AppendLies
namespace Go.Proofs.YtegobkaldedhhaaGreatDoor
open Go.RowKit Limb
set_option linter.unusedVariables false
set_option linter.unusedSimpArgs false

/-- Two rows of numbers of the call's own, in two blocks. -/
structure Pair (B : Nat) (w : World) (V1 : Value) (m1 : Nat) (xs : List Nat) (V2 : Value) (m2 : Nat) (ys : List Nat) : Prop where
  o1 : w.ownsRow B 3 1 V1 m1 (digV .i64 xs)
  o2 : w.ownsRow B 3 1 V2 m2 (digV .i64 ys)
  ne : ∀ g, V1.ownBlock = some g → V2.ownBlock ≠ some g
section
variable {B : Nat} {w W w1 : World} {V1 V2 : Value} {m1 m2 : Nat} {xs ys : List Nat}
theorem Pair.swap (h : Pair B w V1 m1 xs V2 m2 ys) : Pair B w V2 m2 ys V1 m1 xs := ⟨h.o2, h.o1, fun g h1 h2 => h.ne g h2 h1⟩
theorem own_lt {E size n : Nat} {V : Value} {zs : List Value} (h : w.ownsRow B E size V n zs) {g : Nat} (hg : V.ownBlock = some g) : g < w.heap.size := by
  rcases h.2 with ⟨hv, _⟩ | ⟨g', cap, cur, hv, _, hh, _⟩
  · rw [hv] at hg; simp [Value.ownBlock] at hg
  · rw [hv] at hg
    simp [Value.ownBlock] at hg
    subst hg
    exact lt_heap hh
theorem Pair.below (h : Pair B w V1 m1 xs V2 m2 ys) (hb : Below w.heap.size w W) : Pair B W V1 m1 xs V2 m2 ys := ⟨own_below h.o1 hb, own_below h.o2 hb, h.ne⟩
theorem Pair.push1 {G d X : Nat} (h : Pair B w V1 m1 xs V2 m2 ys) (hb : Below w.heap.size w W) (hg : W.grownBy w1 V1.ownBlock)
    (own1 : w1.ownsRow B 3 1 (.slice (some ⟨G, 0, none⟩) (m1 + 1) d) (m1 + 1) (digV .i64 xs ++ [.int .i64 ((X : Nat) : Int)])) (hat : V1.ownBlock = some G ∨ G = W.heap.size) :
    Pair B w1 (.slice (some ⟨G, 0, none⟩) (m1 + 1) d) (m1 + 1) (xs ++ [X]) V2 m2 ys := by
  have h2 := h.below hb
  refine ⟨by rw [digV_snoc]; exact own1, h2.o2.kept hg ?_, ?_⟩
  · rcases hv : V2.ownBlock with _ | g
    · exact .inl rfl
    · right
      intro e
      exact h.ne g e.symm hv
  · intro g hg1 hg2
    simp [Value.ownBlock] at hg1
    subst hg1
    rcases hat with e | e
    · exact h.ne _ e hg2
    · have := own_lt h2.o2 hg2
      omega
theorem Pair.push2 {G d X : Nat} (h : Pair B w V1 m1 xs V2 m2 ys) (hb : Below w.heap.size w W) (hg : W.grownBy w1 V2.ownBlock)
    (own2 : w1.ownsRow B 3 1 (.slice (some ⟨G, 0, none⟩) (m2 + 1) d) (m2 + 1) (digV .i64 ys ++ [.int .i64 ((X : Nat) : Int)])) (hat : V2.ownBlock = some G ∨ G = W.heap.size) :
    Pair B w1 V1 m1 xs (.slice (some ⟨G, 0, none⟩) (m2 + 1) d) (m2 + 1) (ys ++ [X]) := (h.swap.push1 hb hg own2 hat).swap
/-- What was made behind the rows' blocks stays. -/
theorem keep_new {n : Nat} {zs : List Value} {V : Value} (h : w.ownsRow B 3 1 V n zs) (hg : W.grownBy w1 V.ownBlock) : ∀ (g : Nat) (o : Obj), w.heap.size ≤ g → W.heap[g]? = some o → w1.heap[g]? = some o := by
  intro g o hle ho
  refine (hg.block g (lt_heap ho) ?_).trans ho
  rcases hv : V.ownBlock with _ | g'
  · simp
  · have := own_lt h hv
    simp; omega
end

/-- What factor comes to. -/
def FacR (us : List Unt) (x y : List UInt8) (w : World) (e : Ending) (w' : World) : Prop :=
  Below w.heap.size w w' ∧ ((facF us x y ≠ 0 ∧ e = .returned (.tuple #[.slice none 0 0, .slice none 0 0, .int .i64 (facF us x y)])) ∨
    ∃ i k m A c A2 c2, facF us x y = 0 ∧ chkU us = 0 ∧ idxU us x = some i ∧ idxU us y = some k ∧ (topL us i k).length = m ∧ (botL us i k).length = m ∧ e = .returned (.tuple #[.slice A m c, .slice A2 m c2, .int .i64 0]) ∧ Pair w.heap.size w' (.slice A m c) m (topL us i k) (.slice A2 m c2) m (botL us i k))

section
variable {us : List Unt} {x y : List UInt8}
theorem fac_chk (h : chkU us ≠ 0) : facF us x y = chkU us := by unfold facF; rw [if_pos h]
theorem fac_name (h : chkU us = 0) (h2 : foundU us x = false ∨ foundU us y = false) : facF us x y = 5 := by
  unfold facF foundU at *
  rw [if_neg (by omega)]
  cases hx : idxU us x <;> cases hy : idxU us y <;> simp_all
theorem fac_both (h : chkU us = 0) {i k : Nat} (hx : idxU us x = some i) (hy : idxU us y = some k) : facF us x y = if (chL us i).getLast? ≠ (chL us k).getLast? then 6 else 0 := by
  unfold facF; rw [if_neg (by omega), hx, hy]
end
theorem last_dg {l : List Nat} (h : 0 < l.length) : l.getLast? = some (dg l (l.length - 1)) := by
  rw [List.getLast?_eq_getElem?, dg_get (by omega)]
theorem take_map {f : Nat → Nat} {l : List Nat} {j v : Nat} (hj : j < l.length) (hv : dg l j = v) : (l.take (j + 1)).map f = (l.take j).map f ++ [f v] := by
  have := dg_get hj
  rw [List.getElem?_eq_getElem hj] at this
  injection this with this
  rw [List.take_succ_eq_append_getElem hj, List.map_append, this, hv]; rfl
end Go.Proofs.YtegobkaldedhhaaGreatDoor
