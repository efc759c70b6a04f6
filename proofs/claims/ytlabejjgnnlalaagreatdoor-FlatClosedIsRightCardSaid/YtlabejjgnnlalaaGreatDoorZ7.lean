
/- The walk of Fits. (Printed by genZ7.py.) -/
import Derived.Test.YtlabejjgnnlalaaGreatDoorZ6
import Derived.Test.YtlabejjgnnlalaaGreatDoorF9
namespace Go.Proofs.YtlabejjgnnlalaaGreatDoor
open Go.RowKit Limb Nmb Work
set_option linter.unusedVariables false
set_option linter.unusedSimpArgs false
def LosO (w1 wr : World) (X : Option Addr) (n c : Nat) (l : List Loss) : Prop := l.length = n ∧ wr.ownsRow w1.heap.size 38 3 (.slice X n c) n (losC l) ∧ Below w1.heap.size w1 wr
theorem LosO.below {w1 wr w' : World} {X : Option Addr} {n c : Nat} {l : List Loss} (h : LosO w1 wr X n c l) (hb : Below wr.heap.size wr w') : LosO w1 w' X n c l := ⟨h.1, own_below h.2.1 hb, below_then hb h.2.2 h.2.2.size⟩
theorem LosO.app {w1 wr w' : World} {X X' : Option Addr} {n c c' m : Nat} {l l2 : List Loss} (h : LosO w1 wr X n c l) (hm : l2.length = m) (ho : w'.ownsRow w1.heap.size 38 3 (.slice X' (n + m) c') (n + m) (losC l ++ losC l2)) (hg : wr.grownBy w' (Value.slice X n c).ownBlock) : LosO w1 w' X' (n + m) c' (l ++ l2) :=
  ⟨by rw [List.length_append, h.1, hm], by rw [← losC_app]; exact ho, h.2.2.grown hg h.2.2.size (fun j hj => (h.2.1.lt j hj).1)⟩
theorem LosO.push {w1 wr w' : World} {X X' : Option Addr} {n c c' : Nat} {l : List Loss} {x : Loss} (h : LosO w1 wr X n c l) (ho : w'.ownsRow w1.heap.size 38 3 (.slice X' (n + 1) c') (n + 1) (losC l ++ losL x)) (hg : wr.grownBy w' (Value.slice X n c).ownBlock) : LosO w1 w' X' (n + 1) c' (l ++ [x]) :=
  h.app rfl (by rw [show losC [x] = losL x by simp [losC]]; exact ho) hg
theorem LosO.keep {w1 wr w' : World} {X : Option Addr} {n c g : Nat} {l : List Loss} {cs : Array Value} {U : TypeId} (h : LosO w1 wr X n c l) (hg : wr.grownBy w' (Value.slice X n c).ownBlock) (hh : wr.heap[g]? = some (.cells cs U (0, 0))) (hT : U ≠ 38) : w'.heap[g]? = some (.cells cs U (0, 0)) := grown_type h.2.1 hg hh hT
theorem FmtK.places {f : Fmt} (hf : FmtK f) {j : Nat} (hj : j < f.kinds.length) {i : Nat} (hi : i < (kA f.kinds j).fields.length) : (cA (kA f.kinds j).fields i).kind = 2 → 0 ≤ (cA (kA f.kinds j).fields i).places ∧ (cA (kA f.kinds j).fields i).places ≤ 9 := ((hf.kinds j hj).cols i hi).places
theorem kinds_cols {w : World} {A : Option Addr} {ks : List RKd} {FA : Nat → Option Addr} {FC : Nat → Nat} (h : Kinds w A ks FA FC) {j : Nat} (hj : j < ks.length) : Cols w (FA j) (kA ks j).fields := (h.2.2 j hj).1
end Go.Proofs.YtlabejjgnnlalaaGreatDoor
