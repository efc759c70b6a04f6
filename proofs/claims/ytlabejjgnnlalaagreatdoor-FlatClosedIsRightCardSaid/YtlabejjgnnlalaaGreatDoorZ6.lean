
/- The walk of lossesOf. (Printed by genZ6.py.) -/
import Derived.Test.YtlabejjgnnlalaaGreatDoorZ5
namespace Go.Proofs.YtlabejjgnnlalaaGreatDoor
open Go.RowKit Limb Nmb Work
set_option linter.unusedVariables false
set_option linter.unusedSimpArgs false
def losL (x : Loss) : List Value := [.string x.tag, .string x.name, .int .i64 x.kind]
def losC (l : List Loss) : List Value := l.flatMap losL
theorem losC_app (l m : List Loss) : losC l ++ losC m = losC (l ++ m) := by simp [losC]
def Los (w : World) (A : Option Addr) (l : List Loss) : Prop := 0 < l.length → ∃ b off, A = some ⟨b, off, none⟩ ∧ b < w.heap.size ∧ ∀ j u, (losC l)[j]? = some u → w.cell? ⟨b, off + j, none⟩ = some u
theorem Los.below {w w' : World} {A : Option Addr} {l : List Loss} (h : Los w A l) (hb : Below w.heap.size w w') : Los w' A l := fun hn => by
  obtain ⟨b, off, e, hl, hc⟩ := h hn
  exact ⟨b, off, e, Nat.lt_of_lt_of_le hl hb.size, fun j u hj => (hb.cell (p := ⟨b, off + j, none⟩) hl).trans (hc j u hj)⟩
def RetLoss (l : List Loss) (w : World) (e : Ending) (w' : World) : Prop := ∃ A c, e = .returned (.slice A l.length c) ∧ Los w' A l ∧ Below w.heap.size w w'
theorem RetLoss.of {l : List Loss} {w w' : World} {A : Option Addr} {n c : Nat} (hn : l.length = n) (hl : Los w' A l) (hb : Below w.heap.size w w') : RetLoss l w (.returned (.slice A n c)) w' := ⟨A, c, by rw [hn], hl, hb⟩
end Go.Proofs.YtlabejjgnnlalaaGreatDoor
