
/- The walk of whole.Int.Text at a number that is not below 0. -/
import Derived.Test.YtmeefinnefanpaaDoorT2
import Derived.Lib.ItoaNum
import Derived.Deep.LoopGhost
namespace Go.Proofs.YtmeefinnefanpaaDoor
open Go.RowKit Limb
set_option linter.unusedVariables false
set_option linter.unusedSimpArgs false
set_option linter.unnecessarySimpa false

/-! ### Plain -/
/-- The digits; none of 0. -/
def tailD (m : Nat) : List UInt8 := if m = 0 then [] else Lib.decDigits m
theorem tail_zero : tailD 0 = [] := rfl
theorem tail_pos {m : Nat} (h : 0 < m) : tailD m = Lib.decDigits m := if_neg (by omega)
theorem tail_step {m : Nat} (h : 0 < m) : tailD m = tailD (m / 10) ++ [UInt8.ofNat (48 + m % 10)] := by
  rw [tail_pos h, Lib.decDigits]
  by_cases h10 : m < 10
  · rw [dif_pos h10, show m / 10 = 0 by omega, show m % 10 = m by omega, tail_zero]; rfl
  · rw [dif_neg h10, tail_pos (by omega)]
theorem tail_len : ∀ (k m : Nat), m < 10 ^ k → (tailD m).length ≤ k
  | 0, m, h => by have : m = 0 := by simpa using h
                  subst this; simp [tail_zero]
  | k + 1, m, h => by
    rcases Nat.eq_zero_or_pos m with h0 | h0
    · subst h0; simp [tail_zero]
    · rw [tail_step h0, List.length_append, List.length_singleton]
      have := tail_len k (m / 10) (by rw [Nat.pow_succ] at h; omega)
      omega
/-- One step of the long division. -/
theorem div_step {ds d0 : List Nat} {j r x : Nat} (hj : j < ds.length) (hl : ds.length = d0.length) (hx : dg d0 j = x) (hv : 10 * val B32 (ds.drop (j + 1)) + r = val B32 (d0.drop (j + 1))) :
    10 * val B32 ((ds.set j ((r * 4294967296 + x) / 10)).drop j) + (r * 4294967296 + x) % 10 = val B32 (d0.drop j) := by
  have h1 : (ds.set j ((r * 4294967296 + x) / 10)).drop j = ((r * 4294967296 + x) / 10) :: ds.drop (j + 1) := by
    rw [List.drop_eq_getElem_cons (by simpa using hj), List.getElem_set_self]
    congr 1
    rw [List.drop_set_of_lt (by omega)]
  have h2 : d0.drop j = x :: d0.drop (j + 1) := by
    rw [List.drop_eq_getElem_cons (by omega)]
    congr 1
    have := dg_get (l := d0) (k := j) (by omega)
    rw [List.getElem?_eq_getElem (by omega)] at this
    injection this with this
    rw [this, hx]
  rw [h1, h2, val_cons, val_cons, ← hv]
  have h3 : (r * 4294967296 + x) % 10 + 10 * ((r * 4294967296 + x) / 10) = r * 4294967296 + x := by omega
  have h4 : B32 * (10 * val B32 (ds.drop (j + 1)) + r) = 10 * (B32 * val B32 (ds.drop (j + 1))) + r * 4294967296 := by
    rw [Nat.mul_add, Nat.mul_left_comm]; congr 1; rw [Nat.mul_comm]; rfl
  rw [h4, Nat.mul_add]
  generalize B32 * val B32 (ds.drop (j + 1)) = V
  omega
theorem take_set {ds d0 : List Nat} {j q : Nat} (h : ds.take (j + 1) = d0.take (j + 1)) : (ds.set j q).take j = d0.take j := by
  rw [List.take_set_of_le (by omega)]
  have := congrArg (List.take j) h
  rw [List.take_take, List.take_take, Nat.min_eq_left (by omega)] at this
  exact this
theorem dg_take {ds d0 : List Nat} {j : Nat} (h : ds.take (j + 1) = d0.take (j + 1)) : dg ds j = dg d0 j := by
  have := congrArg (fun l => l.getD j 0) h
  simp only [List.getD_eq_getElem?_getD, List.getElem?_take] at this
  rw [if_pos (by omega), if_pos (by omega)] at this
  unfold dg
  rw [List.getD_eq_getElem?_getD, List.getD_eq_getElem?_getD]
  exact this

/-! ### Rows of two types -/
theorem tgrown_heap {w w' : World} {B E g n size : Nat} {cs : Array Value} {T : TypeId} {f : Nat × Nat} {v : Value} {xs : List Value} (h : w.heap[g]? = some (.cells cs T f)) (hown : w.ownsRow B E size v n xs) (hg : w.grownBy w' v.ownBlock) (hne : E ≠ T) : w'.heap[g]? = some (.cells cs T f) := by
  refine (hg.block g (lt_heap h) ?_).trans h
  rcases hown.2 with ⟨hv, _⟩ | ⟨g', cap, cur, hv, _, hh, _⟩
  · subst hv; simp [Value.ownBlock]
  · subst hv
    have := heap_ne hh h hne
    simp [Value.ownBlock]
    omega
theorem town_ge {w : World} {B E n size : Nat} {v : Value} {xs : List Value} (hown : w.ownsRow B E size v n xs) : ∀ g, v.ownBlock = some g → B ≤ g := by
  intro g hg
  rcases hown.2 with ⟨hv, _⟩ | ⟨g', cap, cur, hv, hb, hh, _⟩
  · subst hv; simp [Value.ownBlock] at hg
  · subst hv; simp [Value.ownBlock] at hg; omega
theorem town_grown {w w' : World} {B E n size B' E' n' size' : Nat} {v v' : Value} {xs xs' : List Value} (h : w.ownsRow B E size v n xs) (ho : w.ownsRow B' E' size' v' n' xs') (hg : w.grownBy w' v'.ownBlock) (hne : E' ≠ E) : w'.ownsRow B E size v n xs := by
  refine ⟨h.1, ?_⟩
  rcases h.2 with hn | ⟨g, cap, cur, hv, hb, hh, hr⟩
  · exact .inl hn
  · exact .inr ⟨g, cap, cur, hv, hb, tgrown_heap hh ho hg hne, hr⟩
theorem town_set {w : World} {B E n size B' E' n' size' c' g' i : Nat} {v : Value} {xs xs' : List Value} (h : w.ownsRow B E size v n xs) (ho : w.ownsRow B' E' size' (.slice (some ⟨g', 0, none⟩) n' c') n' xs') (hne : E' ≠ E) (u : Value) : (w.setCell ⟨g', i, none⟩ u).ownsRow B E size v n xs := by
  refine ⟨h.1, ?_⟩
  rcases ho.2 with ⟨hv, _⟩ | ⟨g2, cap2, cur2, hv2, _, hh2, _⟩
  · injection hv with hv; cases hv
  · injection hv2 with hv2
    injection hv2 with hv2
    injection hv2 with hv2
    subst hv2
    rcases h.2 with hn | ⟨g, cap, cur, hv, hb, hh, hr⟩
    · exact .inl hn
    · exact .inr ⟨g, cap, cur, hv, hb, heap_far hh (heap_ne hh hh2 (Ne.symm hne)) _, hr⟩

theorem Tryd.info5 : (Tryd.prog.info? 5).map (fun i => (i.zero, i.size, i.bytes)) = some (some (.int .u8 0), 1, 1) := by kernel_rfl
/-- What Text comes to. -/
def RetTx (m : Nat) (w : World) (e : Ending) (w' : World) : Prop := e = .returned (.string ⟨(Lib.decDigits m).toArray⟩) ∧ Below w.heap.size w w'

end Go.Proofs.YtmeefinnefanpaaDoor
