/- A row of strings of a function's own: pushing to it. The walks of the program's columnOf and Column. (Printed by genY2.py.) The walk of the program's Column. -/
import Derived.Test.YtaiabjiehpcaoaaGreatDoorFE
import Derived.Test.YtaiabjiehpcaoaaGreatDoorY1
-- merged: YP Y2 Y3
namespace Go.Proofs.YtaiabjiehpcaoaaGreatDoor
open Go.RowKit Limb Nmb Work
set_option linter.unusedVariables false
set_option linter.unusedSimpArgs false
def ystrV (L : List ByteArray) : List Value := L.map Value.string
theorem ystrV_app (L M : List ByteArray) : ystrV L ++ ystrV M = ystrV (L ++ M) := by unfold ystrV; simp
theorem yown_sts {w : World} {B : Nat} {A : Option Addr} {n c : Nat} {L : List ByteArray} (h : w.ownsRow B 9 1 (.slice A n c) n (ystrV L)) (hn : 0 < n) : ∃ g, A = some ⟨g, 0, none⟩ /\ Sts w (some ⟨g, 0, none⟩) L /\ n <= c /\ L.length = n := by
 have hc := own_cap h
 obtain ⟨h1, h2⟩ := h
 have hl : L.length = n := by unfold ystrV at h1; rw [List.length_map] at h1; omega
 rcases h2 with ⟨h2, h3⟩ | ⟨g, cap, cur, hv, hb, hh, hn2, _, hs, ht⟩
 ·omega
 ·cases hv
  refine ⟨g, rfl, fun _ => ⟨g, 0, cur, (0, 0), rfl, hh, fun j hj => ?_⟩, hc.1, hl⟩
  have h3 : (ystrV L)[j]? = some (.string (wd L j)) := by unfold ystrV wd; simp [List.getD_eq_getElem?_getD, hj]
  rw [<- ht, List.getElem?_take, if_pos (by omega)] at h3
  rw [Nat.zero_add]
  simpa using h3
theorem ywpList_push_strs {P : Program} {w : World} {ops : Array Oper} {rest : List Oper} {o : Oper} {a : Act} {Q : Exit -> Act -> World -> Prop}
  (hg : o.guard = none) (s x : Operand) (t : TypeId) (hop : o.op = Op.call { callee := Callee.builtin Builtin.append, args := #[s, x], argTypes := #[t, t] })
  (base : Nat) (i : TypeInfo) (z : Value) (h1 : P.underlying t = some (.slice 9)) (h2 : P.info? 9 = some i) (hz : i.zero = some z) (h4 : i.size = 1) (hby : i.bytes = 16) (hzs : z.cells.size = 1)
  (v : Value) (n : Nat) (L : List ByteArray) (hs : a.eval s = v) (hown : w.ownsRow base 9 1 v n (ystrV L)) (m : Nat) (us : List Value) (M : List ByteArray) (hus : us = ystrV M) (hx : a.eval x = .slice (some ⟨w.heap.size, 0, none⟩) m m) (hm : M.length = m)
  (b1 : n + m <= 1000000) (hbase : base <= w.heap.size)
  (hK : ∀ A c w', w'.ownsRow base 9 1 (.slice A (n + m) c) (n + m) (ystrV (L ++ M)) -> w.grownBy w' v.ownBlock -> wpList P ops Q rest (a.put o.dst (.slice A (n + m) c)) w') :
  wpList P ops Q (o :: rest) a (w.alloc (.cells us.toArray 9)) := by
 subst hus
 exact wpList_append_own _ hg s x t hop base 9 i z 1 16 h1 h2 hz h4 hby hzs (by omega) v n (ystrV L) hs (hown.alloc _) ⟨w.heap.size, 0, none⟩ m m (ystrV M) hx (by unfold ystrV; rw [List.length_map]; omega) (k_cellsF w (ystrV M) 9)
  (by intro u hu; unfold ystrV at hu; obtain ⟨y, -, rfl⟩ := List.mem_map.1 hu; rfl) (by unfold maxLen; omega) (by omega) (by simp; omega) fun v' w' r1 r2 _ => by
  obtain ⟨A, c, rfl⟩ := own_slice r1
  rw [ystrV_app] at r1
  exact hK A c w' r1 (grown_alloc r2)
end Go.Proofs.YtaiabjiehpcaoaaGreatDoor
