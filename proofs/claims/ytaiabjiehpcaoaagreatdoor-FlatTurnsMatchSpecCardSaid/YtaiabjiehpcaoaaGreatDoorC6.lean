/- The walk of the program's Fewest. (Printed by genY5.py.) The walks of the program's sumOf and SumOf. (Printed by genY6.py.) The walk of the program's SumOf. -/
import Derived.Test.YtaiabjiehpcaoaaGreatDoorY3
import Derived.Test.YtaiabjiehpcaoaaGreatDoorA7
import Derived.Test.YtaiabjiehpcaoaaGreatDoorRH
import Derived.Test.YtaiabjiehpcaoaaGreatDoorT16
import Derived.Test.YtaiabjiehpcaoaaGreatDoorV2
import Derived.Test.YtaiabjiehpcaoaaGreatDoorZE
import Derived.Test.YtaiabjiehpcaoaaGreatDoorY1
import Derived.Test.YtaiabjiehpcaoaaGreatDoorZA
import Derived.Deep.OwnRows
import Derived.Deep.AppendLies
import Derived.Deep.DeepCutAuto
-- merged: Y5 Y6 Y7 YQ I1 C0 C1 C2 C5 C6
namespace Go.Proofs.YtaiabjiehpcaoaaGreatDoor
open Go.RowKit Limb Nmb Work
set_option linter.unusedVariables false
set_option linter.unusedSimpArgs false
theorem bs_of {s : ByteArray} {l : List UInt8} (h : s.data.toList = l) : s = bs l := by rw [<- h]; exact (bs_self s).symm
theorem rA_take {rs : List RowP} {n j : Nat} (h : j < n) : rA (rs.take n) j = rA rs j := by
 unfold rA
 rw [List.getD_eq_getElem?_getD, List.getD_eq_getElem?_getD, List.getElem?_take, if_pos h]
theorem ystrV_get {L : List ByteArray} {j : Nat} (h : j < L.length) : (ystrV L)[j]? = some (.string (wd L j)) := by
 unfold ystrV wd; simp [List.getD_eq_getElem?_getD, h]
theorem own_obj {w : World} {base : Nat} {e : TypeId} {size n cap g : Nat} {xs : List Value} (h : w.ownsRow base e size (.slice (some ⟨g, 0, none⟩) n cap) n xs) : ∃ cur, w.heap[g]? = some (.cells cur e (0, 0)) /\ base <= g := by
 rcases h.2 with ⟨hv, h0⟩ | ⟨g', cap', cur, hv, hb, hg, -⟩
 ·cases hv
 ·cases hv
  exact ⟨cur, hg, hb⟩
theorem Tryz.infoStr : (Tryz.prog.info? 9).map (fun i => (i.zero, i.size, i.bytes)) = some (some (.string ⟨#[]⟩), 1, 16) := by kernel_rfl
section
variable {P : Program} {ops : Array Oper} {Q : Exit -> Act -> World -> Prop} {md : Region.Mode} {k : Nat}
end
def TailSt (wk wx : World) (TB : Nat) (tl : ByteArray) (V : List ByteArray) : Prop := ∃ (TX : Option Addr) (TC : Nat), wk.heap.size <= TB /\ wx.heap[TB]? = some (.cells #[.string tl, .slice TX V.length TC] 49 (0, 0)) /\ wx.ownsRow wk.heap.size 9 1 (.slice TX V.length TC) V.length (ystrV V) /\ Below wk.heap.size wk wx
theorem own_made9 (w : World) (B N : Nat) (hB : B <= w.heap.size) (hN : N <= 100000) : (w.alloc (.cells (madeCells #[Value.string ⟨#[]⟩] N) 9)).ownsRow B 9 1 (.slice (some ⟨w.heap.size, 0, none⟩) N N) N (ystrV (List.replicate N ⟨#[]⟩)) := by
 have h := World.ownsRow_lit (base := B) (e := 9) (size := 1) w (madeCells #[Value.string ⟨#[]⟩] N) N hB (by unfold maxLen; omega) (by
  have := congrArg List.length (toList_madeCells_one (.string ⟨#[]⟩) N)
  rw [Array.length_toList, List.length_replicate] at this
  omega)
 rw [toList_madeCells_one] at h
 have e : ystrV (List.replicate N ⟨#[]⟩) = List.replicate N (Value.string ⟨#[]⟩) := by simp [ystrV]
 rw [e]
 exact h
theorem TailSt.made1 (wk : World) (tl : ByteArray) (nf : Nat) (hnf : nf <= 50) : TailSt wk ((wk.alloc (.cells (madeCells #[Value.string ⟨#[]⟩] nf) 9)).alloc (.cells #[.string tl, .slice (some ⟨wk.heap.size, 0, none⟩) nf nf] 49)).drew (wk.heap.size + 1) tl (List.replicate nf ⟨#[]⟩) := by
 refine ⟨some ⟨wk.heap.size, 0, none⟩, nf, Nat.le_succ _, ?_, ?_, by go_grown⟩
 ·rw [List.length_replicate]
  exact heap_new (wk.alloc (.cells (madeCells #[Value.string ⟨#[]⟩] nf) 9)) _ (by simp)
 ·rw [List.length_replicate]
  exact ((own_made9 wk wk.heap.size nf (Nat.le_refl _) (by omega)).alloc _).drew
theorem TailSt.made2 (wk : World) (tl : ByteArray) (nf : Nat) (hnf : nf <= 50) : TailSt wk ((wk.alloc (.cells #[.string tl, .slice (some ⟨wk.heap.size + 1, 0, none⟩) nf nf] 49)).alloc (.cells (madeCells #[Value.string ⟨#[]⟩] nf) 9)).drew wk.heap.size tl (List.replicate nf ⟨#[]⟩) := by
 refine ⟨some ⟨wk.heap.size + 1, 0, none⟩, nf, Nat.le_refl _, ?_, ?_, by go_grown⟩
 ·rw [List.length_replicate]
  exact heap_old (heap_new wk _ rfl) _
 ·rw [List.length_replicate]
  have h := own_made9 (wk.alloc (.cells #[.string tl, .slice (some ⟨wk.heap.size + 1, 0, none⟩) nf nf] 49)) wk.heap.size nf (by simp) (by omega)
  rw [World.size_alloc] at h
  exact h.drew
theorem TailSt.bel {wk wx : World} {TB : Nat} {tl : ByteArray} {V : List ByteArray} (h : TailSt wk wx TB tl V) : Below wk.heap.size wk wx := by obtain ⟨_, _, _, _, _, hb⟩ := h; exact hb
theorem TailSt.below {wk wx w' : World} {TB : Nat} {tl : ByteArray} {V : List ByteArray} (h : TailSt wk wx TB tl V) (hb : Below wx.heap.size wx w') : TailSt wk w' TB tl V := by
 obtain ⟨TX, TC, h1, h2, h3, h4⟩ := h
 exact ⟨TX, TC, h1, heap_below h2 hb, own_below h3 hb, below_then hb h4 h4.size⟩
theorem TailSt.drewN {wk wx : World} {TB : Nat} {tl : ByteArray} {V : List ByteArray} (h : TailSt wk wx TB tl V) (n : Nat) : TailSt wk (wx.drewN n) TB tl V := h.below ⟨rfl, rfl, rfl, Nat.le_refl _, fun _ _ => rfl⟩
theorem TailSt.far {wk wx : World} {TB D i : Nat} {tl : ByteArray} {V : List ByteArray} {cs : Array Value} {U : TypeId} (h : TailSt wk wx TB tl V) (hd : wx.heap[D]? = some (.cells cs U (0, 0))) (h1 : 49 ≠ U) (h9 : U ≠ 9) (hD : wk.heap.size <= D) (u : Value) : TailSt wk (wx.setCell ⟨D, i, none⟩ u) TB tl V := by
 obtain ⟨TX, TC, g1, g2, g3, g4⟩ := h
 exact ⟨TX, TC, g1, heap_far g2 (heap_ne g2 hd h1) _, own_set9 g3 hd h9 _, g4.setCell (p := ⟨D, i, none⟩) hD _⟩
theorem ystrV_set (V : List ByteArray) (i : Nat) (a : ByteArray) : ystrV (V.set i a) = (ystrV V).set i (.string a) := by unfold ystrV; rw [List.map_set]
theorem TailSt.put {wk wx : World} {TB g TC i : Nat} {tl a : ByteArray} {V : List ByteArray} (h1 : wk.heap.size <= TB) (h2 : wx.heap[TB]? = some (.cells #[.string tl, .slice (some ⟨g, 0, none⟩) V.length TC] 49 (0, 0))) (h3 : wx.ownsRow wk.heap.size 9 1 (.slice (some ⟨g, 0, none⟩) V.length TC) V.length (ystrV V)) (h4 : Below wk.heap.size wk wx) (hi : i < V.length) : TailSt wk (wx.setCell ⟨g, i, none⟩ (.string a)) TB tl (V.set i a) := by
 obtain ⟨cur, hcur, hbg⟩ := own_obj h3
 refine ⟨some ⟨g, 0, none⟩, TC, h1, ?_, ?_, h4.setCell (p := ⟨g, i, none⟩) hbg _⟩
 ·rw [List.length_set]
  exact heap_far h2 (heap_ne h2 hcur (by decide)) _
 ·rw [List.length_set, ystrV_set]
  exact own_setAt h3 (by omega) _
theorem RowsM.take {w : World} {L : Option Addr} {rs : List RowP} {RA : Nat -> Option Addr} {RC : Nat -> Nat} (h : RowsM w L rs RA RC) (n : Nat) : RowsM w L (rs.take n) RA RC := by
 refine ⟨fun hn => ?_, fun j hj => ?_, ?_⟩
 ·rw [List.length_take] at hn
  obtain ⟨b, off, e, hb, hc⟩ := h.rows (by omega)
  refine ⟨b, off, e, hb, fun j hj i hi => ?_⟩
  rw [List.length_take] at hj
  rw [hc j (by omega) i hi]
  unfold rowV
  rw [rA_take (by omega)]
 ·rw [List.length_take] at hj
  rw [rA_take (by omega)]
  exact h.each j (by omega)
 ·rw [List.length_take]
  have := h.len
  omega
end Go.Proofs.YtaiabjiehpcaoaaGreatDoor
