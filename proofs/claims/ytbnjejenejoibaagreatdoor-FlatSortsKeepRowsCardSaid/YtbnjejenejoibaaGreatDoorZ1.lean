/- The walks of the program's columnOf and Column. (Printed by genY2.py.) The walk of the program's Column. -/
import Derived.Test.YtbnjejenejoibaaGreatDoorSQU
import Derived.Test.YtbnjejenejoibaaGreatDoorZ4
import Derived.Test.YtbnjejenejoibaaGreatDoorA3
import Derived.Test.YtbnjejenejoibaaGreatDoorRH
import Derived.Test.YtbnjejenejoibaaGreatDoorT14
import Derived.Test.YtbnjejenejoibaaGreatDoorDFP
import Derived.Lib.SliceRun
import Derived.Deep.AppendLies
import Derived.OwnWalk
-- merged: Y2 Y3 Y5 Y6 ZT Z8 Z9 SQT SQV Z1
namespace Go.Proofs.YtbnjejenejoibaaGreatDoor
open Go.RowKit Limb Nmb Work
set_option linter.unusedVariables false
set_option linter.unusedSimpArgs false
theorem zbelow_dn {B : Nat} {a w : World} (h : Below B a w) (n : Nat) : Below B a (w.drewN n) := ⟨h.os, h.tape, h.output, h.size, h.block⟩
theorem made_zero {z p : Int} (h : (made z p).2.2 ≠ 0) : (made z p).1 = 0 /\ (made z p).2.1 = 0 := by
 by_cases hz : z.natAbs <= 1000000000000000
 ·rw [show made z p = (z, p, 0) from if_pos hz] at h; exact absurd rfl h
 ·rw [show made z p = (0, 0, 1) from if_neg hz]; exact ⟨rfl, rfl⟩
theorem readR_zero {neg : Bool} {l : List UInt8} {nb : Int} (h : (readR neg l nb).2.2 ≠ 0) : (readR neg l nb).1 = 0 /\ (readR neg l nb).2.1 = 0 := by
 cases neg with
 | true =>
  by_cases h0 : numL l = 0
  ·have e : readR true l nb = (0, 0, 10) := by simp [readR, h0]
   rw [e]; exact ⟨rfl, rfl⟩
  ·have e : readR true l nb = made (-(numL l : Int)) nb := by simp [readR, h0]
   rw [e] at h ⊢; exact made_zero h
 | false =>
  have e : readR false l nb = made (numL l : Int) nb := by simp [readR]
  rw [e] at h ⊢; exact made_zero h
theorem readText_dec2 (l : List UInt8) : decB (readText l).1 (readText l).2.1 = true := by
 by_cases h : (readText l).2.2 = 0
 ·exact readText_dec h
 ·have e : readText l = (0, 0, 10) ∨ ∃ neg m nb, readText l = readR neg m nb := by
   unfold readText
   simp only
   by_cases hb : (decide (40 < l.length) || !wholeB (cutL (if (l.head? == some 45) = true then l.tail else l) 46).1 || ((cutL (if (l.head? == some 45) = true then l.tail else l) 46).2.2 && (!digB (cutL (if (l.head? == some 45) = true then l.tail else l) 46).2.1 || decide (9 < (cutL (if (l.head? == some 45) = true then l.tail else l) 46).2.1.length)))) = true
   ·rw [if_pos hb]; exact .inl rfl
   ·rw [if_neg hb]; exact .inr ⟨_, _, _, rfl⟩
  rcases e with e | ⟨neg, m, nb, e⟩
  ·rw [e]; decide
  ·rw [e] at h ⊢
   obtain ⟨h1, h2⟩ := readR_zero h
   rw [h1, h2]
   decide
theorem scl_bd {u p : Int} (h : decB u p = true) : -1000000000000000000000000 <= scaled u p 9 /\ scaled u p 9 <= 1000000000000000000000000 := by
 have := decB_out h
 exact scaled_bound (by omega) (by omega)
end Go.Proofs.YtbnjejenejoibaaGreatDoor
namespace Go.Proofs.YtbnjejenejoibaaGreatDoor
open Limb Nmb Work
set_option linter.unusedVariables false
set_option linter.unusedSimpArgs false
end Go.Proofs.YtbnjejenejoibaaGreatDoor
namespace Go.Proofs.YtbnjejenejoibaaGreatDoor
open Go.RowKit Limb Nmb Work
set_option linter.unusedVariables false
set_option linter.unusedSimpArgs false
theorem look_mem {m : List (KeyP × RowP)} (h : (keysL m).Nodup) {k : KeyP} {r : RowP} (hm : (k, r) ∈ m) : lookK m k = some r := by
 induction m with
 | nil => cases hm
 | cons x m ih =>
  unfold keysL at h
  rw [List.map_cons, List.nodup_cons] at h
  unfold lookK
  rw [List.find?_cons]
  rcases List.mem_cons.1 hm with e | hm
  ·subst e
   simp
  ·have hne : x.1 ≠ k := fun e => h.1 (e ▸ List.mem_map.2 ⟨(k, r), hm, rfl⟩)
   rw [show decide (x.1 = k) = false from decide_eq_false hne]
   exact ih h.2 hm
theorem oth_same (k : KeyP) (cs : List Col) (r : List ByteArray) : ∀ i, othL k cs r r i = []
 | 0 => rfl
 | i + 1 => by
  unfold othL
  rw [oth_same k cs r i, if_pos rfl]
  rfl
theorem ids_perm (f : Fmt) (name : ByteArray) {a b : List RowP} (h : a.Perm b) : (idsF f name a).Perm (idsF f name b) := h.filterMap _
theorem diff_same {f : Fmt} {a b : List RowP} {name : ByteArray} (h : a.Perm b) : diffL f a b name = [] := by
 unfold diffL
 by_cases h0 : diffE f a b name = 0
 ·rw [if_neg (fun k => k h0)]
  obtain ⟨ha, hb⟩ := diffE_ok h0
  have hp := ids_perm f name h
  rw [List.flatMap_eq_nil_iff]
  intro k hk
  have h1 : k ∈ bothK (idsF f name a) (idsF f name b) := (List.mergeSort_perm _ _).mem_iff.1 hk
  have h2 : k ∈ keysL (idsF f name a) := by
   rcases both_mem.1 h1 with h2 | h2
   ·exact h2
   ·exact (hp.map _).mem_iff.2 h2
  obtain ⟨⟨k', r⟩, hm, e⟩ := List.mem_map.1 h2
  subst e
  unfold chgK
  rw [look_mem (of_decide_eq_true ha) hm, look_mem (of_decide_eq_true hb) (hp.mem_iff.1 hm)]
  exact oth_same _ _ _ _
 ·rw [if_pos h0]
theorem diff_err {f : Fmt} {a b : List RowP} {name : ByteArray} (h1 : checkF f = 0) (h2 : (rowsF f a).2 = 0) (h3 : (rowsF f b).2 = 0) : diffE f a b name = 0 ∨ diffE f a b name = 2 ∨ diffE f a b name = 5 ∨ diffE f a b name = 7 := by
 unfold diffE
 rw [if_neg (fun k => k h1), if_neg (c := (rowsF f a).2 ≠ 0) (fun k => k h2), if_neg (c := (rowsF f b).2 ≠ 0) (fun k => k h3)]
 split
 ·exact .inr (.inl rfl)
 split
 ·exact .inr (.inr (.inl rfl))
 split
 ·exact .inr (.inr (.inr rfl))
 ·exact .inl rfl
theorem ownRow_take {w : World} {base : Nat} {E : TypeId} {size : Nat} {A : Option Addr} {n c k : Nat} {xs : List Value} (h : w.ownsRow base E size (.slice A n c) n xs) (hk : k <= n) : w.ownsRow base E size (.slice A k c) k (xs.take (k * size)) := by
 have hl := h.1
 have hks : k * size <= n * size := Nat.mul_le_mul_right _ hk
 refine ⟨by rw [List.length_take, hl]; omega, ?_⟩
 rcases h.2 with ⟨hv, hn⟩ | ⟨g, cap, cur, hv, hb, hh, h1, h2, h3, h4⟩
 ·injection hv with a1 a2 a3
  subst a1; subst a3
  exact .inl ⟨by rw [show k = 0 by omega], by omega⟩
 ·injection hv with a1 a2 a3
  subst a1; subst a3
  refine .inr ⟨g, c, cur, rfl, hb, hh, by omega, h2, h3, ?_⟩
  rw [<- h4, List.take_take, Nat.min_eq_left hks]
theorem run_clear_two {P : Program} (w : World) (t e ty : TypeId) (z z0 z1 : Value) (ht : P.underlying t = some (.slice e)) (hv : ∀ w, (zeroValue e).run P w = .ok z w) (hz : z.cells = #[z0, z1]) (h0 : z0.oneCell' = true) (h1 : z1.oneCell' = true) (b o c : Nat)
  (hc : ∀ j, j < 2 -> (w.cell? ⟨b, o + j, none⟩).isSome = true) (hf : ∀ j, j < 2 -> w.frozen? ⟨b, o + j, none⟩ = false) :
  (Builtin.clear_ #[t] ty #[.slice (some ⟨b, o, none⟩) 1 c]).run P w = .ok (.tuple #[]) (w.setCells b o [z0, z1]) := by
 have hzc : (Builtin.zeroCells z.cells 1).toList = [z0, z1] := by
  rw [hz]
  unfold Builtin.zeroCells
  apply List.ext_getElem
  ·simp
  ·intro i h1 h2
   simp at h2
   rcases (show i = 0 ∨ i = 1 by omega) with rfl | rfl <;> simp
 have hst := run_storeCells_cells (P := P) b o [z0, z1] 0 w (by simpa using hc) (by simpa using hf) (by
  intro v hv'
  simp at hv'
  rcases hv' with rfl | rfl
  ·exact h0
  ·exact h1)
 simp only [Nat.add_zero] at hst
 simp [Builtin.clear_, run_underlying ht, hv, hzc, hst]
theorem own_setOut {w : World} {base : Nat} {e : TypeId} {size n cap g i : Nat} {xs : List Value} (h : w.ownsRow base e size (.slice (some ⟨g, 0, none⟩) n cap) n xs) (hi : n * size <= i) (u : Value) : (w.setCell ⟨g, i, none⟩ u).ownsRow base e size (.slice (some ⟨g, 0, none⟩) n cap) n xs := by
 obtain ⟨h1, h2⟩ := h
 rcases h2 with ⟨hv, hn⟩ | ⟨g', cap', cur, hv, hb, hh, h3, h4, h5, h6⟩
 ·cases hv
 ·cases hv
  refine ⟨h1, .inr ⟨g, cap, cur.setIfInBounds i u, rfl, hb, heap_set hh i u, h3, h4, by rw [Array.size_setIfInBounds, h5], ?_⟩⟩
  rw [Array.toList_setIfInBounds, List.take_set, h6, List.set_eq_of_length_le (by omega)]
theorem own_setsOut {base : Nat} {e : TypeId} {size n cap g : Nat} {xs : List Value} : ∀ (vs : List Value) (i : Nat) (w : World), w.ownsRow base e size (.slice (some ⟨g, 0, none⟩) n cap) n xs -> n * size <= i -> (w.setCells g i vs).ownsRow base e size (.slice (some ⟨g, 0, none⟩) n cap) n xs
 | [], _, _, h, _ => h
 | v :: vs, i, w, h, hi => own_setsOut vs (i + 1) _ (own_setOut h hi v) (by omega)
theorem own_there {w : World} {base : Nat} {e : TypeId} {size n cap g i : Nat} {xs : List Value} (h : w.ownsRow base e size (.slice (some ⟨g, 0, none⟩) n cap) n xs) (hi : i < cap * size) : (w.cell? ⟨g, i, none⟩).isSome = true /\ w.frozen? ⟨g, i, none⟩ = false := by
 obtain ⟨h1, h2⟩ := h
 rcases h2 with ⟨hv, hn⟩ | ⟨g', cap', cur, hv, hb, hh, h3, h4, h5, h6⟩
 ·cases hv
 ·cases hv
  refine ⟨?_, by simp [World.frozen?, hh]⟩
  rw [cell_of_row _ _ _ _ _ _ hh, Array.getElem?_eq_getElem (by omega)]
  rfl
theorem step_append_fits {P : Program} (w : World) {ops : Array Oper} {o : Oper} {a : Act} {K : Act -> World -> Prop} {Q : Exit -> Act -> World -> Prop} {E : Prop} (hgd : o.guard = none) (s x : Operand) (t : TypeId)
  (ho : o.op = .call { callee := .builtin .append, args := #[s, x], argTypes := #[t, t] })
  (base : Nat) (e : TypeId) (i : TypeInfo) (size : Nat) (ht : P.underlying t = some (.slice e)) (hi : P.info? e = some i) (hsize : i.size = size)
  (g k cap : Nat) (xs : List Value) (hs : a.eval s = .slice (some ⟨g, 0, none⟩) k cap) (hown : w.ownsRow base e size (.slice (some ⟨g, 0, none⟩) k cap) k xs)
  (ad : Addr) (m c : Nat) (news : List Value) (hx : a.eval x = .slice (some ad) m c) (hl : news.length = m * size) (hnews : ∀ j u, news[j]? = some u -> w.cell? (ad.add j) = some u) (h1 : ∀ u ∈ news, u.oneCell' = true)
  (hroom : k + m <= cap)
  (h : ∀ w', w'.ownsRow base e size (.slice (some ⟨g, 0, none⟩) (k + m) cap) (k + m) (xs ++ news) -> w.grownBy w' (some g) -> K (a.put o.dst (.slice (some ⟨g, 0, none⟩) (k + m) cap)) w') :
  if Region.wanted o (yielded ops a.tmps) = true then Oper.wp P o a w K Q else E := by
 have hw : Region.wanted o (yielded ops a.tmps) = true := by simp [Region.wanted, hgd]
 rw [if_pos hw]
 obtain ⟨w', hr, h2, h3⟩ := run_append_fits (P := P) w base t o.type e i size ht hi hsize g k cap xs hown ad m c news hl hnews h1 hroom
 unfold Oper.wp execOp
 simp only [ho, resolve, invoke, builtin, Sem.run_bind, Sem.run_pure, Result.andThen_ok, List.map_toArray, List.map_cons, List.map_nil, hs, hx, hr]
 exact h w' h2 h3
set_option maxHeartbeats 1000000 in
set_option maxRecDepth 100000 in
theorem zeqstrs_q (L : List ByteArray) (A B : Option Addr) (c d : Nat) (w : World) (ha : Svs w A L) (hb : Svs w B L) (hm : L.length <= 9223372036854775807) :
  Calls Tryz.prog 26 #[.slice A L.length c, .slice B L.length d] w fun e w' => e = .returned (.bool true) /\ ∃ q, w' = w.drewN q := by
 have HA := Lib.hid ha; have HB := Lib.hid hb
 obtain ⟨n, hnn⟩ : ∃ x, L.length = x := ⟨_, rfl⟩
 have HN := Lib.hid hnn
 rw [hnn] at hm ⊢
 clear ha hb hnn
 go_enter Tryz.func26, Tryz.ntmps26
 go_wp2
 go_loopw [13] (fun y wx => ∃ j : Nat, j <= n /\ y = .int .i64 j /\ ∃ q, wx = w.drewN q) (fun y _ => n - (intOf y).toNat)
 case atStart => exact ⟨0, Nat.zero_le _, rfl, 0, rfl⟩
 case round =>
  obtain ⟨j, hj, rfl, q, rfl⟩ := hrel
  rcases Nat.lt_or_ge j n with hlt | hge
  ·obtain ⟨a, oa, rfl, -, ca⟩ := HA.out (by rw [HN.out]; omega)
   obtain ⟨b, ob, rfl, -, cb⟩ := HB.out (by rw [HN.out]; omega)
   have a0 := ca j (by rw [HN.out]; exact hlt)
   have b0 := cb j (by rw [HN.out]; exact hlt)
   obtain ⟨s, hs⟩ : ∃ x, wd L j = x := ⟨_, rfl⟩
   rw [hs] at a0 b0
   clear ca cb hs
   go_wp2_with fail
   go_quiet (fail)
   have e : (w.drewN q).drewN nq = w.drewN (q + nq) := World.drewN_drewN _ _ _
   rw [e]
   go_wp2
   go_roundw
   case rel => exact ⟨j + 1, by omega, by go_num, q + nq, rfl⟩
   case measure => simp [intOf]; omega
  ·obtain rfl : j = n := by omega
   go_wp2
   go_ret
   exact ⟨rfl, q, rfl⟩
set_option maxHeartbeats 2000000 in
set_option maxRecDepth 100000 in
theorem same_q (L L' : Option Addr) (LC LC' : Nat) (rs : List RowP) (RA RA' : Nat -> Option Addr) (RC RC' : Nat -> Nat) (w : World) (h : RowsM w L rs RA RC) (h' : RowsM w L' rs RA' RC') :
  Calls Tryz.prog 9 #[.slice L rs.length LC, .slice L' rs.length LC'] w fun e w' => e = .returned (.bool true) /\ ∃ q, w' = w.drewN q := by
 have HA := Lib.hid h; have HB := Lib.hid h'
 have hm := h.len
 obtain ⟨n, hnn⟩ : ∃ x, rs.length = x := ⟨_, rfl⟩
 have HN := Lib.hid hnn
 rw [hnn] at hm ⊢
 clear h h' hnn
 go_enter Tryz.func9, Tryz.ntmps9
 go_wp2
 go_loopw [13] (fun y wx => ∃ j : Nat, j <= n /\ y = .int .i64 j /\ ∃ q, wx = w.drewN q) (fun y _ => n - (intOf y).toNat)
 case atStart => exact ⟨0, Nat.zero_le _, rfl, 0, rfl⟩
 case round =>
  obtain ⟨j, hj, rfl, q, hq⟩ := hrel
  have HQ := Lib.hid hq
  have HBW := Lib.hid (show Below w.heap.size w wr by rw [hq]; exact zbelow_dn (Below.refl _ _) _)
  have HA := Lib.hid (HA.out.below HBW.out); have HB := Lib.hid (HB.out.below HBW.out)
  clear hq
  rcases Nat.lt_or_ge j n with hlt | hge
  ·obtain ⟨a, oa, rfl, -, a0, a1⟩ := HA.out.cells (j := j) (by rw [HN.out]; exact hlt)
   obtain ⟨b, ob, rfl, -, b0, b1⟩ := HB.out.cells (j := j) (by rw [HN.out]; exact hlt)
   have HE := Lib.hid (fun w ha hb hm => zeqstrs_q (rA rs j).vals (RA j) (RA' j) (RC j) (RC' j) w ha hb hm)
   have HVA := Lib.hid (HA.out.each j (by rw [HN.out]; exact hlt)).vals
   have HVB := Lib.hid (HB.out.each j (by rw [HN.out]; exact hlt)).vals
   have HLN := Lib.hid (HA.out.each j (by rw [HN.out]; exact hlt)).len
   obtain ⟨⟨tg, vs⟩, hr⟩ : ∃ x, rA rs j = x := ⟨_, rfl⟩
   rw [hr] at a0 a1 b0 b1 HE HVA HVB HLN
   generalize RA j = XA at a1 HE HVA HLN
   generalize RC j = XC at a1 HE HVA HLN
   generalize RA' j = YA at b1 HE HVB
   generalize RC' j = YC at b1 HE HVB
   simp only at a0 a1 b0 b1 HE HVA HVB HLN
   have HL := Lib.hid (Nat.le_trans HLN.out.1 HLN.out.2)
   obtain ⟨nv, hnv⟩ : ∃ n, vs.length = n := ⟨_, rfl⟩
   rw [hnv] at a1 b1 HE HL
   clear hr hnv HLN
   have ht : (tg.toList == tg.toList) = true := by simp
   go_wp2_with fail
   go_quiet ((go_at_call 26; exact Calls.quiet_of (HE.out _ (HVA.out.below (zbelow_dn (Below.refl _ _) _)) (HVB.out.below (zbelow_dn (Below.refl _ _) _)) HL.out)))
   have HQ2 := Lib.hid (show wr.drewN nq = w.drewN (q + nq) by rw [HQ.out]; exact World.drewN_drewN _ _ _)
   go_wp2
   go_roundw
   case rel => exact ⟨j + 1, by omega, by go_num, q + nq, HQ2.out⟩
   case measure => simp [intOf]; omega
  ·obtain rfl : j = n := by omega
   go_wp2
   go_ret
   exact ⟨rfl, q, HQ.out⟩
theorem same_c (L L' : Option Addr) (LC LC' : Nat) (rs : List RowP) (RA RA' : Nat -> Option Addr) (RC RC' : Nat -> Nat) (w : World) (h : RowsM w L rs RA RC) (h' : RowsM w L' rs RA' RC') :
  Calls Tryz.prog 9 #[.slice L rs.length LC, .slice L' rs.length LC'] w (RetB true w) :=
 (same_q L L' LC LC' rs RA RA' RC RC' w h h').mono fun _ _ ⟨he, q, hq⟩ => ⟨he, by subst hq; exact zbelow_dn (Below.refl _ _) _⟩
end Go.Proofs.YtbnjejenejoibaaGreatDoor
