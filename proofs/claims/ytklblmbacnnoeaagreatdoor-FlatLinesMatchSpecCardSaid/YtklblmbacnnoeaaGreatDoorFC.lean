/- The walk of the format reader's first. A kind, a column is put behind the others: the rows in memory. -/
import Derived.Test.YtklblmbacnnoeaaGreatDoorFA
-- merged: FB FC

namespace Go.Proofs.YtklblmbacnnoeaaGreatDoor
open Go.RowKit Limb Nmb Work
set_option linter.unusedVariables false
set_option linter.unusedSimpArgs false

def RetLn (o : Option FSt) (B r b S N : Nat) (w : World) (e : Ending) (w' : World) : Prop :=
  ∃ ok L' bad', e = .returned (.bool ok) ∧ Wds w' b L' bad' ∧ (∀ st', o = some st' → ok = true ∧ L' = [] ∧ bad' = false ∧ FR w' B r S N st') ∧ (o = none → ¬ (ok = true ∧ L' = [] ∧ bad' = false)) ∧ Below B w w' ∧ Ks w w'
theorem RetLn.no {o : Option FSt} {B r b S N : Nat} {w w' : World} {ok bad : Bool} {L : List ByteArray} (ho : o = none) (h : ¬ (ok = true ∧ L = [] ∧ bad = false)) (hw : Wds w' b L bad) (hb : Below B w w') (hk : Ks w w') : RetLn o B r b S N w (.returned (.bool ok)) w' :=
  ⟨ok, L, bad, rfl, hw, (fun st' e => by rw [ho] at e; cases e), fun _ => h, hb, hk⟩
theorem RetLn.yes {o : Option FSt} {B r b S N : Nat} {w w' : World} {st : FSt} (ho : o = some st) (hw : Wds w' b [] false) (hf : FR w' B r S N st) (hb : Below B w w') (hk : Ks w w') : RetLn o B r b S N w (.returned (.bool true)) w' :=
  ⟨true, [], false, rfl, hw, (fun st' e => by rw [ho] at e; injection e with e; subst e; exact ⟨rfl, rfl, rfl, hf⟩), (fun e => by rw [ho] at e; cases e), hb, hk⟩
theorem below_grown {B b : Nat} {w w' : World} (h : w.grownBy w' (some b)) (hb : B ≤ b) (hs : B ≤ w.heap.size) : Below B w w' :=
  ⟨h.os, h.tape, h.output, h.size, fun k hk => h.block k (by omega) (fun e => by injection e with e; omega)⟩
theorem Wds.lt {w : World} {b : Nat} {L : List ByteArray} {bad : Bool} (h : Wds w b L bad) : b < w.heap.size := by
  obtain ⟨cs, hh⟩ := h.block
  exact lt_heap hh
/-- A cell of a block of another type is written. -/
theorem Wds.set {w : World} {b r i : Nat} {L : List ByteArray} {bad : Bool} {cs : Array Value} {T : TypeId} {f : Nat × Nat} (h : Wds w b L bad) (hr : w.heap[r]? = some (.cells cs T f)) (hT : T ≠ 152) (hS : T ≠ 9) (u : Value) : Wds (w.setCell ⟨r, i, none⟩ u) b L bad := by
  obtain ⟨A, c, hh, h1, h2, hs⟩ := h
  exact ⟨A, c, heap_far hh (heap_ne hh hr (Ne.symm hT)) u, h1, h2, hs.far hr (Ne.symm hS) u⟩
theorem Wds.below {w w' : World} {b : Nat} {L : List ByteArray} {bad : Bool} (h : Wds w b L bad) (hb : Below w.heap.size w w') : Wds w' b L bad := by
  obtain ⟨A, c, hh, h1, h2, hs⟩ := h
  exact ⟨A, c, heap_below hh hb, h1, h2, hs.below hb⟩

theorem nOk_lt {L : List ByteArray} {i : Nat} (h : nOk (wd L i) = true) : i < L.length := by
  rcases Nat.lt_or_ge i L.length with h1 | h1
  · exact h1
  · have e : wd L i = eS := by unfold wd; rw [List.getD_eq_getElem?_getD, List.getElem?_eq_none h1]; rfl
    rw [e] at h
    exact absurd h (by decide)
theorem yOk_lt {L : List ByteArray} {i : Nat} (h : yOk (wd L i) = true) : i < L.length := by
  unfold yOk at h
  rw [Bool.and_eq_true] at h
  exact nOk_lt h.1
theorem FmtOk.mark {f : Fmt} {S N : Nat} (h : FmtOk f S N) {m q : Int} (hm : 0 ≤ m ∧ m ≤ 255) (hq : 0 ≤ q ∧ q ≤ 255) : FmtOk { f with mark := m, quote := q } S N := ⟨⟨⟨hm, hq⟩, h.1.2⟩, h.2⟩
set_option maxHeartbeats 1000000 in
set_option maxRecDepth 100000 in
theorem first_c (B r b S N : Nat) (st : FSt) (h : ByteArray) (L : List ByteArray) (w : World) (hS : S ≤ 9223372036854775807) (hz : ∀ s ∈ L, s.size ≤ S) (hB : B ≤ b) (hf : FR w B r S N st) (hw : Wds w b L false) :
    Calls Tryz.prog 121 #[.pointer (some ⟨r, 0, none⟩), .string h, .pointer (some ⟨b, 0, none⟩)] w (RetLn (frstF st h L) B r b S N w) := by
  obtain ⟨hBr, hok, A, c, FA, FC, hh, hK⟩ := hf
  have hBw : B ≤ w.heap.size := by have := lt_heap hh; omega
  obtain ⟨⟨m, q, ks, hd, tl, ct, sm⟩, bg, en⟩ := st
  unfold frC at hh
  simp only at hh hK hok
  have hh1 := heap_set hh 7 (.bool true)
  have hh1 : (w.setCell ⟨r, 7, none⟩ (.bool true)).heap[r]? = some (.cells #[.int .u8 m, .int .u8 q, .slice A ks.length c, .string hd, .string tl, .string ct, .string sm, .bool true, .bool en] 109 (0, 0)) := by simpa using hh1
  have hK1 := hK.set (i := 7) hh (.bool true)
  have hw1 := hw.set (i := 7) hh (by decide) (by decide) (.bool true)
  have hb1 : Below B w (w.setCell ⟨r, 7, none⟩ (.bool true)) := (Below.refl _ _).setCell (p := ⟨r, 7, none⟩) hBr _
  have hk1 : Ks w (w.setCell ⟨r, 7, none⟩ (.bool true)) := Ks.set (i := 7) hh (by decide) (.bool true)
  have hs1 : (w.setCell ⟨r, 7, none⟩ (.bool true)).heap.size = w.heap.size := by simp
  obtain ⟨⟨⟨g0, g1, g2, g3, g4, g5, g6, g7, g8⟩, z0, z1, z2, z3, z4, z5, z6, z7, z8⟩, hlt⟩ := obox9 hh
  have HH := Lib.hid hh1; have HK := Lib.hid hK1; have HW := Lib.hid hw1; have HKS := Lib.hid hk1; have HOK := Lib.hid hok
  clear hh hh1 hK hK1 hw hw1 hk1 hok
  by_cases h1 : h = wFixed
  · have e1 : (h.toList == [102, 105, 120, 101, 100]) = true := by rw [lit_dec]; exact decide_eq_true h1
    have HE := Lib.hid (show frstF ⟨⟨m, q, ks, hd, tl, ct, sm⟩, bg, en⟩ h L = if L.length = 0 then some ⟨⟨m, q, ks, hd, tl, ct, sm⟩, true, en⟩ else none by unfold frstF; rw [if_pos h1])
    clear h1
    go_enter Tryz.func121, Tryz.ntmps121
    go_wp2
    go_ret
    by_cases hl : L.length = 0
    · have hl' := List.length_eq_zero_iff.1 hl
      subst hl'
      exact RetLn.yes (st := ⟨⟨m, q, ks, hd, tl, ct, sm⟩, true, en⟩) (by rw [HE.out, if_pos List.length_nil]) HW.out ⟨hBr, HOK.out, A, c, FA, FC, HH.out, HK.out⟩ hb1 HKS.out
    · exact RetLn.no (L := L) (bad := false) (by rw [HE.out, if_neg hl]) (fun h => hl (by rw [h.2.1]; rfl)) HW.out hb1 HKS.out
  have e1 : (h.toList == [102, 105, 120, 101, 100]) = false := by rw [lit_dec]; exact decide_eq_false h1
  by_cases h2 : h = wMarked
  case neg =>
    have e2 : (h.toList == [109, 97, 114, 107, 101, 100]) = false := by rw [lit_dec]; exact decide_eq_false h2
    have HE := Lib.hid (show frstF ⟨⟨m, q, ks, hd, tl, ct, sm⟩, bg, en⟩ h L = none by unfold frstF; rw [if_neg h1, if_neg h2])
    clear h1 h2
    go_enter Tryz.func121, Tryz.ntmps121
    go_wp2
    go_ret
    exact RetLn.no (L := L) (bad := false) HE.out (fun h => by cases h.1) HW.out hb1 HKS.out
  have e2 : (h.toList == [109, 97, 114, 107, 101, 100]) = true := by rw [lit_dec]; exact decide_eq_true h2
  have HE := Lib.hid (show frstF ⟨⟨m, q, ks, hd, tl, ct, sm⟩, bg, en⟩ h L = if L.length = 2 ∧ yOk (wd L 0) = true ∧ yOk (wd L 1) = true ∧ nVal (wd L 0) ≠ 0 then some ⟨⟨nVal (wd L 0), nVal (wd L 1), ks, hd, tl, ct, sm⟩, true, en⟩ else none by unfold frstF; rw [if_neg h1, if_pos h2])
  have b0 := nVal_bd (wd L 0)
  have b1 := nVal_bd (wd L 1)
  clear h1 h2
  have HX := Lib.hid (wbyte_c b L false _ (fun s hs => Nat.le_trans (hz s hs) hS) HW.out)
  have HY := Lib.hid (fun bad w h => wbyte_c b L.tail bad w (fun s hs => Nat.le_trans (hz s (List.mem_of_mem_tail hs)) hS) h)
  rw [wd_tail] at HY
  obtain ⟨N0, hN0⟩ : ∃ x, nVal (wd L 0) = x := ⟨_, rfl⟩
  obtain ⟨N1, hN1⟩ : ∃ x, nVal (wd L 1) = x := ⟨_, rfl⟩
  obtain ⟨Y0, hY0⟩ : ∃ x, yOk (wd L 0) = x := ⟨_, rfl⟩
  obtain ⟨Y1, hY1⟩ : ∃ x, yOk (wd L 1) = x := ⟨_, rfl⟩
  rw [hN0, hY0] at HX
  rw [show (0 + 1 : Nat) = 1 from rfl, hN1, hY1] at HY
  rw [hN0, hN1, hY0, hY1] at HE
  rw [hN0] at b0
  rw [hN1] at b1
  have HY0 := Lib.hid (show Y0 = true → N0 ≤ 255 from fun h => by
    rw [← hY0] at h
    unfold yOk at h
    rw [hN0] at h
    simp only [Bool.and_eq_true, decide_eq_true_eq] at h
    exact h.2)
  have HY1 := Lib.hid (show Y1 = true → N1 ≤ 255 from fun h => by
    rw [← hY1] at h
    unfold yOk at h
    rw [hN1] at h
    simp only [Bool.and_eq_true, decide_eq_true_eq] at h
    exact h.2)
  have HL := Lib.hid (show Y0 = true → Y1 = true → 1 < L.length from fun h1 h2 => yOk_lt (by rw [hY1]; exact h2))
  clear hN0 hN1 hY0 hY1
  go_enter Tryz.func121, Tryz.ntmps121
  go_wp2_with fail
  refine HX.out.mono ?_
  rintro e w2 ⟨rfl, hw2, hg2⟩
  obtain ⟨cs1, hbl1⟩ := HW.out.block
  have hk2 := Kw.grown hg2 hbl1
  have hb2 := hb1.trans (below_grown hg2 hB (by rw [hs1]; exact hBw))
  have hl2 := hg2.size
  rw [hs1] at hl2
  go_wp2_with fail
  refine (HY.out _ _ hw2).mono ?_
  rintro e w3 ⟨rfl, hw3, hg3⟩
  obtain ⟨cs2, hbl2⟩ := hw2.block
  have hk3 := Kw.trans hk2 (Kw.grown hg3 hbl2)
  have hb3 := hb2.trans (below_grown hg3 hB (by omega))
  have hh3 := hk3.2 _ _ _ _ HH.out (by decide)
  have hK3 := HK.out.keep (fun g cs hh => hk3.2 _ _ _ _ hh (by decide)) (fun g cs hh => hk3.2 _ _ _ _ hh (by decide))
  have HH3 := Lib.hid hh3; have HK3 := Lib.hid hK3; have HW3 := Lib.hid hw3; have HKS3 := Lib.hid (Ks.trans HKS.out (Ks.of hk3)); have HB3 := Lib.hid hb3
  clear g0 g1 g2 g3 g4 g5 g6 g7 g8 z0 z1 z2 z3 z4 z5 z6 z7 z8 hlt hk2 hk3 hh3 hK3 hw3 hb3 hb2 hg3 hg2 hl2 hbl1 hbl2 hw2
  obtain ⟨⟨⟨g0, g1, g2, g3, g4, g5, g6, g7, g8⟩, z0, z1, z2, z3, z4, z5, z6, z7, z8⟩, hlt⟩ := obox9 HH3.out
  go_wp2_with fail
  go_ret
  have e5 := heap_set HH3.out 0 (.int .u8 (N0 % 256))
  have e6 := heap_set e5 1 (.int .u8 (N1 % 256))
  have e6 : ((w3.setCell ⟨r, 0, none⟩ (.int .u8 (N0 % 256))).setCell ⟨r, 1, none⟩ (.int .u8 (N1 % 256))).heap[r]? = some (.cells #[.int .u8 (N0 % 256), .int .u8 (N1 % 256), .slice A ks.length c, .string hd, .string tl, .string ct, .string sm, .bool true, .bool en] 109 (0, 0)) := by simpa using e6
  have eW := (HW3.out.set (i := 0) HH3.out (by decide) (by decide) (.int .u8 (N0 % 256))).set (i := 1) e5 (by decide) (by decide) (.int .u8 (N1 % 256))
  have eK := (HK3.out.set (i := 0) HH3.out (.int .u8 (N0 % 256))).set (i := 1) e5 (.int .u8 (N1 % 256))
  have eB : Below B w ((w3.setCell ⟨r, 0, none⟩ (.int .u8 (N0 % 256))).setCell ⟨r, 1, none⟩ (.int .u8 (N1 % 256))) := (HB3.out.setCell (p := ⟨r, 0, none⟩) hBr _).setCell (p := ⟨r, 1, none⟩) hBr _
  have eS := HKS3.out.trans ((Ks.set (i := 0) HH3.out (by decide) (.int .u8 (N0 % 256))).trans (Ks.set (i := 1) e5 (by decide) (.int .u8 (N1 % 256))))
  by_cases hc : L.length = 2 ∧ Y0 = true ∧ Y1 = true ∧ N0 ≠ 0
  · obtain ⟨c1, c2, c3, c4⟩ := hc
    have l0 := HY0.out c2
    have l1 := HY1.out c3
    have hm0 : N0 % 256 = N0 := by omega
    have hm1 : N1 % 256 = N1 := by omega
    rw [hm0, hm1] at e6 eW eK eB eS ⊢
    have ht : L.tail.tail = [] := by
      match L, c1 with
      | [a, b], _ => rfl
    have hbf : (false || !Y0 || !Y1) = false := by rw [c2, c3]; rfl
    rw [ht, hbf] at eW
    have hbt : (N0 != 0) = true := by simpa using c4
    show RetLn _ B r b S N w (.returned (.bool (N0 != 0))) _
    rw [hbt]
    exact RetLn.yes (st := ⟨⟨N0, N1, ks, hd, tl, ct, sm⟩, true, en⟩) (by rw [HE.out, if_pos ⟨c1, c2, c3, c4⟩]) eW ⟨hBr, HOK.out.mark (by omega) (by omega), A, c, FA, FC, e6, eK⟩ eB eS
  · refine RetLn.no (L := L.tail.tail) (bad := (false || !Y0 || !Y1)) (by rw [HE.out, if_neg hc]) (fun h => hc ?_) eW eB eS
    obtain ⟨k1, k2, k3⟩ := h
    have y0 : Y0 = true := by cases Y0 with | true => rfl | false => simp at k3
    have y1 : Y1 = true := by cases Y1 with | true => rfl | false => simp at k3
    have hlen := HL.out y0 y1
    have hL2 : L.length = 2 := by
      match L, hlen, k2 with
      | [a, b], _, _ => rfl
      | a :: b :: d :: L, _, k => simp at k
    have k1' : (N0 % 256 != 0) = true := k1
    have l0 := HY0.out y0
    have hm0 : N0 % 256 = N0 := by omega
    rw [hm0] at k1'
    exact ⟨hL2, y0, y1, by simpa using k1'⟩
end Go.Proofs.YtklblmbacnnoeaaGreatDoor

namespace Go.Proofs.YtklblmbacnnoeaaGreatDoor
open Go.RowKit Limb Nmb Work
set_option linter.unusedVariables false
set_option linter.unusedSimpArgs false

theorem own_setAt {w : World} {base : Nat} {e : TypeId} {size n cap g i : Nat} {xs : List Value} (h : w.ownsRow base e size (.slice (some ⟨g, 0, none⟩) n cap) n xs) (hi : i < n * size) (u : Value) : (w.setCell ⟨g, i, none⟩ u).ownsRow base e size (.slice (some ⟨g, 0, none⟩) n cap) n (xs.set i u) := by
  obtain ⟨h1, h2⟩ := h
  rcases h2 with ⟨hv, hn⟩ | ⟨g', cap', cur, hv, hb, hh, h3, h4, h5, h6⟩
  · cases hv
  · cases hv
    refine ⟨by rw [List.length_set, h1], .inr ⟨g, cap, cur.setIfInBounds i u, rfl, hb, heap_set hh i u, h3, h4, by rw [Array.size_setIfInBounds, h5], ?_⟩⟩
    rw [Array.toList_setIfInBounds, List.take_set, h6]
theorem own_rowF {w : World} {base : Nat} {e : TypeId} {size n : Nat} {A : Option Addr} {c : Nat} {xs : List Value} (h : w.ownsRow base e size (.slice A n c) n xs) (hn : 0 < n) : ∃ g, A = some ⟨g, 0, none⟩ ∧ base ≤ g ∧ g < w.heap.size ∧ ∀ j, j < n * size → w.cell? ⟨g, j, none⟩ = xs[j]? := by
  obtain ⟨h1, h2⟩ := h
  rcases h2 with ⟨h2, h3⟩ | ⟨g, cap, cur, hv, hb, hh, hn2, _, hs, ht⟩
  · omega
  · cases hv
    refine ⟨g, rfl, hb, lt_heap hh, fun j hj => ?_⟩
    rw [cell_of_row _ _ _ _ _ _ hh, ← ht, List.getElem?_take, if_pos hj]
    simp
theorem kA_snoc {ks : List RKd} {k : RKd} {j : Nat} : kA (ks ++ [k]) j = if j = ks.length then k else kA ks j := by
  unfold kA
  rw [List.getD_eq_getElem?_getD, List.getD_eq_getElem?_getD]
  rcases Nat.lt_trichotomy j ks.length with h | h | h
  · rw [if_neg (by omega), List.getElem?_append_left h]
  · subst h; simp
  · rw [if_neg (by omega), List.getElem?_append_right (by omega), List.getElem?_eq_none (by simp; omega), List.getElem?_eq_none (by omega)]
theorem cA_snoc {ks : List Col} {k : Col} {j : Nat} : cA (ks ++ [k]) j = if j = ks.length then k else cA ks j := by
  unfold cA
  rw [List.getD_eq_getElem?_getD, List.getD_eq_getElem?_getD]
  rcases Nat.lt_trichotomy j ks.length with h | h | h
  · rw [if_neg (by omega), List.getElem?_append_left h]
  · subst h; simp
  · rw [if_neg (by omega), List.getElem?_append_right (by omega), List.getElem?_eq_none (by simp; omega), List.getElem?_eq_none (by omega)]
def kndL (k : RKd) (A : Option Addr) (C : Nat) : List Value := [.string k.tag, .slice A k.fields.length C, .int .i64 k.most, .string k.under]
def colL (c : Col) : List Value := [.string c.name, .int .i64 c.kind, .int .i64 c.width, .int .i64 c.places, .int .i64 c.form, .bool c.right, .int .u8 c.fill, .bool c.need]
theorem kndL_rows {ks : List RKd} {k : RKd} {FA : Nat → Option Addr} {FC : Nat → Nat} {A : Option Addr} {C : Nat} : rowsC 4 ks.length (kindV ks FA FC) ++ kndL k A C = rowsC 4 (ks.length + 1) (kindV (ks ++ [k]) (kndA FA ks.length A) (kndN FC ks.length C)) := by
  rw [rowsC_succ]
  congr 1
  · refine rowsC_congr fun j hj i hi => ?_
    unfold kindV kndA kndN
    rw [kA_snoc, if_neg (by omega), if_neg (by omega), if_neg (by omega)]
  · simp only [kindV, kndA, kndN, kA_snoc, if_pos, List.range_succ, List.range_zero, List.nil_append, List.map_cons, List.map_nil, List.cons_append]
    rfl
theorem colL_rows {cs : List Col} {c : Col} : rowsC 8 cs.length (colV cs) ++ colL c = rowsC 8 (cs.length + 1) (colV (cs ++ [c])) := by
  rw [rowsC_succ]
  congr 1
  · refine rowsC_congr fun j hj i hi => ?_
    unfold colV
    rw [cA_snoc, if_neg (by omega)]
  · simp only [colV, cA_snoc, if_pos, List.range_succ, List.range_zero, List.nil_append, List.map_cons, List.map_nil, List.cons_append]
    rfl
/-- Blocks of another type than the grown row's stay. -/
theorem grown_type {w w' : World} {base : Nat} {e : TypeId} {size n : Nat} {v : Value} {xs : List Value} (h : w.ownsRow base e size v n xs) (hg : w.grownBy w' v.ownBlock) {g : Nat} {cs : Array Value} {T : TypeId} {f : Nat × Nat} (hh : w.heap[g]? = some (.cells cs T f)) (hT : T ≠ e) : w'.heap[g]? = some (.cells cs T f) := by
  refine (hg.block g (lt_heap hh) fun k => ?_).trans hh
  rcases h.2 with ⟨hv, -⟩ | ⟨g', cap, cur, hv, _, h2, _⟩
  · rw [hv] at k; cases k
  · rw [hv] at k
    injection k with k
    subst k
    rw [h2] at hh
    injection hh with hh
    injection hh with _ hh
    exact hT hh.symm
theorem KOwn.push {w w' : World} {B : Nat} {A A' : Option Addr} {c c' : Nat} {ks : List RKd} {k : RKd} {FA : Nat → Option Addr} {FC : Nat → Nat} (h : KOwn w B A c ks FA FC) (hk : k.fields = [])
    (ho : w'.ownsRow B 67 4 (.slice A' (ks.length + 1) c') (ks.length + 1) (rowsC 4 ks.length (kindV ks FA FC) ++ kndL k none 0)) (hg : w.grownBy w' (Value.slice A ks.length c).ownBlock) :
    KOwn w' B A' c' (ks ++ [k]) (kndA FA ks.length none) (kndN FC ks.length 0) := by
  have hl : (ks ++ [k]).length = ks.length + 1 := by simp
  refine ⟨?_, fun j hj => ?_, fun j hj a a' h1 h2 => ?_⟩
  · rw [hl, ← kndL_rows]
    exact ho
  · rw [hl] at hj
    rw [kA_snoc]
    unfold kndA kndN
    by_cases hj2 : j = ks.length
    · rw [if_pos hj2, if_pos hj2, if_pos hj2, hk]
      exact World.ownsRow_nil _ _ _ _
    · rw [if_neg hj2, if_neg hj2, if_neg hj2]
      exact own_keepT (h.cols j (by omega)) (fun g cs hh => grown_type h.kinds hg hh (by decide))
  · rw [hl] at h2
    unfold kndA at h2
    rw [Nat.add_sub_cancel, if_pos rfl] at h2
    cases h2
theorem addCol_kA {ks : List RKd} {c : Col} {j : Nat} (hj : j < ks.length) : kA (addCol ks c) j = if j = ks.length - 1 then { kA ks j with fields := (kA ks j).fields ++ [c] } else kA ks j := by
  by_cases h : j = ks.length - 1
  · rw [if_pos h]
    subst h
    exact addCol_last (by intro e; rw [e] at hj; simp at hj)
  · rw [if_neg h]
    exact addCol_at (by omega)
theorem own_ne_block {w w' : World} {base : Nat} {e : TypeId} {size n c : Nat} {A : Option Addr} {xs : List Value} (h : w.ownsRow base e size (.slice A n c) n xs) {row : Option Nat} (hg : w.grownBy w' row) (hne : ∀ a, A = some a → some a.block ≠ row) : w'.ownsRow base e size (.slice A n c) n xs := by
  refine h.kept hg ?_
  cases A with
  | none => exact .inl rfl
  | some a => exact .inr (hne a rfl)
theorem KOwn.col {w w' : World} {B H g gk : Nat} {c c' : Nat} {ks : List RKd} {x : Col} {FA : Nat → Option Addr} {FC : Nat → Nat} (h : KOwn w B (some ⟨gk, 0, none⟩) c ks FA FC) (h0 : 0 < ks.length)
    (ho : w'.ownsRow B 60 8 (.slice (some ⟨g, 0, none⟩) ((kA ks (ks.length - 1)).fields.length + 1) c') ((kA ks (ks.length - 1)).fields.length + 1) (rowsC 8 (kA ks (ks.length - 1)).fields.length (colV (kA ks (ks.length - 1)).fields) ++ colL x))
    (hg : w.grownBy w' (Value.slice (FA (ks.length - 1)) (kA ks (ks.length - 1)).fields.length (FC (ks.length - 1))).ownBlock)
    (hgg : (Value.slice (FA (ks.length - 1)) (kA ks (ks.length - 1)).fields.length (FC (ks.length - 1))).ownBlock = some g ∨ g = H) (hH : w.heap.size ≤ H) :
    KOwn (w'.setCell ⟨gk, (ks.length - 1) * 4 + 1, none⟩ (.slice (some ⟨g, 0, none⟩) ((kA ks (ks.length - 1)).fields.length + 1) c')) B (some ⟨gk, 0, none⟩) c (addCol ks x) (kndA FA (ks.length - 1) (some ⟨g, 0, none⟩)) (kndN FC (ks.length - 1) c') := by
  have hk' := own_keepT h.kinds (fun gg cs hh => grown_type (h.cols (ks.length - 1) (by omega)) hg hh (by decide))
  have hkb : ∃ cs, w'.heap[gk]? = some (.cells cs 67 (0, 0)) := by
    rcases hk'.2 with ⟨hv, _⟩ | ⟨g', cap', cur, hv, _, hh, _⟩
    · cases hv
    · cases hv; exact ⟨cur, hh⟩
  obtain ⟨ck, hkb⟩ := hkb
  refine ⟨?_, fun j hj => ?_, fun j hj a a' h1 h2 => ?_⟩
  · rw [addCol_len]
    have h4 := own_setAt hk' (i := (ks.length - 1) * 4 + 1) (by omega) (.slice (some ⟨g, 0, none⟩) ((kA ks (ks.length - 1)).fields.length + 1) c')
    rw [rowsC_set _ (by omega) (by decide)] at h4
    have e : rowsC 4 ks.length (kindV (addCol ks x) (kndA FA (ks.length - 1) (some ⟨g, 0, none⟩)) (kndN FC (ks.length - 1) c')) = rowsC 4 ks.length (fun a b => if a = ks.length - 1 ∧ b = 1 then .slice (some ⟨g, 0, none⟩) ((kA ks (ks.length - 1)).fields.length + 1) c' else kindV ks FA FC a b) := by
      refine rowsC_congr fun j hj i hi => ?_
      unfold kindV kndA kndN
      rw [addCol_kA hj]
      by_cases hjl : j = ks.length - 1
      · rw [if_pos hjl, if_pos hjl, if_pos hjl]
        match i, hi with
        | 0, _ => rw [if_neg (by omega)]; rfl
        | 1, _ => rw [if_pos ⟨hjl, rfl⟩, hjl]; simp
        | 2, _ => rw [if_neg (by omega)]; rfl
        | 3, _ => rw [if_neg (by omega)]; rfl
      · rw [if_neg hjl, if_neg hjl, if_neg hjl, if_neg (fun k => hjl k.1)]
    rw [e]
    exact h4
  · rw [addCol_len] at hj
    have hkeep : ∀ {v : Value} {n : Nat} {xs : List Value}, w'.ownsRow B 60 8 v n xs → (w'.setCell ⟨gk, (ks.length - 1) * 4 + 1, none⟩ (.slice (some ⟨g, 0, none⟩) ((kA ks (ks.length - 1)).fields.length + 1) c')).ownsRow B 60 8 v n xs := fun h => own_keepT h (fun gg cs hh => heap_far hh (heap_ne hh hkb (by decide)) _)
    rw [addCol_kA hj]
    unfold kndA kndN
    by_cases hjl : j = ks.length - 1
    · rw [if_pos hjl, if_pos hjl, if_pos hjl]
      subst hjl
      rw [show ({ kA ks (ks.length - 1) with fields := (kA ks (ks.length - 1)).fields ++ [x] } : RKd).fields = (kA ks (ks.length - 1)).fields ++ [x] from rfl, List.length_append, List.length_singleton, ← colL_rows]
      exact hkeep ho
    · rw [if_neg hjl, if_neg hjl, if_neg hjl]
      refine hkeep (own_ne_block (h.cols j hj) hg (fun a ha hb => ?_))
      cases hl : FA (ks.length - 1) with
      | none => rw [hl] at hb; cases hb
      | some a' =>
        rw [hl] at hb
        injection hb with hb
        exact h.apart j (by omega) a a' ha hl hb
  · rw [addCol_len] at hj h2
    unfold kndA at h1 h2
    rw [if_neg (by omega)] at h1
    rw [if_pos rfl] at h2
    injection h2 with h2
    subst h2
    rcases hgg with hgg | hgg
    · cases hl : FA (ks.length - 1) with
      | none => rw [hl] at hgg; cases hgg
      | some a' =>
        rw [hl] at hgg
        injection hgg with hgg
        have := h.apart j (by omega) a a' h1 hl
        rw [← hgg]
        exact this
    · have h3 := (h.cols j (by omega)).lt a.block (by rw [h1]; rfl)
      show a.block ≠ g
      omega
theorem grown_drewF {w w' : World} {r : Option Nat} (h : w.drew.grownBy w' r) : w.grownBy w' r := ⟨h.os, h.tape, h.output, h.size, h.block⟩
theorem k_cellsF (w : World) (us : List Value) (t : TypeId) : ∀ j x, us[j]? = some x → (w.alloc (.cells us.toArray t)).cell? ((⟨w.heap.size, 0, none⟩ : Addr).add j) = some x := by
  intro j x hj
  rw [Addr.add_lit, cell_of_row _ _ _ _ _ _ (heap_alloc_new w _)]
  simpa using hj
theorem FmtOk.col {f : Fmt} {S N : Nat} {x : Col} (h : FmtOk f S N) (hx : x.name.size ≤ S) : FmtOk { f with kinds := addCol f.kinds x } S (N + 1) := by
  refine ⟨⟨h.1.1, ?_⟩, fun k hk => ?_⟩
  · show (addCol f.kinds x).length ≤ N + 1
    rw [addCol_len]
    have := h.1.2
    omega
  · obtain ⟨j, hj, rfl⟩ := List.getElem_of_mem hk
    have hj' : j < f.kinds.length := by have h2 := hj; simp only [addCol_len] at h2; exact h2
    rw [kA_get hj]
    show (_ ∧ _) ∧ _
    rw [show kA ({ f with kinds := addCol f.kinds x } : Fmt).kinds j = kA (addCol f.kinds x) j from rfl, addCol_kA hj']
    have h1 := h.2 (kA f.kinds j) (by rw [← kA_get hj']; exact List.getElem_mem _)
    split
    · refine ⟨⟨h1.1.1, ?_⟩, fun c hc => ?_⟩
      · show ((kA f.kinds j).fields ++ [x]).length ≤ N + 1
        have := h1.1.2
        simp; omega
      · have hc' : c ∈ (kA f.kinds j).fields ++ [x] := hc
        rcases List.mem_append.1 hc' with h3 | h3
        · exact h1.2 c h3
        · obtain rfl := List.mem_singleton.1 h3
          exact hx
    · exact ⟨⟨h1.1.1, by have := h1.1.2; omega⟩, h1.2⟩
theorem FmtOk.push {f : Fmt} {S N : Nat} {x : RKd} (h : FmtOk f S N) (hx : x.tag.size ≤ S ∧ x.under.size ≤ S) (h0 : x.fields = []) : FmtOk { f with kinds := f.kinds ++ [x] } S (N + 1) := by
  refine ⟨⟨h.1.1, ?_⟩, fun k hk => ?_⟩
  · show (f.kinds ++ [x]).length ≤ N + 1
    have := h.1.2
    simp; omega
  · have hk' : k ∈ f.kinds ++ [x] := hk
    rcases List.mem_append.1 hk' with h3 | h3
    · have h1 := h.2 k h3
      exact ⟨⟨h1.1.1, by have := h1.1.2; omega⟩, h1.2⟩
    · obtain rfl := List.mem_singleton.1 h3
      exact ⟨⟨hx, by rw [h0]; simp⟩, fun c hc => by rw [h0] at hc; cases hc⟩
end Go.Proofs.YtklblmbacnnoeaaGreatDoor
