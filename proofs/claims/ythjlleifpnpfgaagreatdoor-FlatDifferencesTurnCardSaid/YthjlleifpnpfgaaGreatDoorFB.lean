
/- The walk of the format reader's first. -/
import Derived.Test.YthjlleifpnpfgaaGreatDoorFA
namespace Go.Proofs.YthjlleifpnpfgaaGreatDoor
open Go.RowKit Limb Nmb Work
set_option linter.unusedVariables false
set_option linter.unusedSimpArgs false
def RetLn (o : Option FSt) (B r b S N : Nat) (w : World) (e : Ending) (w' : World) : Prop :=
 ∃ ok L' bad', e = .returned (.bool ok) /\ Wds w' b L' bad' /\ (∀ st', o = some st' -> ok = true /\ L' = [] /\ bad' = false /\ FR w' B r S N st') /\ (o = none -> ¬ (ok = true /\ L' = [] /\ bad' = false)) /\ Below B w w' /\ Ks w w'
theorem RetLn.no {o : Option FSt} {B r b S N : Nat} {w w' : World} {ok bad : Bool} {L : List ByteArray} (ho : o = none) (h : ¬ (ok = true /\ L = [] /\ bad = false)) (hw : Wds w' b L bad) (hb : Below B w w') (hk : Ks w w') : RetLn o B r b S N w (.returned (.bool ok)) w' :=
 ⟨ok, L, bad, rfl, hw, (fun st' e => by rw [ho] at e; cases e), fun _ => h, hb, hk⟩
theorem RetLn.yes {o : Option FSt} {B r b S N : Nat} {w w' : World} {st : FSt} (ho : o = some st) (hw : Wds w' b [] false) (hf : FR w' B r S N st) (hb : Below B w w') (hk : Ks w w') : RetLn o B r b S N w (.returned (.bool true)) w' :=
 ⟨true, [], false, rfl, hw, (fun st' e => by rw [ho] at e; injection e with e; subst e; exact ⟨rfl, rfl, rfl, hf⟩), (fun e => by rw [ho] at e; cases e), hb, hk⟩
theorem below_grown {B b : Nat} {w w' : World} (h : w.grownBy w' (some b)) (hb : B <= b) (hs : B <= w.heap.size) : Below B w w' :=
 ⟨h.os, h.tape, h.output, h.size, fun k hk => h.block k (by omega) (fun e => by injection e with e; omega)⟩
theorem Wds.lt {w : World} {b : Nat} {L : List ByteArray} {bad : Bool} (h : Wds w b L bad) : b < w.heap.size := by
 obtain ⟨cs, hh⟩ := h.block
 exact lt_heap hh
theorem Wds.set {w : World} {b r i : Nat} {L : List ByteArray} {bad : Bool} {cs : Array Value} {T : TypeId} {f : Nat × Nat} (h : Wds w b L bad) (hr : w.heap[r]? = some (.cells cs T f)) (hT : T ≠ 146) (hS : T ≠ 9) (u : Value) : Wds (w.setCell ⟨r, i, none⟩ u) b L bad := by
 obtain ⟨A, c, hh, h1, h2, hs⟩ := h
 exact ⟨A, c, heap_far hh (heap_ne hh hr (Ne.symm hT)) u, h1, h2, hs.far hr (Ne.symm hS) u⟩
theorem Wds.below {w w' : World} {b : Nat} {L : List ByteArray} {bad : Bool} (h : Wds w b L bad) (hb : Below w.heap.size w w') : Wds w' b L bad := by
 obtain ⟨A, c, hh, h1, h2, hs⟩ := h
 exact ⟨A, c, heap_below hh hb, h1, h2, hs.below hb⟩
theorem nOk_lt {L : List ByteArray} {i : Nat} (h : nOk (wd L i) = true) : i < L.length := by
 rcases Nat.lt_or_ge i L.length with h1 | h1
 ·exact h1
 ·have e : wd L i = eS := by unfold wd; rw [List.getD_eq_getElem?_getD, List.getElem?_eq_none h1]; rfl
  rw [e] at h
  exact absurd h (by decide)
theorem yOk_lt {L : List ByteArray} {i : Nat} (h : yOk (wd L i) = true) : i < L.length := by
 unfold yOk at h
 rw [Bool.and_eq_true] at h
 exact nOk_lt h.1
theorem FmtOk.mark {f : Fmt} {S N : Nat} (h : FmtOk f S N) {m q : Int} (hm : 0 <= m /\ m <= 255) (hq : 0 <= q /\ q <= 255) : FmtOk { f with mark := m, quote := q } S N := ⟨⟨⟨hm, hq⟩, h.1.2⟩, h.2⟩
set_option maxHeartbeats 1000000 in
set_option maxRecDepth 100000 in
theorem first_c (B r b S N : Nat) (st : FSt) (h : ByteArray) (L : List ByteArray) (w : World) (hS : S <= 9223372036854775807) (hz : ∀ s ∈ L, s.size <= S) (hB : B <= b) (hf : FR w B r S N st) (hw : Wds w b L false) :
  Calls Tryz.prog 96 #[.pointer (some ⟨r, 0, none⟩), .string h, .pointer (some ⟨b, 0, none⟩)] w (RetLn (frstF st h L) B r b S N w) := by
 obtain ⟨hBr, hok, A, c, FA, FC, hh, hK⟩ := hf
 have hBw : B <= w.heap.size := by have := lt_heap hh; omega
 obtain ⟨⟨m, q, ks, hd, tl, ct, sm⟩, bg, en⟩ := st
 unfold frC at hh
 simp only at hh hK hok
 have hh1 := heap_set hh 7 (.bool true)
 have hh1 : (w.setCell ⟨r, 7, none⟩ (.bool true)).heap[r]? = some (.cells #[.int .u8 m, .int .u8 q, .slice A ks.length c, .string hd, .string tl, .string ct, .string sm, .bool true, .bool en] 113 (0, 0)) := by simpa using hh1
 have hK1 := hK.set (i := 7) hh (.bool true)
 have hw1 := hw.set (i := 7) hh (by decide) (by decide) (.bool true)
 have hb1 : Below B w (w.setCell ⟨r, 7, none⟩ (.bool true)) := (Below.refl _ _).setCell (p := ⟨r, 7, none⟩) hBr _
 have hk1 : Ks w (w.setCell ⟨r, 7, none⟩ (.bool true)) := Ks.set (i := 7) hh (by decide) (.bool true)
 have hs1 : (w.setCell ⟨r, 7, none⟩ (.bool true)).heap.size = w.heap.size := by simp
 obtain ⟨⟨⟨g0, g1, g2, g3, g4, g5, g6, g7, g8⟩, z0, z1, z2, z3, z4, z5, z6, z7, z8⟩, hlt⟩ := obox9 hh
 have HH := Lib.hid hh1; have HK := Lib.hid hK1; have HW := Lib.hid hw1; have HKS := Lib.hid hk1; have HOK := Lib.hid hok
 clear hh hh1 hK hK1 hw hw1 hk1 hok
 by_cases h1 : h = wFixed
 ·have e1 : (h.toList == [102, 105, 120, 101, 100]) = true := by rw [lit_dec]; exact decide_eq_true h1
  have HE := Lib.hid (show frstF ⟨⟨m, q, ks, hd, tl, ct, sm⟩, bg, en⟩ h L = if L.length = 0 then some ⟨⟨m, q, ks, hd, tl, ct, sm⟩, true, en⟩ else none by unfold frstF; rw [if_pos h1])
  clear h1
  go_enter Tryz.func96, Tryz.ntmps96
  go_wp2
  go_ret
  by_cases hl : L.length = 0
  ·have hl' := List.length_eq_zero_iff.1 hl
   subst hl'
   exact RetLn.yes (st := ⟨⟨m, q, ks, hd, tl, ct, sm⟩, true, en⟩) (by rw [HE.out, if_pos List.length_nil]) HW.out ⟨hBr, HOK.out, A, c, FA, FC, HH.out, HK.out⟩ hb1 HKS.out
  ·exact RetLn.no (L := L) (bad := false) (by rw [HE.out, if_neg hl]) (fun h => hl (by rw [h.2.1]; rfl)) HW.out hb1 HKS.out
 have e1 : (h.toList == [102, 105, 120, 101, 100]) = false := by rw [lit_dec]; exact decide_eq_false h1
 by_cases h2 : h = wMarked
 case neg =>
  have e2 : (h.toList == [109, 97, 114, 107, 101, 100]) = false := by rw [lit_dec]; exact decide_eq_false h2
  have HE := Lib.hid (show frstF ⟨⟨m, q, ks, hd, tl, ct, sm⟩, bg, en⟩ h L = none by unfold frstF; rw [if_neg h1, if_neg h2])
  clear h1 h2
  go_enter Tryz.func96, Tryz.ntmps96
  go_wp2
  go_ret
  exact RetLn.no (L := L) (bad := false) HE.out (fun h => by cases h.1) HW.out hb1 HKS.out
 have e2 : (h.toList == [109, 97, 114, 107, 101, 100]) = true := by rw [lit_dec]; exact decide_eq_true h2
 have HE := Lib.hid (show frstF ⟨⟨m, q, ks, hd, tl, ct, sm⟩, bg, en⟩ h L = if L.length = 2 /\ yOk (wd L 0) = true /\ yOk (wd L 1) = true /\ nVal (wd L 0) ≠ 0 then some ⟨⟨nVal (wd L 0), nVal (wd L 1), ks, hd, tl, ct, sm⟩, true, en⟩ else none by unfold frstF; rw [if_neg h1, if_pos h2])
 have b0 := nVal_bd (wd L 0)
 have b1 := nVal_bd (wd L 1)
 clear h1 h2
 have HX := Lib.hid (wbyte_c b L false _ (fun s hs => Nat.le_trans (hz s hs) hS) HW.out)
 have HY := Lib.hid (fun bad w h => wbyte_c b L.tail bad w (fun s hs => Nat.le_trans (hz s (List.mem_of_mem_tail hs)) hS) h)
 rw [wd_tail] at HY
 obtain ⟨N0, hN0⟩ : ∃ x, nVal (wd L 0) = x := ⟨_, rfl⟩
 obtain ⟨N1, hN1⟩ : ∃ x, nVal (wd L 1) = x := ⟨_, rfl⟩
 obtain ⟨Y0, hY0⟩ : ∃ x, yOk (wd L 0) = x := ⟨_, rfl⟩
 obtain ⟨Y1, hY1⟩ : ∃ x, yOk (wd L 1) = x := ⟨_, rfl⟩
 rw [hN0, hY0] at HX
 rw [show (0 + 1 : Nat) = 1 from rfl, hN1, hY1] at HY
 rw [hN0, hN1, hY0, hY1] at HE
 rw [hN0] at b0
 rw [hN1] at b1
 have HY0 := Lib.hid (show Y0 = true -> N0 <= 255 from fun h => by
  rw [<- hY0] at h
  unfold yOk at h
  rw [hN0] at h
  simp only [Bool.and_eq_true, decide_eq_true_eq] at h
  exact h.2)
 have HY1 := Lib.hid (show Y1 = true -> N1 <= 255 from fun h => by
  rw [<- hY1] at h
  unfold yOk at h
  rw [hN1] at h
  simp only [Bool.and_eq_true, decide_eq_true_eq] at h
  exact h.2)
 have HL := Lib.hid (show Y0 = true -> Y1 = true -> 1 < L.length from fun h1 h2 => yOk_lt (by rw [hY1]; exact h2))
 clear hN0 hN1 hY0 hY1
 go_enter Tryz.func96, Tryz.ntmps96
 go_wp2_with fail
 refine HX.out.mono ?_
 rintro e w2 ⟨rfl, hw2, hg2⟩
 obtain ⟨cs1, hbl1⟩ := HW.out.block
 have hk2 := Kw.grown hg2 hbl1
 have hb2 := hb1.trans (below_grown hg2 hB (by rw [hs1]; exact hBw))
 have hl2 := hg2.size
 rw [hs1] at hl2
 go_wp2_with fail
 refine (HY.out _ _ hw2).mono ?_
 rintro e w3 ⟨rfl, hw3, hg3⟩
 obtain ⟨cs2, hbl2⟩ := hw2.block
 have hk3 := Kw.trans hk2 (Kw.grown hg3 hbl2)
 have hb3 := hb2.trans (below_grown hg3 hB (by omega))
 have hh3 := hk3.2 _ _ _ _ HH.out (by decide)
 have hK3 := HK.out.keep (fun g cs hh => hk3.2 _ _ _ _ hh (by decide)) (fun g cs hh => hk3.2 _ _ _ _ hh (by decide))
 have HH3 := Lib.hid hh3; have HK3 := Lib.hid hK3; have HW3 := Lib.hid hw3; have HKS3 := Lib.hid (Ks.trans HKS.out (Ks.of hk3)); have HB3 := Lib.hid hb3
 clear g0 g1 g2 g3 g4 g5 g6 g7 g8 z0 z1 z2 z3 z4 z5 z6 z7 z8 hlt hk2 hk3 hh3 hK3 hw3 hb3 hb2 hg3 hg2 hl2 hbl1 hbl2 hw2
 obtain ⟨⟨⟨g0, g1, g2, g3, g4, g5, g6, g7, g8⟩, z0, z1, z2, z3, z4, z5, z6, z7, z8⟩, hlt⟩ := obox9 HH3.out
 go_wp2_with fail
 go_ret
 have e5 := heap_set HH3.out 0 (.int .u8 (N0 % 256))
 have e6 := heap_set e5 1 (.int .u8 (N1 % 256))
 have e6 : ((w3.setCell ⟨r, 0, none⟩ (.int .u8 (N0 % 256))).setCell ⟨r, 1, none⟩ (.int .u8 (N1 % 256))).heap[r]? = some (.cells #[.int .u8 (N0 % 256), .int .u8 (N1 % 256), .slice A ks.length c, .string hd, .string tl, .string ct, .string sm, .bool true, .bool en] 113 (0, 0)) := by simpa using e6
 have eW := (HW3.out.set (i := 0) HH3.out (by decide) (by decide) (.int .u8 (N0 % 256))).set (i := 1) e5 (by decide) (by decide) (.int .u8 (N1 % 256))
 have eK := (HK3.out.set (i := 0) HH3.out (.int .u8 (N0 % 256))).set (i := 1) e5 (.int .u8 (N1 % 256))
 have eB : Below B w ((w3.setCell ⟨r, 0, none⟩ (.int .u8 (N0 % 256))).setCell ⟨r, 1, none⟩ (.int .u8 (N1 % 256))) := (HB3.out.setCell (p := ⟨r, 0, none⟩) hBr _).setCell (p := ⟨r, 1, none⟩) hBr _
 have eS := HKS3.out.trans ((Ks.set (i := 0) HH3.out (by decide) (.int .u8 (N0 % 256))).trans (Ks.set (i := 1) e5 (by decide) (.int .u8 (N1 % 256))))
 by_cases hc : L.length = 2 /\ Y0 = true /\ Y1 = true /\ N0 ≠ 0
 ·obtain ⟨c1, c2, c3, c4⟩ := hc
  have l0 := HY0.out c2
  have l1 := HY1.out c3
  have hm0 : N0 % 256 = N0 := by omega
  have hm1 : N1 % 256 = N1 := by omega
  rw [hm0, hm1] at e6 eW eK eB eS ⊢
  have ht : L.tail.tail = [] := by
   match L, c1 with
   | [a, b], _ => rfl
  have hbf : (false || !Y0 || !Y1) = false := by rw [c2, c3]; rfl
  rw [ht, hbf] at eW
  have hbt : (N0 != 0) = true := by simpa using c4
  show RetLn _ B r b S N w (.returned (.bool (N0 != 0))) _
  rw [hbt]
  exact RetLn.yes (st := ⟨⟨N0, N1, ks, hd, tl, ct, sm⟩, true, en⟩) (by rw [HE.out, if_pos ⟨c1, c2, c3, c4⟩]) eW ⟨hBr, HOK.out.mark (by omega) (by omega), A, c, FA, FC, e6, eK⟩ eB eS
 ·refine RetLn.no (L := L.tail.tail) (bad := (false || !Y0 || !Y1)) (by rw [HE.out, if_neg hc]) (fun h => hc ?_) eW eB eS
  obtain ⟨k1, k2, k3⟩ := h
  have y0 : Y0 = true := by cases Y0 with | true => rfl | false => simp at k3
  have y1 : Y1 = true := by cases Y1 with | true => rfl | false => simp at k3
  have hlen := HL.out y0 y1
  have hL2 : L.length = 2 := by
   match L, hlen, k2 with
   | [a, b], _, _ => rfl
   | a :: b :: d :: L, _, k => simp at k
  have k1' : (N0 % 256 != 0) = true := k1
  have l0 := HY0.out y0
  have hm0 : N0 % 256 = N0 := by omega
  rw [hm0] at k1'
  exact ⟨hL2, y0, y1, by simpa using k1'⟩
end Go.Proofs.YthjlleifpnpfgaaGreatDoor
