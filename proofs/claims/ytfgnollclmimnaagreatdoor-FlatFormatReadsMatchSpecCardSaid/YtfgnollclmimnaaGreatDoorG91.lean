/- The reference's line: a line that is none. (Printed by genG9.py.) The reference's line: the first line. (Printed by genG9.py.) -/
import Derived.Test.YtfgnollclmimnaaGreatDoorG9
-- merged: G90 G91

namespace Go.Proofs.YtfgnollclmimnaaGreatDoor
open Go.RowKit Limb Nmb Work
set_option linter.unusedVariables false
set_option linter.unusedSimpArgs false

set_option maxHeartbeats 4000000 in
set_option maxRecDepth 100000 in
theorem rline0_c (B r S N : Nat) (m0 : Int) (st : FSt) (s : ByteArray) (w : World) (hNN : N ≤ 1000000) (hS : S < 4294967281) (hs : s.size ≤ S) (hm0 : w.cell? ⟨0, 0, none⟩ = some (.int .i64 m0)) (hf : RR w B r S N st) (fb : Bool) (hfb : (wrdS s).any (fun y => decide (y = eS)) = true ∨ st.ended = true) :
    Calls Tryz.prog 15 #[.pointer (some ⟨r, 0, none⟩), .string s, .bool fb] w (RetRL (lineF st s) B r S (N + 1) w) := by
  obtain ⟨O, hO⟩ : ∃ o, lineF st s = o := ⟨_, rfl⟩
  rw [hO]
  have HO := Lib.hid hO
  have HSP := Lib.hid (split_c s 32 m0 w (by omega) hm0)
  have hlen : (pcs 32 s.data.toList).length = (wrdS s).length := by unfold wrdS; rw [List.length_map]
  have hwd : (pcs 32 s.data.toList).map bs = wrdS s := rfl
  have hnz : (wrdS s).length ≤ 9223372036854775807 := by
    rw [← hlen, pcs_len]
    have h2 := List.count_le_length (a := (32 : UInt8)) (l := s.data.toList)
    have h3 : s.data.toList.length = s.size := by simp
    omega
  rw [hwd, hlen] at HSP
  have hwl := wrd_len s
  have hwz := wrd_sz s
  obtain ⟨W, hW⟩ : ∃ x, wrdS s = x := ⟨_, rfl⟩
  have HWW := Lib.hid hW
  rw [hW] at HSP hwl hwz hnz
  obtain ⟨nw, hnw⟩ : ∃ x, W.length = x := ⟨_, rfl⟩
  have HNW := Lib.hid hnw
  rw [hnw] at HSP hwl hnz
  have HZ := Lib.hid (fun x hx => Nat.le_trans (hwz x hx) hs)
  obtain ⟨hBr, hok, A, c, FA, FC, hh, hK⟩ := hf
  obtain ⟨⟨m, q, ks, hd, tl, ct, sm⟩, bg, en⟩ := st
  unfold rrC at hh
  simp only at hh hK hok hfb ⊢
  skip
  obtain ⟨nk, hnk⟩ : ∃ x, ks.length = x := ⟨_, rfl⟩
  have HNK := Lib.hid hnk
  rw [hnk] at hh
  have HHr := Lib.hid (heap_old hh (.cells (W.map Value.string).toArray 9))
  have HKK := Lib.hid (hK.keep (fun g cs hh => heap_old hh (.cells (W.map Value.string).toArray 9)) (fun g cs hh => heap_old hh (.cells (W.map Value.string).toArray 9)))
  have hBw : B ≤ w.heap.size := by have := lt_heap hh; omega
  have hrg : r < w.heap.size := lt_heap hh
  have HOK := Lib.hid hok
  have HX := Lib.hid (heap_new w (.cells (W.map Value.string).toArray 9) rfl)
  have HB1 : Hid (Below B w (w.alloc (.cells (W.map Value.string).toArray 9))) := Lib.hid ((Below.refl B w).alloc hBw _)
  have HCT := Lib.hid (contains_c w.heap.size nw W (w.alloc (.cells (W.map Value.string).toArray 9)) hnw hnz HX.out)
  obtain ⟨E, hE⟩ : ∃ x, W.any (fun y => decide (y = eS)) = x := ⟨_, rfl⟩
  rw [hE] at HCT
  have HE := Lib.hid hE
  clear hO hm0 hlen hwd hW hnw hwz hh hK hok hE hnk
  go_enter Tryz.func15, Tryz.ntmps15
  go_wp2_with fail
  refine HSP.out.mono ?_
  rintro e w1 ⟨rfl, rfl⟩
  generalize w.alloc (.cells (W.map Value.string).toArray 9) = w1 at HX HHr HKK HB1 HCT ⊢
  obtain ⟨gx, hgx⟩ : ∃ x, w.heap.size = x := ⟨_, rfl⟩
  rw [hgx] at HX HCT hBw hrg ⊢
  clear HSP hgx
  have hgz : gx < w1.heap.size := lt_heap HX.out
  go_wp2_with fail
  refine HCT.out.mono ?_
  rintro e w2 ⟨rfl, rfl⟩
  clear HCT
  obtain ⟨⟨g0, g1, g2, g3, g4, g5, g6, g7⟩, ⟨z0, z1, z2, z3, z4, z5, z6, z7⟩, hlt⟩ := obox8f HHr.out
  cases E with
  | true =>
    have HOn := Lib.hid (show O = none by rw [← HO.out]; unfold lineF; rw [HWW.out, if_pos (.inl HE.out)])
    go_wp2
    go_ret
    exact RetRL.no HOn.out HB1.out
  | false =>
    have hen : en = true := by
      rcases hfb with h | h
      · rw [HWW.out, HE.out] at h; cases h
      · exact h
    subst hen
    have HOn := Lib.hid (show O = none by rw [← HO.out]; unfold lineF; rw [if_pos (.inr rfl)])
    go_wp2
    go_ret
    exact RetRL.no HOn.out HB1.out
end Go.Proofs.YtfgnollclmimnaaGreatDoor

namespace Go.Proofs.YtfgnollclmimnaaGreatDoor
open Go.RowKit Limb Nmb Work
set_option linter.unusedVariables false
set_option linter.unusedSimpArgs false

set_option maxHeartbeats 4000000 in
set_option maxRecDepth 100000 in
theorem rline1_c (B r S N : Nat) (m0 : Int) (st : FSt) (s : ByteArray) (w : World) (hNN : N ≤ 1000000) (hS : S < 4294967281) (hs : s.size ≤ S) (hm0 : w.cell? ⟨0, 0, none⟩ = some (.int .i64 m0)) (hf : RR w B r S N st) (hE : (wrdS s).any (fun y => decide (y = eS)) = false) (hen : st.ended = false) (hbg : st.begun = false) :
    Calls Tryz.prog 15 #[.pointer (some ⟨r, 0, none⟩), .string s, .bool true] w (RetRL (lineF st s) B r S (N + 1) w) := by
  obtain ⟨O, hO⟩ : ∃ o, lineF st s = o := ⟨_, rfl⟩
  rw [hO]
  have HO := Lib.hid hO
  have HSP := Lib.hid (split_c s 32 m0 w (by omega) hm0)
  have hlen : (pcs 32 s.data.toList).length = (wrdS s).length := by unfold wrdS; rw [List.length_map]
  have hwd : (pcs 32 s.data.toList).map bs = wrdS s := rfl
  have hnz : (wrdS s).length ≤ 9223372036854775807 := by
    rw [← hlen, pcs_len]
    have h2 := List.count_le_length (a := (32 : UInt8)) (l := s.data.toList)
    have h3 : s.data.toList.length = s.size := by simp
    omega
  rw [hwd, hlen] at HSP
  have hwl := wrd_len s
  have hwz := wrd_sz s
  obtain ⟨W, hW⟩ : ∃ x, wrdS s = x := ⟨_, rfl⟩
  have HWW := Lib.hid hW
  rw [hW] at HSP hwl hwz hnz hE
  obtain ⟨nw, hnw⟩ : ∃ x, W.length = x := ⟨_, rfl⟩
  have HNW := Lib.hid hnw
  rw [hnw] at HSP hwl hnz
  have HZ := Lib.hid (fun x hx => Nat.le_trans (hwz x hx) hs)
  obtain ⟨hBr, hok, A, c, FA, FC, hh, hK⟩ := hf
  obtain ⟨⟨m, q, ks, hd, tl, ct, sm⟩, bg, en⟩ := st
  unfold rrC at hh
  simp only at hh hK hok hen hbg ⊢
  subst hen; subst hbg
  obtain ⟨nk, hnk⟩ : ∃ x, ks.length = x := ⟨_, rfl⟩
  have HNK := Lib.hid hnk
  rw [hnk] at hh
  have HOW := Lib.hid (show O = wordsF ⟨⟨m, q, ks, hd, tl, ct, sm⟩, false, false⟩ (wd W 0) W.tail by
    rw [← HO.out]
    unfold lineF
    rw [HWW.out, if_neg (fun h => h.elim (fun h => by rw [hE] at h; cases h) (fun h => by cases h))])
  have HHr := Lib.hid (heap_old hh (.cells (W.map Value.string).toArray 9))
  have HKK := Lib.hid (hK.keep (fun g cs hh => heap_old hh (.cells (W.map Value.string).toArray 9)) (fun g cs hh => heap_old hh (.cells (W.map Value.string).toArray 9)))
  have hBw : B ≤ w.heap.size := by have := lt_heap hh; omega
  have hrg : r < w.heap.size := lt_heap hh
  have HOK := Lib.hid hok
  have HX := Lib.hid (heap_new w (.cells (W.map Value.string).toArray 9) rfl)
  have HB1 : Hid (Below B w (w.alloc (.cells (W.map Value.string).toArray 9))) := Lib.hid ((Below.refl B w).alloc hBw _)
  have HCT := Lib.hid (contains_c w.heap.size nw W (w.alloc (.cells (W.map Value.string).toArray 9)) hnw hnz HX.out)
  rw [hE] at HCT
  clear hO hm0 hlen hwd hW hnw hwz hh hK hok hE hnk
  go_enter Tryz.func15, Tryz.ntmps15
  go_wp2_with fail
  refine HSP.out.mono ?_
  rintro e w1 ⟨rfl, rfl⟩
  generalize w.alloc (.cells (W.map Value.string).toArray 9) = w1 at HX HHr HKK HB1 HCT ⊢
  obtain ⟨gx, hgx⟩ : ∃ x, w.heap.size = x := ⟨_, rfl⟩
  rw [hgx] at HX HCT hBw hrg ⊢
  clear HSP hgx
  have hgz : gx < w1.heap.size := lt_heap HX.out
  go_wp2_with fail
  refine HCT.out.mono ?_
  rintro e w2 ⟨rfl, rfl⟩
  clear HCT
  obtain ⟨⟨g0, g1, g2, g3, g4, g5, g6, g7⟩, ⟨z0, z1, z2, z3, z4, z5, z6, z7⟩, hlt⟩ := obox8f HHr.out
  obtain ⟨x0, hx0⟩ : ∃ x, wd W 0 = x := ⟨_, rfl⟩
  have HX0 := Lib.hid hx0
  clear hx0
  obtain ⟨x1, hx1⟩ : ∃ x, wd W 1 = x := ⟨_, rfl⟩
  have HX1 := Lib.hid hx1
  clear hx1
  obtain ⟨x2, hx2⟩ : ∃ x, wd W 2 = x := ⟨_, rfl⟩
  have HX2 := Lib.hid hx2
  clear hx2
  have l0 : w1.cell? ⟨gx, 0, none⟩ = some (.string x0) := by
    have := sts_at (sts_new HX.out) (j := 0) (by rw [HNW.out]; omega)
    rw [HX0.out] at this
    simpa using this
  have HF := Lib.hid (show O = frstF ⟨⟨m, q, ks, hd, tl, ct, sm⟩, false, false⟩ x0 W.tail by rw [HOW.out, HX0.out]; unfold wordsF; rw [if_pos rfl])
  have HL := Lib.hid (show W.tail.length = nw - 1 by rw [List.length_tail, HNW.out])
  by_cases h1 : nw = 1
  · subst h1
    obtain ⟨v, hv⟩ : ∃ x, (x0.toList == [102, 105, 120, 101, 100]) = x := ⟨_, rfl⟩
    have HV := Lib.hid (show decide (x0 = wFixed) = v by rw [← hv, lit_dec]; rfl)
    go_wp2
    go_ret
    refine RetRL.mk ?_ (fun st' e => ?_) HB1.out
    · rw [HF.out, frst_one HL.out, ← HV.out]
      by_cases hx : x0 = wFixed
      · rw [if_pos hx, decide_eq_true hx]; rfl
      · rw [if_neg hx, decide_eq_false hx]; rfl
    · rw [HF.out, frst_one HL.out] at e
      by_cases hx : x0 = wFixed
      · rw [if_pos hx] at e
        injection e with e
        subst e
        refine ⟨hBr, HOK.out.mono (by omega), A, c, FA, FC, ?_, HKK.out⟩
        unfold rrC
        simp only
        rw [HNK.out]
        exact HHr.out
      · rw [if_neg hx] at e; cases e
  have h1a : ((nw : Int) == 1) = false := by
    have : ¬ (nw : Int) = 1 := by omega
    simpa using this
  have h1b : ¬ (nw : Int) = 1 := by omega
  by_cases h3 : nw = 3
  case neg =>
    have h3b : ¬ (nw : Int) = 3 := by omega
    have h3a : ((nw : Int) == 3) = false := by simpa using h3b
    have HOn := Lib.hid (show O = none by rw [HF.out]; exact frst_no (by rw [HL.out]; omega) (fun k => by have := HL.out; omega))
    clear h3 h1
    go_wp2
    go_ret
    exact RetRL.no HOn.out HB1.out
  clear h1 h1a h1b
  subst h3
  by_cases hmk : x0 = wMarked
  case neg =>
    have e1 : (x0.toList == [109, 97, 114, 107, 101, 100]) = false := by rw [lit_dec]; exact decide_eq_false hmk
    have HOn := Lib.hid (show O = none by rw [HF.out]; exact frst_no (by rw [HL.out]; omega) (fun k => hmk k.2))
    clear hmk
    go_wp2
    go_ret
    exact RetRL.no HOn.out HB1.out
  have e1 : (x0.toList == [109, 97, 114, 107, 101, 100]) = true := by rw [lit_dec]; exact decide_eq_true hmk
  have HFM := Lib.hid (show O = if yOk x1 = true ∧ yOk x2 = true ∧ nVal x1 ≠ 0 then some ⟨⟨nVal x1, nVal x2, ks, hd, tl, ct, sm⟩, true, false⟩ else none by
    rw [HF.out, frst_mk HL.out hmk, wd_tail, wd_tail, HX1.out, HX2.out])
  clear hmk
  have HS1 := Lib.hid (fun w => small_c x1 w (by rw [← HX1.out]; exact Nat.le_trans (wd_sz HZ.out 1) (by omega)))
  obtain ⟨N1, hN1⟩ : ∃ y, nVal x1 = y := ⟨_, rfl⟩
  obtain ⟨O1, hO1⟩ : ∃ y, nOk x1 = y := ⟨_, rfl⟩
  unfold RetNo at HS1
  rw [hN1, hO1] at HS1
  have HN1 := Lib.hid hN1; have HO1 := Lib.hid hO1
  have hbd1 := nVal_bd x1
  rw [hN1] at hbd1
  clear hN1 hO1
  have HS2 := Lib.hid (fun w => small_c x2 w (by rw [← HX2.out]; exact Nat.le_trans (wd_sz HZ.out 2) (by omega)))
  obtain ⟨N2, hN2⟩ : ∃ y, nVal x2 = y := ⟨_, rfl⟩
  obtain ⟨O2, hO2⟩ : ∃ y, nOk x2 = y := ⟨_, rfl⟩
  unfold RetNo at HS2
  rw [hN2, hO2] at HS2
  have HN2 := Lib.hid hN2; have HO2 := Lib.hid hO2
  have hbd2 := nVal_bd x2
  rw [hN2] at hbd2
  clear hN2 hO2
  have l1 : w1.cell? ⟨gx, 1, none⟩ = some (.string x1) := by
    have := sts_at (sts_new HX.out) (j := 1) (by rw [HNW.out]; omega)
    rw [HX1.out] at this
    simpa using this
  have l2 : w1.cell? ⟨gx, 2, none⟩ = some (.string x2) := by
    have := sts_at (sts_new HX.out) (j := 2) (by rw [HNW.out]; omega)
    rw [HX2.out] at this
    simpa using this
  go_wp2_with fail
  refine (HS1.out _).mono ?_
  rintro e w2 ⟨rfl, hbx⟩
  have HHn := Lib.hid (heap_below HHr.out hbx); have HKn := Lib.hid (HKK.out.keep (fun g cs hh => heap_below hh hbx) (fun g cs hh => heap_below hh hbx)); have HXn := Lib.hid (heap_below HX.out hbx); have HBn := Lib.hid (below_then hbx HB1.out (Nat.le_trans hBw (Nat.le_of_lt hgz)))
  have hgn : gx < w2.heap.size := lt_heap HXn.out
  clear g0 g1 g2 g3 g4 g5 g6 g7 z0 z1 z2 z3 z4 z5 z6 z7 hlt
  clear HHr HKK HX HB1 hbx hgz l0 l1 l2
  have HHr := HHn; have HKK := HKn; have HX := HXn; have HB1 := HBn; have hgz := hgn
  clear HHn HKn HXn HBn hgn
  obtain ⟨⟨g0, g1, g2, g3, g4, g5, g6, g7⟩, ⟨z0, z1, z2, z3, z4, z5, z6, z7⟩, hlt⟩ := obox8f HHr.out
  have l2 : w2.cell? ⟨gx, 2, none⟩ = some (.string x2) := by
    have := sts_at (sts_new HX.out) (j := 2) (by rw [HNW.out]; omega)
    rw [HX2.out] at this
    simpa using this
  go_wp2_with fail
  refine (HS2.out _).mono ?_
  rintro e w3 ⟨rfl, hbx⟩
  have HHn := Lib.hid (heap_below HHr.out hbx); have HKn := Lib.hid (HKK.out.keep (fun g cs hh => heap_below hh hbx) (fun g cs hh => heap_below hh hbx)); have HXn := Lib.hid (heap_below HX.out hbx); have HBn := Lib.hid (below_then hbx HB1.out (Nat.le_trans hBw (Nat.le_of_lt hgz)))
  have hgn : gx < w3.heap.size := lt_heap HXn.out
  clear g0 g1 g2 g3 g4 g5 g6 g7 z0 z1 z2 z3 z4 z5 z6 z7 hlt
  clear HHr HKK HX HB1 hbx hgz l2
  have HHr := HHn; have HKK := HKn; have HX := HXn; have HB1 := HBn; have hgz := hgn
  clear HHn HKn HXn HBn hgn
  obtain ⟨⟨g0, g1, g2, g3, g4, g5, g6, g7⟩, ⟨z0, z1, z2, z3, z4, z5, z6, z7⟩, hlt⟩ := obox8f HHr.out
  have hxr : gx ≠ r := by omega
  go_upto_region 13 with fail
  have HHn := HHr; have HKn := HKK; have HBn := HB1; have HXn := HX
  have HKn := Lib.hid (HKn.out.setT (i := 0) HHn.out (by decide) (by decide) (.int .u8 (N1 % 256)))
  have HXn := Lib.hid (heap_far HXn.out (p := ⟨r, 0, none⟩) hxr (.int .u8 (N1 % 256)))
  have HBn : Hid (Below B w (w3.setCell ⟨r, 0, none⟩ (.int .u8 (N1 % 256)))) := Lib.hid (HBn.out.setCell (p := ⟨r, 0, none⟩) hBr _)
  have HHn : Hid ((w3.setCell ⟨r, 0, none⟩ (.int .u8 (N1 % 256))).heap[r]? = some (.cells #[.int .u8 (N1 % 256), .int .u8 q, .slice A nk c, .string hd, .string tl, .string ct, .string sm, .bool false] 42 (0, 0))) := Lib.hid (by have := heap_set HHn.out 0 (.int .u8 (N1 % 256)); simpa using this)
  have HKn := Lib.hid (HKn.out.setT (i := 1) HHn.out (by decide) (by decide) (.int .u8 (N2 % 256)))
  have HXn := Lib.hid (heap_far HXn.out (p := ⟨r, 1, none⟩) hxr (.int .u8 (N2 % 256)))
  have HBn : Hid (Below B w ((w3.setCell ⟨r, 0, none⟩ (.int .u8 (N1 % 256))).setCell ⟨r, 1, none⟩ (.int .u8 (N2 % 256)))) := Lib.hid (HBn.out.setCell (p := ⟨r, 1, none⟩) hBr _)
  have HHn : Hid (((w3.setCell ⟨r, 0, none⟩ (.int .u8 (N1 % 256))).setCell ⟨r, 1, none⟩ (.int .u8 (N2 % 256))).heap[r]? = some (.cells #[.int .u8 (N1 % 256), .int .u8 (N2 % 256), .slice A nk c, .string hd, .string tl, .string ct, .string sm, .bool false] 42 (0, 0))) := Lib.hid (by have := heap_set HHn.out 1 (.int .u8 (N2 % 256)); simpa using this)
  clear g0 g1 g2 g3 g4 g5 g6 g7 z0 z1 z2 z3 z4 z5 z6 z7 hlt
  clear HHr HKK HB1 HX
  generalize (w3.setCell ⟨r, 0, none⟩ (.int .u8 (N1 % 256))).setCell ⟨r, 1, none⟩ (.int .u8 (N2 % 256)) = w4 at HHn HKn HBn HXn ⊢
  have HHr := HHn; have HKK := HKn; have HB1 := HBn; have HX := HXn
  clear HHn HKn HBn HXn
  have HRES : Hid (∀ v, v = (O1 && (O2 && (decide (0 < N1) && (decide (N1 < 256) && decide (N2 < 256))))) → RetRL O B r S (N + 1) w (.returned (.bool v)) w4) := Lib.hid (fun v hv => by
    have hc : v = true ↔ (yOk x1 = true ∧ yOk x2 = true ∧ nVal x1 ≠ 0) := by
      rw [hv, yOk_iff, yOk_iff, HN1.out, HN2.out, HO1.out, HO2.out]
      simp only [Bool.and_eq_true, decide_eq_true_eq]
      constructor
      · rintro ⟨a, b, c, d, e⟩; exact ⟨⟨a, d⟩, ⟨b, e⟩, by omega⟩
      · rintro ⟨⟨a, b⟩, ⟨c, d⟩, e⟩; exact ⟨a, c, by omega, b, d⟩
    by_cases hh : yOk x1 = true ∧ yOk x2 = true ∧ nVal x1 ≠ 0
    · have hv1 := hc.2 hh
      have hfm := HFM.out
      rw [if_pos hh, HN1.out, HN2.out] at hfm
      refine RetRL.mk (by rw [hfm, hv1]; rfl) (fun st' e => ?_) HB1.out
      rw [hfm] at e
      injection e with e
      subst e
      obtain ⟨k1, k2, -⟩ := hh
      have k1 := ((yOk_iff x1).1 k1).2
      have k2 := ((yOk_iff x2).1 k2).2
      rw [HN1.out] at k1
      rw [HN2.out] at k2
      refine ⟨hBr, ⟨⟨⟨⟨hbd1.1, by show N1 ≤ 255; omega⟩, ⟨hbd2.1, by show N2 ≤ 255; omega⟩⟩, by have := HOK.out.1.2; simp only at this ⊢; omega⟩, (HOK.out.mono (show N ≤ N + 1 by omega)).2⟩, A, c, FA, FC, ?_, HKK.out⟩
      unfold rrC
      simp only
      rw [HNK.out]
      have e1 : N1 % 256 = N1 := by omega
      have e2 : N2 % 256 = N2 := by omega
      have := HHr.out
      rw [e1, e2] at this
      exact this
    · have hv0 : v = false := by
        cases v with
        | false => rfl
        | true => exact absurd (hc.1 rfl) hh
      have hfm := HFM.out
      rw [if_neg hh] at hfm
      rw [hv0]
      exact RetRL.no hfm HB1.out)
  clear HFM HKK HX
  obtain ⟨b1, hb1⟩ : ∃ x, decide (0 < N1) = x := ⟨_, rfl⟩
  obtain ⟨b2, hb2⟩ : ∃ x, decide (N1 < 256) = x := ⟨_, rfl⟩
  obtain ⟨b3, hb3⟩ : ∃ x, decide (N2 < 256) = x := ⟨_, rfl⟩
  rw [hb1, hb2, hb3] at HRES
  cases O1 with
  | false =>
    go_wp2
    go_ret
    exact HRES.out _ rfl
  | true =>
    cases O2 with
    | false =>
      go_wp2
      go_ret
      exact HRES.out _ rfl
    | true =>
      cases b1 <;> cases b2 <;> cases b3 <;> (go_wp2; go_ret; exact HRES.out _ rfl)
end Go.Proofs.YtfgnollclmimnaaGreatDoor
