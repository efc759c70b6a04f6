
/- The reference's line: a kind. (Printed by genG9.py.) -/
import Derived.Test.YtfgnollclmimnaaGreatDoorG9
namespace Go.Proofs.YtfgnollclmimnaaGreatDoor
open Go.RowKit Limb Nmb Work
set_option linter.unusedVariables false
set_option linter.unusedSimpArgs false

set_option maxHeartbeats 4000000 in
set_option maxRecDepth 100000 in
theorem rline2_c (B r S N : Nat) (m0 : Int) (st : FSt) (s : ByteArray) (w : World) (hNN : N ≤ 1000000) (hS : S < 4294967281) (hs : s.size ≤ S) (hm0 : w.cell? ⟨0, 0, none⟩ = some (.int .i64 m0)) (hf : RR w B r S N st) (hE : (wrdS s).any (fun y => decide (y = eS)) = false) (hen : st.ended = false) (hbg : st.begun = true) (hk : wd (wrdS s) 0 = wKind) :
    Calls Tryz.prog 15 #[.pointer (some ⟨r, 0, none⟩), .string s, .bool false] w (RetRL (lineF st s) B r S (N + 1) w) := by
  obtain ⟨O, hO⟩ : ∃ o, lineF st s = o := ⟨_, rfl⟩
  rw [hO]
  have HO := Lib.hid hO
  have HSP := Lib.hid (split_c s 32 m0 w (by omega) hm0)
  have hlen : (pcs 32 s.data.toList).length = (wrdS s).length := by unfold wrdS; rw [List.length_map]
  have hwd : (pcs 32 s.data.toList).map bs = wrdS s := rfl
  have hnz : (wrdS s).length ≤ 9223372036854775807 := by
    rw [← hlen, pcs_len]
    have h2 := List.count_le_length (a := (32 : UInt8)) (l := s.data.toList)
    have h3 : s.data.toList.length = s.size := by simp
    omega
  rw [hwd, hlen] at HSP
  have hwl := wrd_len s
  have hwz := wrd_sz s
  obtain ⟨W, hW⟩ : ∃ x, wrdS s = x := ⟨_, rfl⟩
  have HWW := Lib.hid hW
  rw [hW] at HSP hwl hwz hnz hE hk
  obtain ⟨nw, hnw⟩ : ∃ x, W.length = x := ⟨_, rfl⟩
  have HNW := Lib.hid hnw
  rw [hnw] at HSP hwl hnz
  have HZ := Lib.hid (fun x hx => Nat.le_trans (hwz x hx) hs)
  obtain ⟨hBr, hok, A, c, FA, FC, hh, hK⟩ := hf
  obtain ⟨⟨m, q, ks, hd, tl, ct, sm⟩, bg, en⟩ := st
  unfold rrC at hh
  simp only at hh hK hok hen hbg ⊢
  subst hen; subst hbg
  obtain ⟨nk, hnk⟩ : ∃ x, ks.length = x := ⟨_, rfl⟩
  have HNK := Lib.hid hnk
  rw [hnk] at hh
  have HOW := Lib.hid (show O = wordsF ⟨⟨m, q, ks, hd, tl, ct, sm⟩, true, false⟩ (wd W 0) W.tail by
    rw [← HO.out]
    unfold lineF
    rw [HWW.out, if_neg (fun h => h.elim (fun h => by rw [hE] at h; cases h) (fun h => by cases h))])
  have HHr := Lib.hid (heap_old hh (.cells (W.map Value.string).toArray 9))
  have HKK := Lib.hid (hK.keep (fun g cs hh => heap_old hh (.cells (W.map Value.string).toArray 9)) (fun g cs hh => heap_old hh (.cells (W.map Value.string).toArray 9)))
  have hBw : B ≤ w.heap.size := by have := lt_heap hh; omega
  have hrg : r < w.heap.size := lt_heap hh
  have HOK := Lib.hid hok
  have HX := Lib.hid (heap_new w (.cells (W.map Value.string).toArray 9) rfl)
  have HB1 : Hid (Below B w (w.alloc (.cells (W.map Value.string).toArray 9))) := Lib.hid ((Below.refl B w).alloc hBw _)
  have HCT := Lib.hid (contains_c w.heap.size nw W (w.alloc (.cells (W.map Value.string).toArray 9)) hnw hnz HX.out)
  rw [hE] at HCT
  clear hO hm0 hlen hwd hW hnw hwz hh hK hok hE hnk
  go_enter Tryz.func15, Tryz.ntmps15
  go_wp2_with fail
  refine HSP.out.mono ?_
  rintro e w1 ⟨rfl, rfl⟩
  generalize w.alloc (.cells (W.map Value.string).toArray 9) = w1 at HX HHr HKK HB1 HCT ⊢
  obtain ⟨gx, hgx⟩ : ∃ x, w.heap.size = x := ⟨_, rfl⟩
  rw [hgx] at HX HCT hBw hrg ⊢
  clear HSP hgx
  have hgz : gx < w1.heap.size := lt_heap HX.out
  go_wp2_with fail
  refine HCT.out.mono ?_
  rintro e w2 ⟨rfl, rfl⟩
  clear HCT
  obtain ⟨⟨g0, g1, g2, g3, g4, g5, g6, g7⟩, ⟨z0, z1, z2, z3, z4, z5, z6, z7⟩, hlt⟩ := obox8f HHr.out
  obtain ⟨x0, hx0⟩ : ∃ x, wd W 0 = x := ⟨_, rfl⟩
  have HX0 := Lib.hid hx0
  clear hx0
  obtain ⟨x1, hx1⟩ : ∃ x, wd W 1 = x := ⟨_, rfl⟩
  have HX1 := Lib.hid hx1
  clear hx1
  obtain ⟨x2, hx2⟩ : ∃ x, wd W 2 = x := ⟨_, rfl⟩
  have HX2 := Lib.hid hx2
  clear hx2
  obtain ⟨x3, hx3⟩ : ∃ x, wd W 3 = x := ⟨_, rfl⟩
  have HX3 := Lib.hid hx3
  clear hx3
  have l0 : w1.cell? ⟨gx, 0, none⟩ = some (.string x0) := by
    have := sts_at (sts_new HX.out) (j := 0) (by rw [HNW.out]; omega)
    rw [HX0.out] at this
    simpa using this
  have e0 : (x0.toList == [107, 105, 110, 100]) = true := by rw [lit_dec]; exact decide_eq_true (by rw [← HX0.out]; exact hk)
  have HL := Lib.hid (show W.tail.length = nw - 1 by rw [List.length_tail, HNW.out])
  have HF := Lib.hid (show O = if W.tail.length = 3 ∧ nOk x2 = true then some ⟨⟨m, q, ks ++ [⟨x1, [], nVal x2, undS x3⟩], hd, tl, ct, sm⟩, true, false⟩ else none by
    rw [HOW.out]; unfold wordsF; rw [if_neg (by simp), if_pos hk, wd_tail, wd_tail, wd_tail, HX1.out, HX2.out, HX3.out])
  clear hk
  by_cases h4 : nw = 4
  case neg =>
    have h4b : ¬ (nw : Int) = 4 := by omega
    have h4a : ((nw : Int) == 4) = false := by simpa using h4b
    have HOn := Lib.hid (show O = none by rw [HF.out]; exact if_neg (fun k => by have h5 := HL.out; have := k.1; omega))
    clear h4
    go_wp2
    go_ret
    exact RetRL.no HOn.out HB1.out
  subst h4
  have HS2 := Lib.hid (fun w => small_c x2 w (by rw [← HX2.out]; exact Nat.le_trans (wd_sz HZ.out 2) (by omega)))
  obtain ⟨N2, hN2⟩ : ∃ y, nVal x2 = y := ⟨_, rfl⟩
  obtain ⟨O2, hO2⟩ : ∃ y, nOk x2 = y := ⟨_, rfl⟩
  unfold RetNo at HS2
  rw [hN2, hO2] at HS2
  have HN2 := Lib.hid hN2; have HO2 := Lib.hid hO2
  have hbd2 := nVal_bd x2
  rw [hN2] at hbd2
  clear hN2 hO2
  have l2 : w1.cell? ⟨gx, 2, none⟩ = some (.string x2) := by
    have := sts_at (sts_new HX.out) (j := 2) (by rw [HNW.out]; omega)
    rw [HX2.out] at this
    simpa using this
  go_wp2_with fail
  refine (HS2.out _).mono ?_
  rintro e w2 ⟨rfl, hbx⟩
  have HHn := Lib.hid (heap_below HHr.out hbx); have HKn := Lib.hid (HKK.out.keep (fun g cs hh => heap_below hh hbx) (fun g cs hh => heap_below hh hbx)); have HXn := Lib.hid (heap_below HX.out hbx); have HBn := Lib.hid (below_then hbx HB1.out (Nat.le_trans hBw (Nat.le_of_lt hgz)))
  have hgn : gx < w2.heap.size := lt_heap HXn.out
  clear g0 g1 g2 g3 g4 g5 g6 g7 z0 z1 z2 z3 z4 z5 z6 z7 hlt
  clear HHr HKK HX HB1 hbx hgz l0 l2
  have HHr := HHn; have HKK := HKn; have HX := HXn; have HB1 := HBn; have hgz := hgn
  clear HHn HKn HXn HBn hgn
  obtain ⟨⟨g0, g1, g2, g3, g4, g5, g6, g7⟩, ⟨z0, z1, z2, z3, z4, z5, z6, z7⟩, hlt⟩ := obox8f HHr.out
  have l1 : w2.cell? ⟨gx, 1, none⟩ = some (.string x1) := by
    have := sts_at (sts_new HX.out) (j := 1) (by rw [HNW.out]; omega)
    rw [HX1.out] at this
    simpa using this
  have l3 : w2.cell? ⟨gx, 3, none⟩ = some (.string x3) := by
    have := sts_at (sts_new HX.out) (j := 3) (by rw [HNW.out]; omega)
    rw [HX3.out] at this
    simpa using this
  have hrx : r ≠ gx := by omega
  obtain ⟨i0, hi⟩ : ∃ i, Tryz.prog.info? 48 = some i := ⟨_, rfl⟩
  have hz0 : i0.zero = some (.agg #[.string ⟨#[]⟩, .slice none 0 0, .int .i64 0, .string ⟨#[]⟩]) := by obtain rfl := Option.some.inj (hi.symm.trans rfl); rfl
  have hz1 : i0.size = 4 := by obtain rfl := Option.some.inj (hi.symm.trans rfl); rfl
  have hz2 : i0.bytes = 64 := by obtain rfl := Option.some.inj (hi.symm.trans rfl); rfl
  have HI := Lib.hid hi; have HZ0 := Lib.hid hz0; have HZ1 := Lib.hid hz1; have HZ2 := Lib.hid hz2
  have hnkN : nk ≤ N := by have := HOK.out.1.2; simp only at this; rw [HNK.out] at this; exact this
  have HOWN : Hid (w2.ownsRow B 48 4 (.slice A nk c) nk (rowsC 4 nk (kindV ks FA FC))) := Lib.hid (by
    have := HKK.out.kinds
    rw [HNK.out] at this
    exact this)
  have HBS := Lib.hid HB1.out.size
  clear hi hz0 hz1 hz2
  go_upto_region 18 with fail
  refine region_till 20 (fun w' => w'.cell? ⟨r, 2, none⟩ = some (.slice A nk c) ∧ w'.cell? ⟨gx, 1, none⟩ = some (.string x1) ∧ w'.cell? ⟨gx, 3, none⟩ = some (.string x3)) (by kernel_rfl) ?_
  have hT : (fun w' : World => w'.cell? ⟨r, 2, none⟩ = some (.slice A nk c) ∧ w'.cell? ⟨gx, 1, none⟩ = some (.string x1) ∧ w'.cell? ⟨gx, 3, none⟩ = some (.string x3)) w2.drew := ⟨g2, l1, l3⟩
  refine Till.take (i := 0) (v := ?_) rfl (by kernel_rfl) (by kernel_rfl) (by kernel_rfl) [17, 18, 19] (by kernel_rfl) (by decide) (by kernel_rfl) (by kernel_rfl) (fun _ _ _ h => h) hT (Or.inl ⟨by rfl, ?_⟩) ?_
  rotate_left
  · (intro w' hw'; obtain ⟨u1, u2, u3⟩ := hw'; go_simp; try with_reducible rfl)
  (try simp only [Act.put, List.setIfInBounds_toArray, List.set_cons_zero, List.set_cons_succ])
  refine Till.take (i := 1) (v := ?_) rfl (by kernel_rfl) (by kernel_rfl) (by kernel_rfl) [2, 3, 4, 5, 16] (by kernel_rfl) (by decide) (by kernel_rfl) (by kernel_rfl) (fun _ _ _ h => h) hT (Or.inl ⟨by rfl, ?_⟩) ?_
  rotate_left
  · (intro w' hw'; obtain ⟨u1, u2, u3⟩ := hw'; go_simp; try with_reducible rfl)
  (try simp only [Act.put, List.setIfInBounds_toArray, List.set_cons_zero, List.set_cons_succ])
  refine Till.take (i := 2) (v := ?_) rfl (by kernel_rfl) (by kernel_rfl) (by kernel_rfl) [3, 4, 5, 16] (by kernel_rfl) (by decide) (by kernel_rfl) (by kernel_rfl) (fun _ _ _ h => h) hT (Or.inl ⟨by rfl, ?_⟩) ?_
  rotate_left
  · (intro w' hw'; obtain ⟨u1, u2, u3⟩ := hw'; go_simp; try with_reducible rfl)
  (try simp only [Act.put, List.setIfInBounds_toArray, List.set_cons_zero, List.set_cons_succ])
  refine Till.take (i := 3) (v := ?_) rfl (by kernel_rfl) (by kernel_rfl) (by kernel_rfl) [4, 5, 16] (by kernel_rfl) (by decide) (by kernel_rfl) (by kernel_rfl) (fun _ _ _ h => h) hT (Or.inl ⟨by rfl, ?_⟩) ?_
  rotate_left
  · (intro w' hw'; obtain ⟨u1, u2, u3⟩ := hw'; go_simp; try with_reducible rfl)
  (try simp only [Act.put, List.setIfInBounds_toArray, List.set_cons_zero, List.set_cons_succ])
  refine Till.take (i := 4) (v := ?_) rfl (by kernel_rfl) (by kernel_rfl) (by kernel_rfl) [5, 16] (by kernel_rfl) (by decide) (by kernel_rfl) (by kernel_rfl) (fun _ _ _ h => h) hT (Or.inl ⟨by rfl, ?_⟩) ?_
  rotate_left
  · (intro w' hw'; obtain ⟨u1, u2, u3⟩ := hw'; go_simp; try with_reducible rfl)
  (try simp only [Act.put, List.setIfInBounds_toArray, List.set_cons_zero, List.set_cons_succ])
  refine Till.take (i := 5) (v := ?_) rfl (by kernel_rfl) (by kernel_rfl) (by kernel_rfl) [16] (by kernel_rfl) (by decide) (by kernel_rfl) (by kernel_rfl) (fun _ _ _ h => h) hT (Or.inl ⟨by rfl, ?_⟩) ?_
  rotate_left
  · (intro w' hw'; obtain ⟨u1, u2, u3⟩ := hw'; go_simp; try with_reducible rfl)
  (try simp only [Act.put, List.setIfInBounds_toArray, List.set_cons_zero, List.set_cons_succ])
  refine Till.take (i := 6) (v := ?_) rfl (by kernel_rfl) (by kernel_rfl) (by kernel_rfl) [7, 8, 14, 15, 16] (by kernel_rfl) (by decide) (by kernel_rfl) (by kernel_rfl) (fun _ _ _ h => h) hT (Or.inl ⟨by rfl, ?_⟩) ?_
  rotate_left
  · (intro w' hw'; obtain ⟨u1, u2, u3⟩ := hw'; go_simp; try with_reducible rfl)
  (try simp only [Act.put, List.setIfInBounds_toArray, List.set_cons_zero, List.set_cons_succ])
  refine Till.take (i := 7) (v := ?_) rfl (by kernel_rfl) (by kernel_rfl) (by kernel_rfl) [8, 14, 15, 16] (by kernel_rfl) (by decide) (by kernel_rfl) (by kernel_rfl) (fun _ _ _ h => h) hT (Or.inl ⟨by rfl, ?_⟩) ?_
  rotate_left
  · (intro w' hw'; obtain ⟨u1, u2, u3⟩ := hw'; go_simp; try with_reducible rfl)
  (try simp only [Act.put, List.setIfInBounds_toArray, List.set_cons_zero, List.set_cons_succ])
  refine Till.take (i := 8) (v := ?_) rfl (by kernel_rfl) (by kernel_rfl) (by kernel_rfl) [14, 15, 16] (by kernel_rfl) (by decide) (by kernel_rfl) (by kernel_rfl) (fun _ _ _ h => h) hT (Or.inl ⟨by rfl, ?_⟩) ?_
  rotate_left
  · (intro w' hw'; obtain ⟨u1, u2, u3⟩ := hw'; go_simp; try with_reducible rfl)
  (try simp only [Act.put, List.setIfInBounds_toArray, List.set_cons_zero, List.set_cons_succ])
  refine Till.take (i := 9) (v := ?_) rfl (by kernel_rfl) (by kernel_rfl) (by kernel_rfl) [14, 15, 16] (by kernel_rfl) (by decide) (by kernel_rfl) (by kernel_rfl) (fun _ _ _ h => h) hT (Or.inl ⟨by rfl, ?_⟩) ?_
  rotate_left
  · (intro w' hw'; obtain ⟨u1, u2, u3⟩ := hw'; go_simp; try with_reducible rfl)
  (try simp only [Act.put, List.setIfInBounds_toArray, List.set_cons_zero, List.set_cons_succ])
  refine Till.take (i := 10) (v := ?_) rfl (by kernel_rfl) (by kernel_rfl) (by kernel_rfl) [11, 12, 13, 14, 15, 16] (by kernel_rfl) (by decide) (by kernel_rfl) (by kernel_rfl) (fun _ _ _ h => h) hT (Or.inl ⟨by rfl, ?_⟩) ?_
  rotate_left
  · (intro w' hw'; obtain ⟨u1, u2, u3⟩ := hw'; go_simp; try with_reducible rfl)
  (try simp only [Act.put, List.setIfInBounds_toArray, List.set_cons_zero, List.set_cons_succ])
  refine Till.take (i := 11) (v := ?_) rfl (by kernel_rfl) (by kernel_rfl) (by kernel_rfl) [12, 13, 14, 15, 16] (by kernel_rfl) (by decide) (by kernel_rfl) (by kernel_rfl) (fun _ _ _ h => h) hT (Or.inl ⟨by rfl, ?_⟩) ?_
  rotate_left
  · (intro w' hw'; obtain ⟨u1, u2, u3⟩ := hw'; go_simp; try with_reducible rfl)
  (try simp only [Act.put, List.setIfInBounds_toArray, List.set_cons_zero, List.set_cons_succ])
  refine Till.take (i := 12) (v := ?_) rfl (by kernel_rfl) (by kernel_rfl) (by kernel_rfl) [13, 14, 15, 16] (by kernel_rfl) (by decide) (by kernel_rfl) (by kernel_rfl) (fun _ _ _ h => h) hT (Or.inl ⟨by rfl, ?_⟩) ?_
  rotate_left
  · (intro w' hw'; obtain ⟨u1, u2, u3⟩ := hw'; go_simp; try with_reducible rfl)
  (try simp only [Act.put, List.setIfInBounds_toArray, List.set_cons_zero, List.set_cons_succ])
  refine Till.step (i := 13) (by kernel_rfl) rfl ?_
  intro K hK
  go_simp
  (go_at_call 43; refine (bare_c _ _).mono ?_; rintro e wD ⟨eD, rfl⟩; subst eD)
  have hT : (fun w' : World => w'.cell? ⟨r, 2, none⟩ = some (.slice A nk c) ∧ w'.cell? ⟨gx, 1, none⟩ = some (.string x1) ∧ w'.cell? ⟨gx, 3, none⟩ = some (.string x3)) w2.drew := ⟨g2, l1, l3⟩
  refine hK.out _ _ (fun _ => hT) ?_
  clear hK K
  (try simp only [Act.put, List.setIfInBounds_toArray, List.set_cons_zero, List.set_cons_succ])
  refine Till.step (i := 14) (by kernel_rfl) rfl ?_
  intro K hK
  go_simp
  have hT : (fun w' : World => w'.cell? ⟨r, 2, none⟩ = some (.slice A nk c) ∧ w'.cell? ⟨gx, 1, none⟩ = some (.string x1) ∧ w'.cell? ⟨gx, 3, none⟩ = some (.string x3)) w2.drew := ⟨g2, l1, l3⟩
  refine hK.out _ _ (fun _ => hT) ?_
  clear hK K
  (try simp only [Act.put, List.setIfInBounds_toArray, List.set_cons_zero, List.set_cons_succ])
  refine Till.step (i := 15) (by kernel_rfl) rfl ?_
  intro K hK
  go_simp
  have hT : (fun w' : World => w'.cell? ⟨r, 2, none⟩ = some (.slice A nk c) ∧ w'.cell? ⟨gx, 1, none⟩ = some (.string x1) ∧ w'.cell? ⟨gx, 3, none⟩ = some (.string x3)) (w2.drew.alloc (.cells #[.string x1, .slice none 0 0, .int .i64 N2, .string (undS x3)] 48)) := ⟨(obox8f (heap_old HHr.out (.cells #[.string x1, .slice none 0 0, .int .i64 N2, .string (undS x3)] 48))).1.2.2.1, by go_keep, by go_keep⟩
  refine hK.out _ _ (fun _ => hT) ?_
  clear hK K
  (try simp only [Act.put, List.setIfInBounds_toArray, List.set_cons_zero, List.set_cons_succ])
  refine Till.step (i := 16) (by kernel_rfl) rfl ?_
  intro K hK
  refine step_append_lies _ rfl (.tmp 117) (.tmp 127) 22 rfl B 48 i0 (.agg #[.string ⟨#[]⟩, .slice none 0 0, .int .i64 0, .string ⟨#[]⟩]) 4 64 Tryz.underlying22 HI.out HZ0.out HZ1.out HZ2.out rfl (by decide) (.slice A nk c) nk (rowsC 4 nk (kindV ks FA FC)) rfl (by exact HOWN.out.alloc (.cells #[.string x1, .slice none 0 0, .int .i64 N2, .string (undS x3)] 48)) ⟨w2.heap.size, 0, none⟩ 1 1 [.string x1, .slice none 0 0, .int .i64 N2, .string (undS x3)] rfl rfl (by exact k_cellsF w2 [.string x1, .slice none 0 0, .int .i64 N2, .string (undS x3)] 48) (by intro u hu; simp at hu; rcases hu with rfl | rfl | rfl | rfl <;> rfl) (by decide) (by unfold maxLen; omega) (by omega) (by have := HBS.out; simp; omega) _ rfl ?_
  intro G cap w4 hown4 hg4 hat4 hlt4
  have hg4 := grown_alloc (grown_drewF hg4)
  have hr4 := grown_type HOWN.out hg4 HHr.out (by decide)
  have hx4 := grown_type HOWN.out hg4 HX.out (by decide)
  obtain ⟨⟨p0, p1, p2, p3, p4, p5, p6, p7⟩, ⟨y0, y1, y2, y3, y4, y5, y6, y7⟩, xlt⟩ := obox8f hr4
  have l14 : w4.cell? ⟨gx, 1, none⟩ = some (.string x1) := by
    have := sts_at (sts_new hx4) (j := 1) (by rw [HNW.out]; omega)
    rw [HX1.out] at this
    simpa using this
  have l34 : w4.cell? ⟨gx, 3, none⟩ = some (.string x3) := by
    have := sts_at (sts_new hx4) (j := 3) (by rw [HNW.out]; omega)
    rw [HX3.out] at this
    simpa using this
  have hT : (fun w' : World => w'.cell? ⟨r, 2, none⟩ = some (.slice A nk c) ∧ w'.cell? ⟨gx, 1, none⟩ = some (.string x1) ∧ w'.cell? ⟨gx, 3, none⟩ = some (.string x3)) w4 := ⟨p2, l14, l34⟩
  refine hK.out _ _ (fun _ => hT) ?_
  clear hK K
  (try simp only [Act.put, List.setIfInBounds_toArray, List.set_cons_zero, List.set_cons_succ])
  refine Till.take (i := 17) (v := ?_) rfl (by kernel_rfl) (by kernel_rfl) (by kernel_rfl) [18, 19] (by kernel_rfl) (by decide) (by kernel_rfl) (by kernel_rfl) (fun _ _ _ h => h) hT (Or.inl ⟨by rfl, ?_⟩) ?_
  rotate_left
  · (intro w' hw'; obtain ⟨u1, u2, u3⟩ := hw'; go_simp; try with_reducible rfl)
  (try simp only [Act.put, List.setIfInBounds_toArray, List.set_cons_zero, List.set_cons_succ])
  refine Till.take (i := 18) (v := ?_) rfl (by kernel_rfl) (by kernel_rfl) (by kernel_rfl) [19] (by kernel_rfl) (by decide) (by kernel_rfl) (by kernel_rfl) (fun _ _ _ h => h) hT (Or.inl ⟨by rfl, ?_⟩) ?_
  rotate_left
  · (intro w' hw'; obtain ⟨u1, u2, u3⟩ := hw'; go_simp; try with_reducible rfl)
  (try simp only [Act.put, List.setIfInBounds_toArray, List.set_cons_zero, List.set_cons_succ])
  refine Till.take (i := 19) (v := ?_) rfl (by kernel_rfl) (by kernel_rfl) (by kernel_rfl) [] (by kernel_rfl) (by decide) (by kernel_rfl) (by kernel_rfl) (fun _ _ _ h => h) hT (Or.inl ⟨by rfl, ?_⟩) ?_
  rotate_left
  · (intro w' hw'; obtain ⟨u1, u2, u3⟩ := hw'; go_simp; try with_reducible rfl)
  (try simp only [Act.put, List.setIfInBounds_toArray, List.set_cons_zero, List.set_cons_succ])
  refine Till.step (i := 20) (by kernel_rfl) rfl ?_
  intro K hK
  go_simp
  refine hK.out _ _ (fun h => absurd h (by decide)) ?_
  clear hK K
  (try simp only [Act.put, List.setIfInBounds_toArray, List.set_cons_zero, List.set_cons_succ])
  refine Till.done (by kernel_rfl) ?_ _
  have hrn : (w4.setCell ⟨r, 2, none⟩ (.slice (some ⟨G, 0, none⟩) (nk + 1) cap)).heap[r]? = some (.cells #[.int .u8 m, .int .u8 q, .slice (some ⟨G, 0, none⟩) (nk + 1) cap, .string hd, .string tl, .string ct, .string sm, .bool false] 42 (0, 0)) := by
    have := heap_set hr4 2 (.slice (some ⟨G, 0, none⟩) (nk + 1) cap)
    simpa using this
  have hKn := KOwn.push (k := ⟨x1, [], N2, undS x3⟩) (w' := w4) (A' := some ⟨G, 0, none⟩) (c' := cap) HKK.out rfl (by rw [HNK.out]; exact hown4) (by rw [HNK.out]; exact hg4)
  have hKn := hKn.setT (i := 2) hr4 (by decide) (by decide) (.slice (some ⟨G, 0, none⟩) (nk + 1) cap)
  have hBn : Below B w (w4.setCell ⟨r, 2, none⟩ (.slice (some ⟨G, 0, none⟩) (nk + 1) cap)) := by
    refine (HB1.out.trans ⟨hg4.os, hg4.tape, hg4.output, hg4.size, fun k hk => hg4.block k (by have := HBS.out; omega) (fun e => ?_)⟩).setCell (p := ⟨r, 2, none⟩) hBr _
    have := HOWN.out.lt k e.symm
    omega
  have HRN := Lib.hid hrn; have HKN := Lib.hid hKn; have HBN := Lib.hid hBn
  generalize w4.setCell ⟨r, 2, none⟩ (.slice (some ⟨G, 0, none⟩) (nk + 1) cap) = w5 at HRN HKN HBN ⊢
  clear hrn hKn hBn p0 p1 p2 p3 p4 p5 p6 p7 y0 y1 y2 y3 y4 y5 y6 y7 xlt l14 l34 hr4 hx4 hg4 hown4 hat4 hlt4 hT
  go_wp2
  go_ret
  have hF : O = if O2 = true then some ⟨⟨m, q, ks ++ [⟨x1, [], N2, undS x3⟩], hd, tl, ct, sm⟩, true, false⟩ else none := by
    rw [HF.out, HN2.out, HO2.out, HL.out]
    simp
  cases O2 with
  | false => exact RetRL.no (by rw [hF]; rfl) HBN.out
  | true =>
    refine RetRL.mk (by rw [hF]; rfl) (fun st' e => ?_) HBN.out
    rw [hF, if_pos rfl] at e
    injection e with e
    subst e
    have hz1 : x1.size ≤ S := by rw [← HX1.out]; exact wd_sz HZ.out 1
    have hz3 : (undS x3).size ≤ S := by
      have := wd_sz HZ.out 3
      rw [HX3.out] at this
      unfold undS
      split
      · show 0 ≤ S; omega
      · exact this
    refine ⟨hBr, HOK.out.push ⟨hz1, hz3⟩ rfl, some ⟨G, 0, none⟩, cap, _, _, ?_, HKN.out⟩
    unfold rrC
    simp only
    rw [List.length_append, List.length_singleton, HNK.out]
    exact HRN.out
end Go.Proofs.YtfgnollclmimnaaGreatDoor
