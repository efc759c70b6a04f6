
/- The reference's line: the end. (Printed by genG9.py.) -/
import Derived.Test.YtfgnollclmimnaaGreatDoorG9
namespace Go.Proofs.YtfgnollclmimnaaGreatDoor
open Go.RowKit Limb Nmb Work
set_option linter.unusedVariables false
set_option linter.unusedSimpArgs false

set_option maxHeartbeats 4000000 in
set_option maxRecDepth 100000 in
theorem rline3_c (B r S N : Nat) (m0 : Int) (st : FSt) (s : ByteArray) (w : World) (hNN : N ≤ 1000000) (hS : S < 4294967281) (hs : s.size ≤ S) (hm0 : w.cell? ⟨0, 0, none⟩ = some (.int .i64 m0)) (hf : RR w B r S N st) (hE : (wrdS s).any (fun y => decide (y = eS)) = false) (hen : st.ended = false) (hbg : st.begun = true) (hk : wd (wrdS s) 0 = wEnds) :
    Calls Tryz.prog 15 #[.pointer (some ⟨r, 0, none⟩), .string s, .bool false] w (RetRL (lineF st s) B r S (N + 1) w) := by
  obtain ⟨O, hO⟩ : ∃ o, lineF st s = o := ⟨_, rfl⟩
  rw [hO]
  have HO := Lib.hid hO
  have HSP := Lib.hid (split_c s 32 m0 w (by omega) hm0)
  have hlen : (pcs 32 s.data.toList).length = (wrdS s).length := by unfold wrdS; rw [List.length_map]
  have hwd : (pcs 32 s.data.toList).map bs = wrdS s := rfl
  have hnz : (wrdS s).length ≤ 9223372036854775807 := by
    rw [← hlen, pcs_len]
    have h2 := List.count_le_length (a := (32 : UInt8)) (l := s.data.toList)
    have h3 : s.data.toList.length = s.size := by simp
    omega
  rw [hwd, hlen] at HSP
  have hwl := wrd_len s
  have hwz := wrd_sz s
  obtain ⟨W, hW⟩ : ∃ x, wrdS s = x := ⟨_, rfl⟩
  have HWW := Lib.hid hW
  rw [hW] at HSP hwl hwz hnz hE hk
  obtain ⟨nw, hnw⟩ : ∃ x, W.length = x := ⟨_, rfl⟩
  have HNW := Lib.hid hnw
  rw [hnw] at HSP hwl hnz
  have HZ := Lib.hid (fun x hx => Nat.le_trans (hwz x hx) hs)
  obtain ⟨hBr, hok, A, c, FA, FC, hh, hK⟩ := hf
  obtain ⟨⟨m, q, ks, hd, tl, ct, sm⟩, bg, en⟩ := st
  unfold rrC at hh
  simp only at hh hK hok hen hbg ⊢
  subst hen; subst hbg
  obtain ⟨nk, hnk⟩ : ∃ x, ks.length = x := ⟨_, rfl⟩
  have HNK := Lib.hid hnk
  rw [hnk] at hh
  have HOW := Lib.hid (show O = wordsF ⟨⟨m, q, ks, hd, tl, ct, sm⟩, true, false⟩ (wd W 0) W.tail by
    rw [← HO.out]
    unfold lineF
    rw [HWW.out, if_neg (fun h => h.elim (fun h => by rw [hE] at h; cases h) (fun h => by cases h))])
  have HHr := Lib.hid (heap_old hh (.cells (W.map Value.string).toArray 9))
  have HKK := Lib.hid (hK.keep (fun g cs hh => heap_old hh (.cells (W.map Value.string).toArray 9)) (fun g cs hh => heap_old hh (.cells (W.map Value.string).toArray 9)))
  have hBw : B ≤ w.heap.size := by have := lt_heap hh; omega
  have hrg : r < w.heap.size := lt_heap hh
  have HOK := Lib.hid hok
  have HX := Lib.hid (heap_new w (.cells (W.map Value.string).toArray 9) rfl)
  have HB1 : Hid (Below B w (w.alloc (.cells (W.map Value.string).toArray 9))) := Lib.hid ((Below.refl B w).alloc hBw _)
  have HCT := Lib.hid (contains_c w.heap.size nw W (w.alloc (.cells (W.map Value.string).toArray 9)) hnw hnz HX.out)
  rw [hE] at HCT
  clear hO hm0 hlen hwd hW hnw hwz hh hK hok hE hnk
  go_enter Tryz.func15, Tryz.ntmps15
  go_wp2_with fail
  refine HSP.out.mono ?_
  rintro e w1 ⟨rfl, rfl⟩
  generalize w.alloc (.cells (W.map Value.string).toArray 9) = w1 at HX HHr HKK HB1 HCT ⊢
  obtain ⟨gx, hgx⟩ : ∃ x, w.heap.size = x := ⟨_, rfl⟩
  rw [hgx] at HX HCT hBw hrg ⊢
  clear HSP hgx
  have hgz : gx < w1.heap.size := lt_heap HX.out
  go_wp2_with fail
  refine HCT.out.mono ?_
  rintro e w2 ⟨rfl, rfl⟩
  clear HCT
  obtain ⟨⟨g0, g1, g2, g3, g4, g5, g6, g7⟩, ⟨z0, z1, z2, z3, z4, z5, z6, z7⟩, hlt⟩ := obox8f HHr.out
  obtain ⟨x0, hx0⟩ : ∃ x, wd W 0 = x := ⟨_, rfl⟩
  have HX0 := Lib.hid hx0
  clear hx0
  obtain ⟨x1, hx1⟩ : ∃ x, wd W 1 = x := ⟨_, rfl⟩
  have HX1 := Lib.hid hx1
  clear hx1
  obtain ⟨x2, hx2⟩ : ∃ x, wd W 2 = x := ⟨_, rfl⟩
  have HX2 := Lib.hid hx2
  clear hx2
  obtain ⟨x3, hx3⟩ : ∃ x, wd W 3 = x := ⟨_, rfl⟩
  have HX3 := Lib.hid hx3
  clear hx3
  obtain ⟨x4, hx4⟩ : ∃ x, wd W 4 = x := ⟨_, rfl⟩
  have HX4 := Lib.hid hx4
  clear hx4
  have l0 : w1.cell? ⟨gx, 0, none⟩ = some (.string x0) := by
    have := sts_at (sts_new HX.out) (j := 0) (by rw [HNW.out]; omega)
    rw [HX0.out] at this
    simpa using this
  have e0 : (x0.toList == [107, 105, 110, 100]) = false := by rw [lit_dec]; exact decide_eq_false (by rw [← HX0.out, hk]; decide)
  have e1 : (x0.toList == [101, 110, 100, 115]) = true := by rw [lit_dec]; exact decide_eq_true (by rw [← HX0.out]; exact hk)
  have HL := Lib.hid (show W.tail.length = nw - 1 by rw [List.length_tail, HNW.out])
  have HF := Lib.hid (show O = if W.tail.length = 4 then some ⟨⟨m, q, ks, undS x1, undS x2, undS x3, undS x4⟩, true, true⟩ else none by
    rw [HOW.out]; unfold wordsF; rw [if_neg (by simp), if_neg (by rw [hk]; decide), if_pos hk, wd_tail, wd_tail, wd_tail, wd_tail, HX1.out, HX2.out, HX3.out, HX4.out])
  clear hk
  by_cases h5 : nw = 5
  case neg =>
    have h5b : ¬ (nw : Int) = 5 := by omega
    have h5a : ((nw : Int) == 5) = false := by simpa using h5b
    have HOn := Lib.hid (show O = none by rw [HF.out]; exact if_neg (fun k => by have h5 := HL.out; omega))
    clear h5
    go_wp2
    go_ret
    exact RetRL.no HOn.out HB1.out
  subst h5
  have l1 : w1.cell? ⟨gx, 1, none⟩ = some (.string x1) := by
    have := sts_at (sts_new HX.out) (j := 1) (by rw [HNW.out]; omega)
    rw [HX1.out] at this
    simpa using this
  have l2 : w1.cell? ⟨gx, 2, none⟩ = some (.string x2) := by
    have := sts_at (sts_new HX.out) (j := 2) (by rw [HNW.out]; omega)
    rw [HX2.out] at this
    simpa using this
  have l3 : w1.cell? ⟨gx, 3, none⟩ = some (.string x3) := by
    have := sts_at (sts_new HX.out) (j := 3) (by rw [HNW.out]; omega)
    rw [HX3.out] at this
    simpa using this
  have l4 : w1.cell? ⟨gx, 4, none⟩ = some (.string x4) := by
    have := sts_at (sts_new HX.out) (j := 4) (by rw [HNW.out]; omega)
    rw [HX4.out] at this
    simpa using this
  have hxr : gx ≠ r := by omega
  have hBA := Lib.hid bare_c
  go_upto_region 23 with fail
  refine region_till 39 (fun w' => w'.cell? ⟨gx, 1, none⟩ = some (.string x1) ∧ w'.cell? ⟨gx, 2, none⟩ = some (.string x2) ∧ w'.cell? ⟨gx, 3, none⟩ = some (.string x3) ∧ w'.cell? ⟨gx, 4, none⟩ = some (.string x4)) (by kernel_rfl) ?_
  have hT : (fun w' : World => w'.cell? ⟨gx, 1, none⟩ = some (.string x1) ∧ w'.cell? ⟨gx, 2, none⟩ = some (.string x2) ∧ w'.cell? ⟨gx, 3, none⟩ = some (.string x3) ∧ w'.cell? ⟨gx, 4, none⟩ = some (.string x4)) w1.drew := ⟨l1, l2, l3, l4⟩
  refine Till.take (i := 0) (v := ?_) rfl (by kernel_rfl) (by kernel_rfl) (by kernel_rfl) [21, 22, 23, 24, 28, 32, 36] (by kernel_rfl) (by decide) (by kernel_rfl) (by kernel_rfl) (fun _ _ _ h => h) hT (Or.inl ⟨by rfl, ?_⟩) ?_
  rotate_left
  · (intro w' hw'; obtain ⟨u1, u2, u3, u4⟩ := hw'; go_simp; try with_reducible rfl)
  (try simp only [Act.put, List.setIfInBounds_toArray, List.set_cons_zero, List.set_cons_succ])
  refine Till.take (i := 1) (v := ?_) rfl (by kernel_rfl) (by kernel_rfl) (by kernel_rfl) [25, 26, 27, 28, 32, 36] (by kernel_rfl) (by decide) (by kernel_rfl) (by kernel_rfl) (fun _ _ _ h => h) hT (Or.inl ⟨by rfl, ?_⟩) ?_
  rotate_left
  · (intro w' hw'; obtain ⟨u1, u2, u3, u4⟩ := hw'; go_simp; try with_reducible rfl)
  (try simp only [Act.put, List.setIfInBounds_toArray, List.set_cons_zero, List.set_cons_succ])
  refine Till.take (i := 2) (v := ?_) rfl (by kernel_rfl) (by kernel_rfl) (by kernel_rfl) [29, 30, 31, 32, 36] (by kernel_rfl) (by decide) (by kernel_rfl) (by kernel_rfl) (fun _ _ _ h => h) hT (Or.inl ⟨by rfl, ?_⟩) ?_
  rotate_left
  · (intro w' hw'; obtain ⟨u1, u2, u3, u4⟩ := hw'; go_simp; try with_reducible rfl)
  (try simp only [Act.put, List.setIfInBounds_toArray, List.set_cons_zero, List.set_cons_succ])
  refine Till.take (i := 3) (v := ?_) rfl (by kernel_rfl) (by kernel_rfl) (by kernel_rfl) [33, 34, 35, 36] (by kernel_rfl) (by decide) (by kernel_rfl) (by kernel_rfl) (fun _ _ _ h => h) hT (Or.inl ⟨by rfl, ?_⟩) ?_
  rotate_left
  · (intro w' hw'; obtain ⟨u1, u2, u3, u4⟩ := hw'; go_simp; try with_reducible rfl)
  (try simp only [Act.put, List.setIfInBounds_toArray, List.set_cons_zero, List.set_cons_succ])
  refine Till.take (i := 4) (v := ?_) rfl (by kernel_rfl) (by kernel_rfl) (by kernel_rfl) [37, 38] (by kernel_rfl) (by decide) (by kernel_rfl) (by kernel_rfl) (fun _ _ _ h => h) hT (Or.inl ⟨by rfl, ?_⟩) ?_
  rotate_left
  · (intro w' hw'; obtain ⟨u1, u2, u3, u4⟩ := hw'; go_simp; try with_reducible rfl)
  (try simp only [Act.put, List.setIfInBounds_toArray, List.set_cons_zero, List.set_cons_succ])
  refine Till.take (i := 5) (v := ?_) rfl (by kernel_rfl) (by kernel_rfl) (by kernel_rfl) [6, 7, 8, 12, 16, 20, 24, 28, 32, 36] (by kernel_rfl) (by decide) (by kernel_rfl) (by kernel_rfl) (fun _ _ _ h => h) hT (Or.inl ⟨by rfl, ?_⟩) ?_
  rotate_left
  · (intro w' hw'; obtain ⟨u1, u2, u3, u4⟩ := hw'; go_simp; try with_reducible rfl)
  (try simp only [Act.put, List.setIfInBounds_toArray, List.set_cons_zero, List.set_cons_succ])
  refine Till.take (i := 6) (v := ?_) rfl (by kernel_rfl) (by kernel_rfl) (by kernel_rfl) [7, 8, 12, 16, 20, 24, 28, 32, 36] (by kernel_rfl) (by decide) (by kernel_rfl) (by kernel_rfl) (fun _ _ _ h => h) hT (Or.inl ⟨by rfl, ?_⟩) ?_
  rotate_left
  · (intro w' hw'; obtain ⟨u1, u2, u3, u4⟩ := hw'; go_simp; try with_reducible rfl)
  (try simp only [Act.put, List.setIfInBounds_toArray, List.set_cons_zero, List.set_cons_succ])
  refine Till.take (i := 7) (v := ?_) rfl (by kernel_rfl) (by kernel_rfl) (by kernel_rfl) [8, 12, 16, 20, 24, 28, 32, 36] (by kernel_rfl) (by decide) (by kernel_rfl) (by kernel_rfl) (fun _ _ _ h => h) hT (Or.inl ⟨by rfl, ?_⟩) ?_
  rotate_left
  · (intro w' hw'; obtain ⟨u1, u2, u3, u4⟩ := hw'; go_simp; try with_reducible rfl)
  (try simp only [Act.put, List.setIfInBounds_toArray, List.set_cons_zero, List.set_cons_succ])
  refine Till.take (i := 9) (v := ?_) rfl (by kernel_rfl) (by kernel_rfl) (by kernel_rfl) [10, 11, 12, 16, 20, 24, 28, 32, 36] (by kernel_rfl) (by decide) (by kernel_rfl) (by kernel_rfl) (fun _ _ _ h => h) hT (Or.inl ⟨by rfl, ?_⟩) ?_
  rotate_left
  · (intro w' hw'; obtain ⟨u1, u2, u3, u4⟩ := hw'; go_simp; try with_reducible rfl)
  (try simp only [Act.put, List.setIfInBounds_toArray, List.set_cons_zero, List.set_cons_succ])
  refine Till.take (i := 10) (v := ?_) rfl (by kernel_rfl) (by kernel_rfl) (by kernel_rfl) [11, 12, 16, 20, 24, 28, 32, 36] (by kernel_rfl) (by decide) (by kernel_rfl) (by kernel_rfl) (fun _ _ _ h => h) hT (Or.inl ⟨by rfl, ?_⟩) ?_
  rotate_left
  · (intro w' hw'; obtain ⟨u1, u2, u3, u4⟩ := hw'; go_simp; try with_reducible rfl)
  (try simp only [Act.put, List.setIfInBounds_toArray, List.set_cons_zero, List.set_cons_succ])
  refine Till.take (i := 11) (v := ?_) rfl (by kernel_rfl) (by kernel_rfl) (by kernel_rfl) [12, 16, 20, 24, 28, 32, 36] (by kernel_rfl) (by decide) (by kernel_rfl) (by kernel_rfl) (fun _ _ _ h => h) hT (Or.inl ⟨by rfl, ?_⟩) ?_
  rotate_left
  · (intro w' hw'; obtain ⟨u1, u2, u3, u4⟩ := hw'; go_simp; try with_reducible rfl)
  (try simp only [Act.put, List.setIfInBounds_toArray, List.set_cons_zero, List.set_cons_succ])
  refine Till.take (i := 13) (v := ?_) rfl (by kernel_rfl) (by kernel_rfl) (by kernel_rfl) [14, 15, 16, 20, 24, 28, 32, 36] (by kernel_rfl) (by decide) (by kernel_rfl) (by kernel_rfl) (fun _ _ _ h => h) hT (Or.inl ⟨by rfl, ?_⟩) ?_
  rotate_left
  · (intro w' hw'; obtain ⟨u1, u2, u3, u4⟩ := hw'; go_simp; try with_reducible rfl)
  (try simp only [Act.put, List.setIfInBounds_toArray, List.set_cons_zero, List.set_cons_succ])
  refine Till.take (i := 14) (v := ?_) rfl (by kernel_rfl) (by kernel_rfl) (by kernel_rfl) [15, 16, 20, 24, 28, 32, 36] (by kernel_rfl) (by decide) (by kernel_rfl) (by kernel_rfl) (fun _ _ _ h => h) hT (Or.inl ⟨by rfl, ?_⟩) ?_
  rotate_left
  · (intro w' hw'; obtain ⟨u1, u2, u3, u4⟩ := hw'; go_simp; try with_reducible rfl)
  (try simp only [Act.put, List.setIfInBounds_toArray, List.set_cons_zero, List.set_cons_succ])
  refine Till.take (i := 15) (v := ?_) rfl (by kernel_rfl) (by kernel_rfl) (by kernel_rfl) [16, 20, 24, 28, 32, 36] (by kernel_rfl) (by decide) (by kernel_rfl) (by kernel_rfl) (fun _ _ _ h => h) hT (Or.inl ⟨by rfl, ?_⟩) ?_
  rotate_left
  · (intro w' hw'; obtain ⟨u1, u2, u3, u4⟩ := hw'; go_simp; try with_reducible rfl)
  (try simp only [Act.put, List.setIfInBounds_toArray, List.set_cons_zero, List.set_cons_succ])
  refine Till.take (i := 17) (v := ?_) rfl (by kernel_rfl) (by kernel_rfl) (by kernel_rfl) [18, 19, 20, 24, 28, 32, 36] (by kernel_rfl) (by decide) (by kernel_rfl) (by kernel_rfl) (fun _ _ _ h => h) hT (Or.inl ⟨by rfl, ?_⟩) ?_
  rotate_left
  · (intro w' hw'; obtain ⟨u1, u2, u3, u4⟩ := hw'; go_simp; try with_reducible rfl)
  (try simp only [Act.put, List.setIfInBounds_toArray, List.set_cons_zero, List.set_cons_succ])
  refine Till.take (i := 18) (v := ?_) rfl (by kernel_rfl) (by kernel_rfl) (by kernel_rfl) [19, 20, 24, 28, 32, 36] (by kernel_rfl) (by decide) (by kernel_rfl) (by kernel_rfl) (fun _ _ _ h => h) hT (Or.inl ⟨by rfl, ?_⟩) ?_
  rotate_left
  · (intro w' hw'; obtain ⟨u1, u2, u3, u4⟩ := hw'; go_simp; try with_reducible rfl)
  (try simp only [Act.put, List.setIfInBounds_toArray, List.set_cons_zero, List.set_cons_succ])
  refine Till.take (i := 19) (v := ?_) rfl (by kernel_rfl) (by kernel_rfl) (by kernel_rfl) [20, 24, 28, 32, 36] (by kernel_rfl) (by decide) (by kernel_rfl) (by kernel_rfl) (fun _ _ _ h => h) hT (Or.inl ⟨by rfl, ?_⟩) ?_
  rotate_left
  · (intro w' hw'; obtain ⟨u1, u2, u3, u4⟩ := hw'; go_simp; try with_reducible rfl)
  (try simp only [Act.put, List.setIfInBounds_toArray, List.set_cons_zero, List.set_cons_succ])
  refine Till.step (i := 8) (by kernel_rfl) rfl ?_
  intro K hK
  go_simp
  (go_at_call 43; refine (bare_c _ _).mono ?_; rintro e wD ⟨eD, rfl⟩; subst eD)
  have hT : (fun w' : World => w'.cell? ⟨gx, 1, none⟩ = some (.string x1) ∧ w'.cell? ⟨gx, 2, none⟩ = some (.string x2) ∧ w'.cell? ⟨gx, 3, none⟩ = some (.string x3) ∧ w'.cell? ⟨gx, 4, none⟩ = some (.string x4)) w1.drew := ⟨l1, l2, l3, l4⟩
  refine hK.out _ _ (fun _ => hT) ?_
  clear hK K
  (try simp only [Act.put, List.setIfInBounds_toArray, List.set_cons_zero, List.set_cons_succ])
  refine Till.step (i := 12) (by kernel_rfl) rfl ?_
  intro K hK
  go_simp
  (go_at_call 43; refine (bare_c _ _).mono ?_; rintro e wD ⟨eD, rfl⟩; subst eD)
  have hT : (fun w' : World => w'.cell? ⟨gx, 1, none⟩ = some (.string x1) ∧ w'.cell? ⟨gx, 2, none⟩ = some (.string x2) ∧ w'.cell? ⟨gx, 3, none⟩ = some (.string x3) ∧ w'.cell? ⟨gx, 4, none⟩ = some (.string x4)) w1.drew := ⟨l1, l2, l3, l4⟩
  refine hK.out _ _ (fun _ => hT) ?_
  clear hK K
  (try simp only [Act.put, List.setIfInBounds_toArray, List.set_cons_zero, List.set_cons_succ])
  refine Till.step (i := 16) (by kernel_rfl) rfl ?_
  intro K hK
  go_simp
  (go_at_call 43; refine (bare_c _ _).mono ?_; rintro e wD ⟨eD, rfl⟩; subst eD)
  have hT : (fun w' : World => w'.cell? ⟨gx, 1, none⟩ = some (.string x1) ∧ w'.cell? ⟨gx, 2, none⟩ = some (.string x2) ∧ w'.cell? ⟨gx, 3, none⟩ = some (.string x3) ∧ w'.cell? ⟨gx, 4, none⟩ = some (.string x4)) w1.drew := ⟨l1, l2, l3, l4⟩
  refine hK.out _ _ (fun _ => hT) ?_
  clear hK K
  (try simp only [Act.put, List.setIfInBounds_toArray, List.set_cons_zero, List.set_cons_succ])
  refine Till.step (i := 20) (by kernel_rfl) rfl ?_
  intro K hK
  go_simp
  (go_at_call 43; refine (bare_c _ _).mono ?_; rintro e wD ⟨eD, rfl⟩; subst eD)
  have hT : (fun w' : World => w'.cell? ⟨gx, 1, none⟩ = some (.string x1) ∧ w'.cell? ⟨gx, 2, none⟩ = some (.string x2) ∧ w'.cell? ⟨gx, 3, none⟩ = some (.string x3) ∧ w'.cell? ⟨gx, 4, none⟩ = some (.string x4)) w1.drew := ⟨l1, l2, l3, l4⟩
  refine hK.out _ _ (fun _ => hT) ?_
  clear hK K
  (try simp only [Act.put, List.setIfInBounds_toArray, List.set_cons_zero, List.set_cons_succ])
  refine Till.take (i := 21) (v := ?_) rfl (by kernel_rfl) (by kernel_rfl) (by kernel_rfl) [22, 23, 24, 28, 32, 36] (by kernel_rfl) (by decide) (by kernel_rfl) (by kernel_rfl) (fun _ _ _ h => h) hT (Or.inl ⟨by rfl, ?_⟩) ?_
  rotate_left
  · (intro w' hw'; obtain ⟨u1, u2, u3, u4⟩ := hw'; go_simp; try with_reducible rfl)
  (try simp only [Act.put, List.setIfInBounds_toArray, List.set_cons_zero, List.set_cons_succ])
  refine Till.take (i := 22) (v := ?_) rfl (by kernel_rfl) (by kernel_rfl) (by kernel_rfl) [23, 24, 28, 32, 36] (by kernel_rfl) (by decide) (by kernel_rfl) (by kernel_rfl) (fun _ _ _ h => h) hT (Or.inl ⟨by rfl, ?_⟩) ?_
  rotate_left
  · (intro w' hw'; obtain ⟨u1, u2, u3, u4⟩ := hw'; go_simp; try with_reducible rfl)
  (try simp only [Act.put, List.setIfInBounds_toArray, List.set_cons_zero, List.set_cons_succ])
  refine Till.take (i := 23) (v := ?_) rfl (by kernel_rfl) (by kernel_rfl) (by kernel_rfl) [24, 28, 32, 36] (by kernel_rfl) (by decide) (by kernel_rfl) (by kernel_rfl) (fun _ _ _ h => h) hT (Or.inl ⟨by rfl, ?_⟩) ?_
  rotate_left
  · (intro w' hw'; obtain ⟨u1, u2, u3, u4⟩ := hw'; go_simp; try with_reducible rfl)
  (try simp only [Act.put, List.setIfInBounds_toArray, List.set_cons_zero, List.set_cons_succ])
  refine Till.step (i := 24) (by kernel_rfl) rfl ?_
  intro K hK
  go_simp
  have hT : (fun w' : World => w'.cell? ⟨gx, 1, none⟩ = some (.string x1) ∧ w'.cell? ⟨gx, 2, none⟩ = some (.string x2) ∧ w'.cell? ⟨gx, 3, none⟩ = some (.string x3) ∧ w'.cell? ⟨gx, 4, none⟩ = some (.string x4)) (w1.drew.setCell ⟨r, 3, none⟩ (.string (undS x1))) := by
    refine ⟨?_, ?_, ?_, ?_⟩
    · (repeat (with_reducible refine cell_farS hxr ?_)); exact l1
    · (repeat (with_reducible refine cell_farS hxr ?_)); exact l2
    · (repeat (with_reducible refine cell_farS hxr ?_)); exact l3
    · (repeat (with_reducible refine cell_farS hxr ?_)); exact l4
  refine hK.out _ _ (fun _ => hT) ?_
  clear hK K
  (try simp only [Act.put, List.setIfInBounds_toArray, List.set_cons_zero, List.set_cons_succ])
  refine Till.take (i := 25) (v := ?_) rfl (by kernel_rfl) (by kernel_rfl) (by kernel_rfl) [26, 27, 28, 32, 36] (by kernel_rfl) (by decide) (by kernel_rfl) (by kernel_rfl) (fun _ _ _ h => h) hT (Or.inl ⟨by rfl, ?_⟩) ?_
  rotate_left
  · (intro w' hw'; obtain ⟨u1, u2, u3, u4⟩ := hw'; go_simp; try with_reducible rfl)
  (try simp only [Act.put, List.setIfInBounds_toArray, List.set_cons_zero, List.set_cons_succ])
  refine Till.take (i := 26) (v := ?_) rfl (by kernel_rfl) (by kernel_rfl) (by kernel_rfl) [27, 28, 32, 36] (by kernel_rfl) (by decide) (by kernel_rfl) (by kernel_rfl) (fun _ _ _ h => h) hT (Or.inl ⟨by rfl, ?_⟩) ?_
  rotate_left
  · (intro w' hw'; obtain ⟨u1, u2, u3, u4⟩ := hw'; go_simp; try with_reducible rfl)
  (try simp only [Act.put, List.setIfInBounds_toArray, List.set_cons_zero, List.set_cons_succ])
  refine Till.take (i := 27) (v := ?_) rfl (by kernel_rfl) (by kernel_rfl) (by kernel_rfl) [28, 32, 36] (by kernel_rfl) (by decide) (by kernel_rfl) (by kernel_rfl) (fun _ _ _ h => h) hT (Or.inl ⟨by rfl, ?_⟩) ?_
  rotate_left
  · (intro w' hw'; obtain ⟨u1, u2, u3, u4⟩ := hw'; go_simp; try with_reducible rfl)
  (try simp only [Act.put, List.setIfInBounds_toArray, List.set_cons_zero, List.set_cons_succ])
  refine Till.step (i := 28) (by kernel_rfl) rfl ?_
  intro K hK
  go_simp
  have hT : (fun w' : World => w'.cell? ⟨gx, 1, none⟩ = some (.string x1) ∧ w'.cell? ⟨gx, 2, none⟩ = some (.string x2) ∧ w'.cell? ⟨gx, 3, none⟩ = some (.string x3) ∧ w'.cell? ⟨gx, 4, none⟩ = some (.string x4)) ((w1.drew.setCell ⟨r, 3, none⟩ (.string (undS x1))).setCell ⟨r, 4, none⟩ (.string (undS x2))) := by
    refine ⟨?_, ?_, ?_, ?_⟩
    · (repeat (with_reducible refine cell_farS hxr ?_)); exact l1
    · (repeat (with_reducible refine cell_farS hxr ?_)); exact l2
    · (repeat (with_reducible refine cell_farS hxr ?_)); exact l3
    · (repeat (with_reducible refine cell_farS hxr ?_)); exact l4
  refine hK.out _ _ (fun _ => hT) ?_
  clear hK K
  (try simp only [Act.put, List.setIfInBounds_toArray, List.set_cons_zero, List.set_cons_succ])
  refine Till.take (i := 29) (v := ?_) rfl (by kernel_rfl) (by kernel_rfl) (by kernel_rfl) [30, 31, 32, 36] (by kernel_rfl) (by decide) (by kernel_rfl) (by kernel_rfl) (fun _ _ _ h => h) hT (Or.inl ⟨by rfl, ?_⟩) ?_
  rotate_left
  · (intro w' hw'; obtain ⟨u1, u2, u3, u4⟩ := hw'; go_simp; try with_reducible rfl)
  (try simp only [Act.put, List.setIfInBounds_toArray, List.set_cons_zero, List.set_cons_succ])
  refine Till.take (i := 30) (v := ?_) rfl (by kernel_rfl) (by kernel_rfl) (by kernel_rfl) [31, 32, 36] (by kernel_rfl) (by decide) (by kernel_rfl) (by kernel_rfl) (fun _ _ _ h => h) hT (Or.inl ⟨by rfl, ?_⟩) ?_
  rotate_left
  · (intro w' hw'; obtain ⟨u1, u2, u3, u4⟩ := hw'; go_simp; try with_reducible rfl)
  (try simp only [Act.put, List.setIfInBounds_toArray, List.set_cons_zero, List.set_cons_succ])
  refine Till.take (i := 31) (v := ?_) rfl (by kernel_rfl) (by kernel_rfl) (by kernel_rfl) [32, 36] (by kernel_rfl) (by decide) (by kernel_rfl) (by kernel_rfl) (fun _ _ _ h => h) hT (Or.inl ⟨by rfl, ?_⟩) ?_
  rotate_left
  · (intro w' hw'; obtain ⟨u1, u2, u3, u4⟩ := hw'; go_simp; try with_reducible rfl)
  (try simp only [Act.put, List.setIfInBounds_toArray, List.set_cons_zero, List.set_cons_succ])
  refine Till.step (i := 32) (by kernel_rfl) rfl ?_
  intro K hK
  go_simp
  have hT : (fun w' : World => w'.cell? ⟨gx, 1, none⟩ = some (.string x1) ∧ w'.cell? ⟨gx, 2, none⟩ = some (.string x2) ∧ w'.cell? ⟨gx, 3, none⟩ = some (.string x3) ∧ w'.cell? ⟨gx, 4, none⟩ = some (.string x4)) (((w1.drew.setCell ⟨r, 3, none⟩ (.string (undS x1))).setCell ⟨r, 4, none⟩ (.string (undS x2))).setCell ⟨r, 5, none⟩ (.string (undS x3))) := by
    refine ⟨?_, ?_, ?_, ?_⟩
    · (repeat (with_reducible refine cell_farS hxr ?_)); exact l1
    · (repeat (with_reducible refine cell_farS hxr ?_)); exact l2
    · (repeat (with_reducible refine cell_farS hxr ?_)); exact l3
    · (repeat (with_reducible refine cell_farS hxr ?_)); exact l4
  refine hK.out _ _ (fun _ => hT) ?_
  clear hK K
  (try simp only [Act.put, List.setIfInBounds_toArray, List.set_cons_zero, List.set_cons_succ])
  refine Till.take (i := 33) (v := ?_) rfl (by kernel_rfl) (by kernel_rfl) (by kernel_rfl) [34, 35, 36] (by kernel_rfl) (by decide) (by kernel_rfl) (by kernel_rfl) (fun _ _ _ h => h) hT (Or.inl ⟨by rfl, ?_⟩) ?_
  rotate_left
  · (intro w' hw'; obtain ⟨u1, u2, u3, u4⟩ := hw'; go_simp; try with_reducible rfl)
  (try simp only [Act.put, List.setIfInBounds_toArray, List.set_cons_zero, List.set_cons_succ])
  refine Till.take (i := 34) (v := ?_) rfl (by kernel_rfl) (by kernel_rfl) (by kernel_rfl) [35, 36] (by kernel_rfl) (by decide) (by kernel_rfl) (by kernel_rfl) (fun _ _ _ h => h) hT (Or.inl ⟨by rfl, ?_⟩) ?_
  rotate_left
  · (intro w' hw'; obtain ⟨u1, u2, u3, u4⟩ := hw'; go_simp; try with_reducible rfl)
  (try simp only [Act.put, List.setIfInBounds_toArray, List.set_cons_zero, List.set_cons_succ])
  refine Till.take (i := 35) (v := ?_) rfl (by kernel_rfl) (by kernel_rfl) (by kernel_rfl) [36] (by kernel_rfl) (by decide) (by kernel_rfl) (by kernel_rfl) (fun _ _ _ h => h) hT (Or.inl ⟨by rfl, ?_⟩) ?_
  rotate_left
  · (intro w' hw'; obtain ⟨u1, u2, u3, u4⟩ := hw'; go_simp; try with_reducible rfl)
  (try simp only [Act.put, List.setIfInBounds_toArray, List.set_cons_zero, List.set_cons_succ])
  refine Till.step (i := 36) (by kernel_rfl) rfl ?_
  intro K hK
  go_simp
  have hT : (fun w' : World => w'.cell? ⟨gx, 1, none⟩ = some (.string x1) ∧ w'.cell? ⟨gx, 2, none⟩ = some (.string x2) ∧ w'.cell? ⟨gx, 3, none⟩ = some (.string x3) ∧ w'.cell? ⟨gx, 4, none⟩ = some (.string x4)) ((((w1.drew.setCell ⟨r, 3, none⟩ (.string (undS x1))).setCell ⟨r, 4, none⟩ (.string (undS x2))).setCell ⟨r, 5, none⟩ (.string (undS x3))).setCell ⟨r, 6, none⟩ (.string (undS x4))) := by
    refine ⟨?_, ?_, ?_, ?_⟩
    · (repeat (with_reducible refine cell_farS hxr ?_)); exact l1
    · (repeat (with_reducible refine cell_farS hxr ?_)); exact l2
    · (repeat (with_reducible refine cell_farS hxr ?_)); exact l3
    · (repeat (with_reducible refine cell_farS hxr ?_)); exact l4
  refine hK.out _ _ (fun _ => hT) ?_
  clear hK K
  (try simp only [Act.put, List.setIfInBounds_toArray, List.set_cons_zero, List.set_cons_succ])
  refine Till.take (i := 37) (v := ?_) rfl (by kernel_rfl) (by kernel_rfl) (by kernel_rfl) [38] (by kernel_rfl) (by decide) (by kernel_rfl) (by kernel_rfl) (fun _ _ _ h => h) hT (Or.inl ⟨by rfl, ?_⟩) ?_
  rotate_left
  · (intro w' hw'; obtain ⟨u1, u2, u3, u4⟩ := hw'; go_simp; try with_reducible rfl)
  (try simp only [Act.put, List.setIfInBounds_toArray, List.set_cons_zero, List.set_cons_succ])
  refine Till.take (i := 38) (v := ?_) rfl (by kernel_rfl) (by kernel_rfl) (by kernel_rfl) [] (by kernel_rfl) (by decide) (by kernel_rfl) (by kernel_rfl) (fun _ _ _ h => h) hT (Or.inl ⟨by rfl, ?_⟩) ?_
  rotate_left
  · (intro w' hw'; obtain ⟨u1, u2, u3, u4⟩ := hw'; go_simp; try with_reducible rfl)
  (try simp only [Act.put, List.setIfInBounds_toArray, List.set_cons_zero, List.set_cons_succ])
  refine Till.step (i := 39) (by kernel_rfl) rfl ?_
  intro K hK
  go_simp
  refine hK.out _ _ (fun h => absurd h (by decide)) ?_
  clear hK K
  (try simp only [Act.put, List.setIfInBounds_toArray, List.set_cons_zero, List.set_cons_succ])
  refine Till.done (by kernel_rfl) ?_ _
  have HHn := HHr; have HKn := HKK; have HBn := HB1; have HXn := HX
  have HKn := Lib.hid (HKn.out.setT (i := 3) HHn.out (by decide) (by decide) (.string (undS x1)))
  have HXn := Lib.hid (heap_far HXn.out (p := ⟨r, 3, none⟩) hxr (.string (undS x1)))
  have HBn : Hid (Below B w (w1.setCell ⟨r, 3, none⟩ (.string (undS x1)))) := Lib.hid (HBn.out.setCell (p := ⟨r, 3, none⟩) hBr _)
  have HHn : Hid ((w1.setCell ⟨r, 3, none⟩ (.string (undS x1))).heap[r]? = some (.cells #[.int .u8 m, .int .u8 q, .slice A nk c, .string (undS x1), .string tl, .string ct, .string sm, .bool false] 42 (0, 0))) := Lib.hid (by have := heap_set HHn.out 3 (.string (undS x1)); simpa using this)
  have HKn := Lib.hid (HKn.out.setT (i := 4) HHn.out (by decide) (by decide) (.string (undS x2)))
  have HXn := Lib.hid (heap_far HXn.out (p := ⟨r, 4, none⟩) hxr (.string (undS x2)))
  have HBn : Hid (Below B w ((w1.setCell ⟨r, 3, none⟩ (.string (undS x1))).setCell ⟨r, 4, none⟩ (.string (undS x2)))) := Lib.hid (HBn.out.setCell (p := ⟨r, 4, none⟩) hBr _)
  have HHn : Hid (((w1.setCell ⟨r, 3, none⟩ (.string (undS x1))).setCell ⟨r, 4, none⟩ (.string (undS x2))).heap[r]? = some (.cells #[.int .u8 m, .int .u8 q, .slice A nk c, .string (undS x1), .string (undS x2), .string ct, .string sm, .bool false] 42 (0, 0))) := Lib.hid (by have := heap_set HHn.out 4 (.string (undS x2)); simpa using this)
  have HKn := Lib.hid (HKn.out.setT (i := 5) HHn.out (by decide) (by decide) (.string (undS x3)))
  have HXn := Lib.hid (heap_far HXn.out (p := ⟨r, 5, none⟩) hxr (.string (undS x3)))
  have HBn : Hid (Below B w (((w1.setCell ⟨r, 3, none⟩ (.string (undS x1))).setCell ⟨r, 4, none⟩ (.string (undS x2))).setCell ⟨r, 5, none⟩ (.string (undS x3)))) := Lib.hid (HBn.out.setCell (p := ⟨r, 5, none⟩) hBr _)
  have HHn : Hid ((((w1.setCell ⟨r, 3, none⟩ (.string (undS x1))).setCell ⟨r, 4, none⟩ (.string (undS x2))).setCell ⟨r, 5, none⟩ (.string (undS x3))).heap[r]? = some (.cells #[.int .u8 m, .int .u8 q, .slice A nk c, .string (undS x1), .string (undS x2), .string (undS x3), .string sm, .bool false] 42 (0, 0))) := Lib.hid (by have := heap_set HHn.out 5 (.string (undS x3)); simpa using this)
  have HKn := Lib.hid (HKn.out.setT (i := 6) HHn.out (by decide) (by decide) (.string (undS x4)))
  have HXn := Lib.hid (heap_far HXn.out (p := ⟨r, 6, none⟩) hxr (.string (undS x4)))
  have HBn : Hid (Below B w ((((w1.setCell ⟨r, 3, none⟩ (.string (undS x1))).setCell ⟨r, 4, none⟩ (.string (undS x2))).setCell ⟨r, 5, none⟩ (.string (undS x3))).setCell ⟨r, 6, none⟩ (.string (undS x4)))) := Lib.hid (HBn.out.setCell (p := ⟨r, 6, none⟩) hBr _)
  have HHn : Hid (((((w1.setCell ⟨r, 3, none⟩ (.string (undS x1))).setCell ⟨r, 4, none⟩ (.string (undS x2))).setCell ⟨r, 5, none⟩ (.string (undS x3))).setCell ⟨r, 6, none⟩ (.string (undS x4))).heap[r]? = some (.cells #[.int .u8 m, .int .u8 q, .slice A nk c, .string (undS x1), .string (undS x2), .string (undS x3), .string (undS x4), .bool false] 42 (0, 0))) := Lib.hid (by have := heap_set HHn.out 6 (.string (undS x4)); simpa using this)
  have HKn := Lib.hid (HKn.out.setT (i := 7) HHn.out (by decide) (by decide) (.bool true))
  have HXn := Lib.hid (heap_far HXn.out (p := ⟨r, 7, none⟩) hxr (.bool true))
  have HBn : Hid (Below B w (((((w1.setCell ⟨r, 3, none⟩ (.string (undS x1))).setCell ⟨r, 4, none⟩ (.string (undS x2))).setCell ⟨r, 5, none⟩ (.string (undS x3))).setCell ⟨r, 6, none⟩ (.string (undS x4))).setCell ⟨r, 7, none⟩ (.bool true))) := Lib.hid (HBn.out.setCell (p := ⟨r, 7, none⟩) hBr _)
  have HHn : Hid ((((((w1.setCell ⟨r, 3, none⟩ (.string (undS x1))).setCell ⟨r, 4, none⟩ (.string (undS x2))).setCell ⟨r, 5, none⟩ (.string (undS x3))).setCell ⟨r, 6, none⟩ (.string (undS x4))).setCell ⟨r, 7, none⟩ (.bool true)).heap[r]? = some (.cells #[.int .u8 m, .int .u8 q, .slice A nk c, .string (undS x1), .string (undS x2), .string (undS x3), .string (undS x4), .bool true] 42 (0, 0))) := Lib.hid (by have := heap_set HHn.out 7 (.bool true); simpa using this)
  clear g0 g1 g2 g3 g4 g5 g6 g7 z0 z1 z2 z3 z4 z5 z6 z7 hlt
  clear HHr HKK HB1 HX
  generalize hwg : ((((w1.setCell ⟨r, 3, none⟩ (.string (undS x1))).setCell ⟨r, 4, none⟩ (.string (undS x2))).setCell ⟨r, 5, none⟩ (.string (undS x3))).setCell ⟨r, 6, none⟩ (.string (undS x4))).setCell ⟨r, 7, none⟩ (.bool true) = w5 at HHn HKn HBn HXn ⊢
  have HHr := HHn; clear l1 l2 l3 l4
  have HKK := HKn; have HB1 := HBn; have HX := HXn
  clear HHn HKn HBn HXn
  have HHr := Lib.hid (show w5.drew.heap[r]? = some (.cells #[.int .u8 m, .int .u8 q, .slice A nk c, .string (undS x1), .string (undS x2), .string (undS x3), .string (undS x4), .bool true] 42 (0, 0)) from HHr.out)
  have HKK := Lib.hid (HKK.out.keep (w' := w5.drew) (fun g cs hh => hh) (fun g cs hh => hh))
  have HB1 : Hid (Below B w w5.drew) := Lib.hid (HB1.out.drew)
  clear hwg hT
  generalize w5.drew = w6 at HHr HKK HB1 ⊢
  go_wp2
  go_ret
  refine RetRL.mk ?_ (fun st' e => ?_) HB1.out
  · rw [HF.out, if_pos (by rw [HL.out])]; rfl
  · rw [HF.out, if_pos (by rw [HL.out])] at e
    injection e with e
    subst e
    refine ⟨hBr, (show FmtOk ⟨m, q, ks, undS x1, undS x2, undS x3, undS x4⟩ S N from ⟨HOK.out.1, HOK.out.2⟩).mono (by omega), A, c, FA, FC, ?_, HKK.out⟩
    unfold rrC
    simp only
    rw [HNK.out]
    exact HHr.out
end Go.Proofs.YtfgnollclmimnaaGreatDoor
