
/- The reference's line: a column. (Printed by genG9.py.) -/
import Derived.Test.YtfgnollclmimnaaGreatDoorG9
namespace Go.Proofs.YtfgnollclmimnaaGreatDoor
open Go.RowKit Limb Nmb Work
set_option linter.unusedVariables false
set_option linter.unusedSimpArgs false

set_option maxHeartbeats 4000000 in
set_option maxRecDepth 100000 in
theorem rline4_c (B r S N : Nat) (m0 : Int) (st : FSt) (s : ByteArray) (w : World) (hNN : N ≤ 1000000) (hS : S < 4294967281) (hs : s.size ≤ S) (hm0 : w.cell? ⟨0, 0, none⟩ = some (.int .i64 m0)) (hf : RR w B r S N st) (hE : (wrdS s).any (fun y => decide (y = eS)) = false) (hen : st.ended = false) (hbg : st.begun = true) (hk : ¬ wd (wrdS s) 0 = wKind) (hk2 : ¬ wd (wrdS s) 0 = wEnds) :
    Calls Tryz.prog 15 #[.pointer (some ⟨r, 0, none⟩), .string s, .bool false] w (RetRL (lineF st s) B r S (N + 1) w) := by
  obtain ⟨O, hO⟩ : ∃ o, lineF st s = o := ⟨_, rfl⟩
  rw [hO]
  have HO := Lib.hid hO
  have HSP := Lib.hid (split_c s 32 m0 w (by omega) hm0)
  have hlen : (pcs 32 s.data.toList).length = (wrdS s).length := by unfold wrdS; rw [List.length_map]
  have hwd : (pcs 32 s.data.toList).map bs = wrdS s := rfl
  have hnz : (wrdS s).length ≤ 9223372036854775807 := by
    rw [← hlen, pcs_len]
    have h2 := List.count_le_length (a := (32 : UInt8)) (l := s.data.toList)
    have h3 : s.data.toList.length = s.size := by simp
    omega
  rw [hwd, hlen] at HSP
  have hwl := wrd_len s
  have hwz := wrd_sz s
  obtain ⟨W, hW⟩ : ∃ x, wrdS s = x := ⟨_, rfl⟩
  have HWW := Lib.hid hW
  rw [hW] at HSP hwl hwz hnz hE hk hk2
  obtain ⟨nw, hnw⟩ : ∃ x, W.length = x := ⟨_, rfl⟩
  have HNW := Lib.hid hnw
  rw [hnw] at HSP hwl hnz
  have HZ := Lib.hid (fun x hx => Nat.le_trans (hwz x hx) hs)
  obtain ⟨hBr, hok, A, c, FA, FC, hh, hK⟩ := hf
  obtain ⟨⟨m, q, ks, hd, tl, ct, sm⟩, bg, en⟩ := st
  unfold rrC at hh
  simp only at hh hK hok hen hbg ⊢
  subst hen; subst hbg
  obtain ⟨nk, hnk⟩ : ∃ x, ks.length = x := ⟨_, rfl⟩
  have HNK := Lib.hid hnk
  rw [hnk] at hh
  have HOW := Lib.hid (show O = wordsF ⟨⟨m, q, ks, hd, tl, ct, sm⟩, true, false⟩ (wd W 0) W.tail by
    rw [← HO.out]
    unfold lineF
    rw [HWW.out, if_neg (fun h => h.elim (fun h => by rw [hE] at h; cases h) (fun h => by cases h))])
  have HHr := Lib.hid (heap_old hh (.cells (W.map Value.string).toArray 9))
  have HKK := Lib.hid (hK.keep (fun g cs hh => heap_old hh (.cells (W.map Value.string).toArray 9)) (fun g cs hh => heap_old hh (.cells (W.map Value.string).toArray 9)))
  have hBw : B ≤ w.heap.size := by have := lt_heap hh; omega
  have hrg : r < w.heap.size := lt_heap hh
  have HOK := Lib.hid hok
  have HX := Lib.hid (heap_new w (.cells (W.map Value.string).toArray 9) rfl)
  have HB1 : Hid (Below B w (w.alloc (.cells (W.map Value.string).toArray 9))) := Lib.hid ((Below.refl B w).alloc hBw _)
  have HCT := Lib.hid (contains_c w.heap.size nw W (w.alloc (.cells (W.map Value.string).toArray 9)) hnw hnz HX.out)
  rw [hE] at HCT
  clear hO hm0 hlen hwd hW hnw hwz hh hK hok hE hnk
  go_enter Tryz.func15, Tryz.ntmps15
  go_wp2_with fail
  refine HSP.out.mono ?_
  rintro e w1 ⟨rfl, rfl⟩
  generalize w.alloc (.cells (W.map Value.string).toArray 9) = w1 at HX HHr HKK HB1 HCT ⊢
  obtain ⟨gx, hgx⟩ : ∃ x, w.heap.size = x := ⟨_, rfl⟩
  rw [hgx] at HX HCT hBw hrg ⊢
  clear HSP hgx
  have hgz : gx < w1.heap.size := lt_heap HX.out
  go_wp2_with fail
  refine HCT.out.mono ?_
  rintro e w2 ⟨rfl, rfl⟩
  clear HCT
  obtain ⟨⟨g0, g1, g2, g3, g4, g5, g6, g7⟩, ⟨z0, z1, z2, z3, z4, z5, z6, z7⟩, hlt⟩ := obox8f HHr.out
  obtain ⟨x0, hx0⟩ : ∃ x, wd W 0 = x := ⟨_, rfl⟩
  have HX0 := Lib.hid hx0
  clear hx0
  have l0 : w1.cell? ⟨gx, 0, none⟩ = some (.string x0) := by
    have := sts_at (sts_new HX.out) (j := 0) (by rw [HNW.out]; omega)
    rw [HX0.out] at this
    simpa using this
  have e0 : (x0.toList == [107, 105, 110, 100]) = false := by rw [lit_dec]; exact decide_eq_false (by rw [← HX0.out]; exact hk)
  have e1 : (x0.toList == [101, 110, 100, 115]) = false := by rw [lit_dec]; exact decide_eq_false (by rw [← HX0.out]; exact hk2)
  have HL := Lib.hid (show W.tail.length = nw - 1 by rw [List.length_tail, HNW.out])
  have HF := Lib.hid (show O = if kindW (wd W 0) ≠ 0 ∧ ks ≠ [] ∧ colOk m (kindW (wd W 0)) W.tail = true then some ⟨⟨m, q, addCol ks (colW m (kindW (wd W 0)) W.tail), hd, tl, ct, sm⟩, true, false⟩ else none by
    rw [HOW.out]; unfold wordsF; rw [if_neg (by simp), if_neg hk, if_neg hk2])
  clear hk hk2
  by_cases hn0 : nk = 0
  · have hks : ks = [] := List.length_eq_zero_iff.1 (by rw [HNK.out]; exact hn0)
    have HOn := Lib.hid (show O = none by rw [HF.out]; exact if_neg (fun k => k.2.1 hks))
    have hn1 : ((nk : Int) == 0) = true := by rw [hn0]; rfl
    clear hks hn0
    go_wp2
    go_ret
    exact RetRL.no HOn.out HB1.out
  have hn1 : ((nk : Int) == 0) = false := by
    have : ¬ (nk : Int) = 0 := by omega
    simpa using this
  have HKS := Lib.hid (show ks ≠ [] from fun e => hn0 (by rw [← HNK.out, e]; rfl))
  have HRC := Lib.hid (rcolread_c ⟨m, q, ks, hd, tl, ct, sm⟩ A c S gx W w1 (by rw [HNW.out]; omega) (by rw [HNW.out]; exact hnz) HZ.out (by omega) HX.out)
  unfold fmtG at HRC
  simp only at HRC
  rw [HNK.out, HNW.out] at HRC
  go_wp2_with fail
  refine HRC.out.mono ?_
  rintro e w3 ⟨xc, ok, rfl, hok3, hcol3, hz3, hbx⟩
  have HOK3 := Lib.hid hok3; have HCOL3 := Lib.hid hcol3; have HZ3 := Lib.hid hz3
  obtain ⟨cnm, ckd, cwi, cpl, cfo, crt, cfi, cne⟩ := xc
  have HHn := Lib.hid (heap_below HHr.out hbx); have HKn := Lib.hid (HKK.out.keep (fun g cs hh => heap_below hh hbx) (fun g cs hh => heap_below hh hbx)); have HBn := Lib.hid (below_then hbx HB1.out (Nat.le_trans hBw (Nat.le_of_lt hgz)))
  have HB1B : B ≤ w3.heap.size := by have := hbx.size; omega
  clear g0 g1 g2 g3 g4 g5 g6 g7 z0 z1 z2 z3 z4 z5 z6 z7 hlt
  clear HHr HKK HX HB1 hbx hgz l0 hok3 hcol3 hz3 HRC
  have HHr := HHn; have HKK := HKn; have HB1 := HBn
  clear HHn HKn HBn
  obtain ⟨⟨g0, g1, g2, g3, g4, g5, g6, g7⟩, ⟨z0, z1, z2, z3, z4, z5, z6, z7⟩, hlt⟩ := obox8f HHr.out
  unfold colG
  go_upto_region 28 with fail
  have HC := Lib.hid (heap_new w3 (.cells #[.string cnm, .int .i64 ckd, .int .i64 cwi, .int .i64 cpl, .int .i64 cfo, .bool crt, .int .u8 cfi, .bool cne] 51) rfl)
  have hwc : Below w3.heap.size w3 (w3.alloc (.cells #[.string cnm, .int .i64 ckd, .int .i64 cwi, .int .i64 cpl, .int .i64 cfo, .bool crt, .int .u8 cfi, .bool cne] 51)) := by go_grown
  have HHn := Lib.hid (heap_below HHr.out hwc); have HKn := Lib.hid (HKK.out.keep (fun g cs hh => heap_below hh hwc) (fun g cs hh => heap_below hh hwc)); have HBn := Lib.hid (below_then hwc HB1.out HB1B)
  have HKO3 := HKK
  obtain ⟨CB, hCB⟩ : ∃ x, w3.heap.size = x := ⟨_, rfl⟩
  rw [hCB] at HC ⊢
  generalize w3.alloc (.cells #[.string cnm, .int .i64 ckd, .int .i64 cwi, .int .i64 cpl, .int .i64 cfo, .bool crt, .int .u8 cfi, .bool cne] 51) = w4 at HC HHn HKn HBn ⊢
  clear g0 g1 g2 g3 g4 g5 g6 g7 z0 z1 z2 z3 z4 z5 z6 z7 hlt
  clear HHr HKK HB1 hwc
  have HHr := HHn; have HKK := HKn; have HB1 := HBn
  clear HHn HKn HBn
  obtain ⟨⟨g0, g1, g2, g3, g4, g5, g6, g7⟩, ⟨z0, z1, z2, z3, z4, z5, z6, z7⟩, hlt⟩ := obox8f HHr.out
  obtain ⟨⟨c0, c1, c2, c3, c4, c5, c6, c7⟩, ⟨y0, y1, y2, y3, y4, y5, y6, y7⟩, y8⟩ := obox8f HC.out
  obtain ⟨l, rfl⟩ : ∃ l, nk = l + 1 := ⟨nk - 1, by omega⟩
  have hkk := HKK.out.kinds
  rw [HNK.out] at hkk
  have hcap := own_cap hkk
  unfold maxLen at hcap
  obtain ⟨gk, rfl, hgB, hgk, hkc⟩ := own_rowF hkk (by omega)
  have kcell : w4.cell? ⟨gk, l * 4 + 1, none⟩ = some (.slice (FA l) (kA ks l).fields.length (FC l)) := by
    rw [hkc (l * 4 + 1) (by omega), rowsC_at (by omega) (by decide)]
    rfl
  clear hkc hkk
  obtain ⟨i0, hi⟩ : ∃ i, Tryz.prog.info? 51 = some i := ⟨_, rfl⟩
  have hz0 : i0.zero = some (.agg #[.string ⟨#[]⟩, .int .i64 0, .int .i64 0, .int .i64 0, .int .i64 0, .bool false, .int .u8 0, .bool false]) := by obtain rfl := Option.some.inj (hi.symm.trans rfl); rfl
  have hz1 : i0.size = 8 := by obtain rfl := Option.some.inj (hi.symm.trans rfl); rfl
  have hz2 : i0.bytes = 56 := by obtain rfl := Option.some.inj (hi.symm.trans rfl); rfl
  have HI := Lib.hid hi; have HZ0 := Lib.hid hz0; have HZ1 := Lib.hid hz1; have HZ2 := Lib.hid hz2
  clear hi hz0 hz1 hz2
  have hlk : l < ks.length := by rw [HNK.out]; omega
  have HOW3 := Lib.hid (HKO3.out.cols l hlk)
  have HOW := Lib.hid (HKK.out.cols l hlk)
  have hmN : (kA ks l).fields.length ≤ N := (HOK.out.2 (kA ks l) (by rw [← kA_get hlk]; exact List.getElem_mem _)).1.2
  obtain ⟨fs, hfs⟩ : ∃ x, (kA ks l).fields = x := ⟨_, rfl⟩
  have HFS := Lib.hid hfs
  rw [hfs] at kcell HOW HOW3 hmN
  obtain ⟨mm, hmm⟩ : ∃ x, fs.length = x := ⟨_, rfl⟩
  have HMM := Lib.hid hmm
  rw [hmm] at kcell HOW HOW3 hmN
  clear hfs hmm hlk
  obtain ⟨ckk, hckk⟩ : ∃ cs, w4.heap[gk]? = some (.cells cs 48 (0, 0)) := by
    rcases HKK.out.kinds.2 with ⟨hv, _⟩ | ⟨g', cap', cur, hv, _, hh, _⟩
    · cases hv
    · cases hv; exact ⟨cur, hh⟩
  have HCK := Lib.hid hckk
  have hneC : Hid (some CB ≠ (Value.slice (FA l) mm (FC l)).ownBlock) := Lib.hid (fun e => by
    have h1 := HOW3.out.lt CB e.symm
    omega)
  have hneK : Hid (some gk ≠ (Value.slice (FA l) mm (FC l)).ownBlock) := Lib.hid (fun e => by
    rcases HOW.out.2 with ⟨hv, _⟩ | ⟨g', cap', cur, hv, _, hh, _⟩
    · rw [hv] at e; cases e
    · rw [hv] at e
      injection e with e
      have e' : gk = g' := e
      subst e'
      rw [hckk] at hh
      injection hh with hh
      injection hh with _ hh
      exact absurd hh (by decide))
  have hwr : IntKind.i64.wrap (l : Int) = (l : Int) := IntWalk.i64_in _ (by omega)
  have hlt1 : (l : Int) < (l : Int) + 1 := by omega
  have hfz : w4.frozen? ⟨gk, l * 4 + 1, none⟩ = false := by simp [World.frozen?, hckk]
  have HBS := Lib.hid HB1.out.size
  clear hckk
  have HCD : w4.drew.heap[CB]? = some (.cells #[.string cnm, .int .i64 ckd, .int .i64 cwi, .int .i64 cpl, .int .i64 cfo, .bool crt, .int .u8 cfi, .bool cne] 51 (0, 0)) := HC.out
  have HRD : w4.drew.heap[r]? = some (.cells #[.int .u8 m, .int .u8 q, .slice (some ⟨gk, 0, none⟩) (l + 1) c, .string hd, .string tl, .string ct, .string sm, .bool false] 42 (0, 0)) := HHr.out
  have hkd : w4.drew.cell? ⟨gk, l * 4 + 1, none⟩ = some (.slice (FA l) mm (FC l)) := kcell
  have HCA := heap_old HCD (.cells #[.string cnm, .int .i64 ckd, .int .i64 cwi, .int .i64 cpl, .int .i64 cfo, .bool crt, .int .u8 cfi, .bool cne] 51)
  have HRA := heap_old HRD (.cells #[.string cnm, .int .i64 ckd, .int .i64 cwi, .int .i64 cpl, .int .i64 cfo, .bool crt, .int .u8 cfi, .bool cne] 51)
  have hka : (w4.drew.alloc (.cells #[.string cnm, .int .i64 ckd, .int .i64 cwi, .int .i64 cpl, .int .i64 cfo, .bool crt, .int .u8 cfi, .bool cne] 51)).cell? ⟨gk, l * 4 + 1, none⟩ = some (.slice (FA l) mm (FC l)) := (World.cell?_alloc_some w4.drew _ (.cells #[.string cnm, .int .i64 ckd, .int .i64 cwi, .int .i64 cpl, .int .i64 cfo, .bool crt, .int .u8 cfi, .bool cne] 51) (by rw [hkd]; rfl)).trans hkd
  obtain ⟨⟨a0, a1, a2, a3, a4, a5, a6, a7⟩, -, -⟩ := obox8f HCA
  obtain ⟨⟨-, -, b2, -, -, -, -, -⟩, -, -⟩ := obox8f HRA
  refine region_till 22 (fun w' => w'.cell? ⟨r, 2, none⟩ = some (.slice (some ⟨gk, 0, none⟩) (l + 1) c) ∧ w'.cell? ⟨gk, l * 4 + 1, none⟩ = some (.slice (FA l) mm (FC l)) ∧ w'.cell? ⟨CB, 0, none⟩ = some (.string cnm) ∧ w'.cell? ⟨CB, 1, none⟩ = some (.int .i64 ckd) ∧ w'.cell? ⟨CB, 2, none⟩ = some (.int .i64 cwi) ∧ w'.cell? ⟨CB, 3, none⟩ = some (.int .i64 cpl) ∧ w'.cell? ⟨CB, 4, none⟩ = some (.int .i64 cfo) ∧ w'.cell? ⟨CB, 5, none⟩ = some (.bool crt) ∧ w'.cell? ⟨CB, 6, none⟩ = some (.int .u8 cfi) ∧ w'.cell? ⟨CB, 7, none⟩ = some (.bool cne)) (by kernel_rfl) ?_
  have hT : (fun w' : World => w'.cell? ⟨r, 2, none⟩ = some (.slice (some ⟨gk, 0, none⟩) (l + 1) c) ∧ w'.cell? ⟨gk, l * 4 + 1, none⟩ = some (.slice (FA l) mm (FC l)) ∧ w'.cell? ⟨CB, 0, none⟩ = some (.string cnm) ∧ w'.cell? ⟨CB, 1, none⟩ = some (.int .i64 ckd) ∧ w'.cell? ⟨CB, 2, none⟩ = some (.int .i64 cwi) ∧ w'.cell? ⟨CB, 3, none⟩ = some (.int .i64 cpl) ∧ w'.cell? ⟨CB, 4, none⟩ = some (.int .i64 cfo) ∧ w'.cell? ⟨CB, 5, none⟩ = some (.bool crt) ∧ w'.cell? ⟨CB, 6, none⟩ = some (.int .u8 cfi) ∧ w'.cell? ⟨CB, 7, none⟩ = some (.bool cne)) w4.drew := ⟨g2, kcell, c0, c1, c2, c3, c4, c5, c6, c7⟩
  refine Till.take (i := 0) (v := ?_) rfl (by kernel_rfl) (by kernel_rfl) (by kernel_rfl) [] (by kernel_rfl) (by decide) (by kernel_rfl) (by kernel_rfl) (fun _ _ _ h => h) hT (Or.inl ⟨by rfl, ?_⟩) ?_
  rotate_left
  · (intro w' hw'; obtain ⟨u0, u1, u2, u3, u4, u5, u6, u7, u8, u9⟩ := hw'; go_simp; try with_reducible rfl)
  (try simp only [Act.put, List.setIfInBounds_toArray, List.set_cons_zero, List.set_cons_succ])
  refine Till.take (i := 1) (v := ?_) rfl (by kernel_rfl) (by kernel_rfl) (by kernel_rfl) [] (by kernel_rfl) (by decide) (by kernel_rfl) (by kernel_rfl) (fun _ _ _ h => h) hT (Or.inl ⟨by rfl, ?_⟩) ?_
  rotate_left
  · (intro w' hw'; obtain ⟨u0, u1, u2, u3, u4, u5, u6, u7, u8, u9⟩ := hw'; go_simp; try with_reducible rfl)
  (try simp only [Act.put, List.setIfInBounds_toArray, List.set_cons_zero, List.set_cons_succ])
  refine Till.take (i := 2) (v := ?_) rfl (by kernel_rfl) (by kernel_rfl) (by kernel_rfl) [] (by kernel_rfl) (by decide) (by kernel_rfl) (by kernel_rfl) (fun _ _ _ h => h) hT (Or.inl ⟨by rfl, ?_⟩) ?_
  rotate_left
  · (intro w' hw'; obtain ⟨u0, u1, u2, u3, u4, u5, u6, u7, u8, u9⟩ := hw'; go_simp; try with_reducible rfl)
  (try simp only [Act.put, List.setIfInBounds_toArray, List.set_cons_zero, List.set_cons_succ])
  refine Till.take (i := 3) (v := ?_) rfl (by kernel_rfl) (by kernel_rfl) (by kernel_rfl) [] (by kernel_rfl) (by decide) (by kernel_rfl) (by kernel_rfl) (fun _ _ _ h => h) hT (Or.inl ⟨by rfl, ?_⟩) ?_
  rotate_left
  · (intro w' hw'; obtain ⟨u0, u1, u2, u3, u4, u5, u6, u7, u8, u9⟩ := hw'; go_simp; try with_reducible rfl)
  (try simp only [Act.put, List.setIfInBounds_toArray, List.set_cons_zero, List.set_cons_succ])
  refine Till.take (i := 4) (v := ?_) rfl (by kernel_rfl) (by kernel_rfl) (by kernel_rfl) [] (by kernel_rfl) (by decide) (by kernel_rfl) (by kernel_rfl) (fun _ _ _ h => h) hT (Or.inl ⟨by rfl, ?_⟩) ?_
  rotate_left
  · (intro w' hw'; obtain ⟨u0, u1, u2, u3, u4, u5, u6, u7, u8, u9⟩ := hw'; go_simp; try with_reducible rfl)
  (try simp only [Act.put, List.setIfInBounds_toArray, List.set_cons_zero, List.set_cons_succ])
  refine Till.take (i := 5) (v := ?_) rfl (by kernel_rfl) (by kernel_rfl) (by kernel_rfl) [] (by kernel_rfl) (by decide) (by kernel_rfl) (by kernel_rfl) (fun _ _ _ h => h) hT (Or.inl ⟨by rfl, ?_⟩) ?_
  rotate_left
  · (intro w' hw'; obtain ⟨u0, u1, u2, u3, u4, u5, u6, u7, u8, u9⟩ := hw'; go_simp; try with_reducible rfl)
  (try simp only [Act.put, List.setIfInBounds_toArray, List.set_cons_zero, List.set_cons_succ])
  refine Till.take (i := 6) (v := ?_) rfl (by kernel_rfl) (by kernel_rfl) (by kernel_rfl) [] (by kernel_rfl) (by decide) (by kernel_rfl) (by kernel_rfl) (fun _ _ _ h => h) hT (Or.inl ⟨by rfl, ?_⟩) ?_
  rotate_left
  · (intro w' hw'; obtain ⟨u0, u1, u2, u3, u4, u5, u6, u7, u8, u9⟩ := hw'; go_simp; try with_reducible rfl)
  (try simp only [Act.put, List.setIfInBounds_toArray, List.set_cons_zero, List.set_cons_succ])
  refine Till.take (i := 7) (v := ?_) rfl (by kernel_rfl) (by kernel_rfl) (by kernel_rfl) [] (by kernel_rfl) (by decide) (by kernel_rfl) (by kernel_rfl) (fun _ _ _ h => h) hT (Or.inl ⟨by rfl, ?_⟩) ?_
  rotate_left
  · (intro w' hw'; obtain ⟨u0, u1, u2, u3, u4, u5, u6, u7, u8, u9⟩ := hw'; go_simp; try with_reducible rfl)
  (try simp only [Act.put, List.setIfInBounds_toArray, List.set_cons_zero, List.set_cons_succ])
  refine Till.take (i := 8) (v := ?_) rfl (by kernel_rfl) (by kernel_rfl) (by kernel_rfl) [] (by kernel_rfl) (by decide) (by kernel_rfl) (by kernel_rfl) (fun _ _ _ h => h) hT (Or.inl ⟨by rfl, ?_⟩) ?_
  rotate_left
  · (intro w' hw'; obtain ⟨u0, u1, u2, u3, u4, u5, u6, u7, u8, u9⟩ := hw'; go_simp; try with_reducible rfl)
  (try simp only [Act.put, List.setIfInBounds_toArray, List.set_cons_zero, List.set_cons_succ])
  refine Till.take (i := 9) (v := ?_) rfl (by kernel_rfl) (by kernel_rfl) (by kernel_rfl) [] (by kernel_rfl) (by decide) (by kernel_rfl) (by kernel_rfl) (fun _ _ _ h => h) hT (Or.inl ⟨by rfl, ?_⟩) ?_
  rotate_left
  · (intro w' hw'; obtain ⟨u0, u1, u2, u3, u4, u5, u6, u7, u8, u9⟩ := hw'; go_simp; try with_reducible rfl)
  (try simp only [Act.put, List.setIfInBounds_toArray, List.set_cons_zero, List.set_cons_succ])
  refine Till.take (i := 10) (v := ?_) rfl (by kernel_rfl) (by kernel_rfl) (by kernel_rfl) [] (by kernel_rfl) (by decide) (by kernel_rfl) (by kernel_rfl) (fun _ _ _ h => h) hT (Or.inl ⟨by rfl, ?_⟩) ?_
  rotate_left
  · (intro w' hw'; obtain ⟨u0, u1, u2, u3, u4, u5, u6, u7, u8, u9⟩ := hw'; go_simp; try with_reducible rfl)
  (try simp only [Act.put, List.setIfInBounds_toArray, List.set_cons_zero, List.set_cons_succ])
  refine Till.take (i := 11) (v := ?_) rfl (by kernel_rfl) (by kernel_rfl) (by kernel_rfl) [] (by kernel_rfl) (by decide) (by kernel_rfl) (by kernel_rfl) (fun _ _ _ h => h) hT (Or.inl ⟨by rfl, ?_⟩) ?_
  rotate_left
  · (intro w' hw'; obtain ⟨u0, u1, u2, u3, u4, u5, u6, u7, u8, u9⟩ := hw'; go_simp; try with_reducible rfl)
  (try simp only [Act.put, List.setIfInBounds_toArray, List.set_cons_zero, List.set_cons_succ])
  refine Till.take (i := 12) (v := ?_) rfl (by kernel_rfl) (by kernel_rfl) (by kernel_rfl) [] (by kernel_rfl) (by decide) (by kernel_rfl) (by kernel_rfl) (fun _ _ _ h => h) hT (Or.inl ⟨by rfl, ?_⟩) ?_
  rotate_left
  · (intro w' hw'; obtain ⟨u0, u1, u2, u3, u4, u5, u6, u7, u8, u9⟩ := hw'; go_simp; try with_reducible rfl)
  (try simp only [Act.put, List.setIfInBounds_toArray, List.set_cons_zero, List.set_cons_succ])
  refine Till.take (i := 13) (v := ?_) rfl (by kernel_rfl) (by kernel_rfl) (by kernel_rfl) [] (by kernel_rfl) (by decide) (by kernel_rfl) (by kernel_rfl) (fun _ _ _ h => h) hT (Or.inl ⟨by rfl, ?_⟩) ?_
  rotate_left
  · (intro w' hw'; obtain ⟨u0, u1, u2, u3, u4, u5, u6, u7, u8, u9⟩ := hw'; go_simp; try with_reducible rfl)
  (try simp only [Act.put, List.setIfInBounds_toArray, List.set_cons_zero, List.set_cons_succ])
  refine Till.take (i := 14) (v := ?_) rfl (by kernel_rfl) (by kernel_rfl) (by kernel_rfl) [] (by kernel_rfl) (by decide) (by kernel_rfl) (by kernel_rfl) (fun _ _ _ h => h) hT (Or.inl ⟨by rfl, ?_⟩) ?_
  rotate_left
  · (intro w' hw'; obtain ⟨u0, u1, u2, u3, u4, u5, u6, u7, u8, u9⟩ := hw'; go_simp; try with_reducible rfl)
  (try simp only [Act.put, List.setIfInBounds_toArray, List.set_cons_zero, List.set_cons_succ])
  refine Till.take (i := 15) (v := ?_) rfl (by kernel_rfl) (by kernel_rfl) (by kernel_rfl) [] (by kernel_rfl) (by decide) (by kernel_rfl) (by kernel_rfl) (fun _ _ _ h => h) hT (Or.inl ⟨by rfl, ?_⟩) ?_
  rotate_left
  · (intro w' hw'; obtain ⟨u0, u1, u2, u3, u4, u5, u6, u7, u8, u9⟩ := hw'; go_simp; try with_reducible rfl)
  (try simp only [Act.put, List.setIfInBounds_toArray, List.set_cons_zero, List.set_cons_succ])
  refine Till.take (i := 16) (v := ?_) rfl (by kernel_rfl) (by kernel_rfl) (by kernel_rfl) [] (by kernel_rfl) (by decide) (by kernel_rfl) (by kernel_rfl) (fun _ _ _ h => h) hT (Or.inl ⟨by rfl, ?_⟩) ?_
  rotate_left
  · (intro w' hw'; obtain ⟨u0, u1, u2, u3, u4, u5, u6, u7, u8, u9⟩ := hw'; go_simp; try with_reducible rfl)
  (try simp only [Act.put, List.setIfInBounds_toArray, List.set_cons_zero, List.set_cons_succ])
  refine Till.take (i := 17) (v := ?_) rfl (by kernel_rfl) (by kernel_rfl) (by kernel_rfl) [] (by kernel_rfl) (by decide) (by kernel_rfl) (by kernel_rfl) (fun _ _ _ h => h) hT (Or.inl ⟨by rfl, ?_⟩) ?_
  rotate_left
  · (intro w' hw'; obtain ⟨u0, u1, u2, u3, u4, u5, u6, u7, u8, u9⟩ := hw'; go_simp; try with_reducible rfl)
  (try simp only [Act.put, List.setIfInBounds_toArray, List.set_cons_zero, List.set_cons_succ])
  refine Till.step (i := 18) (by kernel_rfl) rfl ?_
  intro K hK
  go_simp
  have hT : (fun w' : World => w'.cell? ⟨r, 2, none⟩ = some (.slice (some ⟨gk, 0, none⟩) (l + 1) c) ∧ w'.cell? ⟨gk, l * 4 + 1, none⟩ = some (.slice (FA l) mm (FC l)) ∧ w'.cell? ⟨CB, 0, none⟩ = some (.string cnm) ∧ w'.cell? ⟨CB, 1, none⟩ = some (.int .i64 ckd) ∧ w'.cell? ⟨CB, 2, none⟩ = some (.int .i64 cwi) ∧ w'.cell? ⟨CB, 3, none⟩ = some (.int .i64 cpl) ∧ w'.cell? ⟨CB, 4, none⟩ = some (.int .i64 cfo) ∧ w'.cell? ⟨CB, 5, none⟩ = some (.bool crt) ∧ w'.cell? ⟨CB, 6, none⟩ = some (.int .u8 cfi) ∧ w'.cell? ⟨CB, 7, none⟩ = some (.bool cne)) (w4.drew.alloc (.cells #[.string cnm, .int .i64 ckd, .int .i64 cwi, .int .i64 cpl, .int .i64 cfo, .bool crt, .int .u8 cfi, .bool cne] 51)) := ⟨b2, hka, a0, a1, a2, a3, a4, a5, a6, a7⟩
  refine hK.out _ _ (fun _ => hT) ?_
  clear hK K
  (try simp only [Act.put, List.setIfInBounds_toArray, List.set_cons_zero, List.set_cons_succ])
  refine Till.step (i := 19) (by kernel_rfl) rfl ?_
  intro K hK
  refine step_append_lies _ rfl (.tmp 203) (.tmp 205) 46 rfl B 51 i0 (.agg #[.string ⟨#[]⟩, .int .i64 0, .int .i64 0, .int .i64 0, .int .i64 0, .bool false, .int .u8 0, .bool false]) 8 56 Tryz.underlying46 HI.out HZ0.out HZ1.out HZ2.out rfl (by decide) (.slice (FA l) mm (FC l)) mm (rowsC 8 mm (colV fs)) rfl (by exact HOW.out.alloc (.cells #[.string cnm, .int .i64 ckd, .int .i64 cwi, .int .i64 cpl, .int .i64 cfo, .bool crt, .int .u8 cfi, .bool cne] 51)) ⟨w4.heap.size, 0, none⟩ 1 1 [.string cnm, .int .i64 ckd, .int .i64 cwi, .int .i64 cpl, .int .i64 cfo, .bool crt, .int .u8 cfi, .bool cne] rfl rfl (by exact k_cellsF w4 [.string cnm, .int .i64 ckd, .int .i64 cwi, .int .i64 cpl, .int .i64 cfo, .bool crt, .int .u8 cfi, .bool cne] 51) (by intro u hu; simp at hu; rcases hu with rfl | rfl | rfl | rfl | rfl | rfl | rfl | rfl <;> rfl) (by decide) (by unfold maxLen; omega) (by omega) (by have := HBS.out; simp; omega) _ rfl ?_
  intro G cap w5 hown4 hg4 hat4 hlt4
  have hg4 := grown_alloc (grown_drewF hg4)
  have hC5 := (hg4.block CB (lt_heap HC.out) (fun e => hneC.out e)).trans HC.out
  have hK4 := grown_type HOW.out hg4 HCK.out (by decide)
  have hR4 := grown_type HOW.out hg4 HHr.out (by decide)
  have kc4 : w5.cell? ⟨gk, l * 4 + 1, none⟩ = some (.slice (FA l) mm (FC l)) := (hg4.cell kcell (fun e => hneK.out e))
  have hfz4 : w5.frozen? ⟨gk, l * 4 + 1, none⟩ = false := by simp [World.frozen?, hK4]
  obtain ⟨⟨r0, r1, r2, r3, r4, r5, r6, r7⟩, -, -⟩ := obox8f hC5
  obtain ⟨⟨p0, p1, p2, p3, p4, p5, p6, p7⟩, -, -⟩ := obox8f hR4
  have hT : (fun w' : World => w'.cell? ⟨r, 2, none⟩ = some (.slice (some ⟨gk, 0, none⟩) (l + 1) c) ∧ w'.cell? ⟨gk, l * 4 + 1, none⟩ = some (.slice (FA l) mm (FC l)) ∧ w'.cell? ⟨CB, 0, none⟩ = some (.string cnm) ∧ w'.cell? ⟨CB, 1, none⟩ = some (.int .i64 ckd) ∧ w'.cell? ⟨CB, 2, none⟩ = some (.int .i64 cwi) ∧ w'.cell? ⟨CB, 3, none⟩ = some (.int .i64 cpl) ∧ w'.cell? ⟨CB, 4, none⟩ = some (.int .i64 cfo) ∧ w'.cell? ⟨CB, 5, none⟩ = some (.bool crt) ∧ w'.cell? ⟨CB, 6, none⟩ = some (.int .u8 cfi) ∧ w'.cell? ⟨CB, 7, none⟩ = some (.bool cne)) w5 := ⟨p2, kc4, r0, r1, r2, r3, r4, r5, r6, r7⟩
  refine hK.out _ _ (fun _ => hT) ?_
  clear hK K
  (try simp only [Act.put, List.setIfInBounds_toArray, List.set_cons_zero, List.set_cons_succ])
  refine Till.take (i := 20) (v := ?_) rfl (by kernel_rfl) (by kernel_rfl) (by kernel_rfl) [21] (by kernel_rfl) (by decide) (by kernel_rfl) (by kernel_rfl) (fun _ _ _ h => h) hT (Or.inl ⟨by rfl, ?_⟩) ?_
  rotate_left
  · (intro w' hw'; obtain ⟨u0, u1, u2, u3, u4, u5, u6, u7, u8, u9⟩ := hw'; go_simp; try with_reducible rfl)
  (try simp only [Act.put, List.setIfInBounds_toArray, List.set_cons_zero, List.set_cons_succ])
  refine Till.take (i := 21) (v := ?_) rfl (by kernel_rfl) (by kernel_rfl) (by kernel_rfl) [] (by kernel_rfl) (by decide) (by kernel_rfl) (by kernel_rfl) (fun _ _ _ h => h) hT (Or.inl ⟨by rfl, ?_⟩) ?_
  rotate_left
  · (intro w' hw'; obtain ⟨u0, u1, u2, u3, u4, u5, u6, u7, u8, u9⟩ := hw'; go_simp; try with_reducible rfl)
  (try simp only [Act.put, List.setIfInBounds_toArray, List.set_cons_zero, List.set_cons_succ])
  refine Till.step (i := 22) (by kernel_rfl) rfl ?_
  intro K hK
  go_simp
  refine hK.out _ _ (fun h => absurd h (by decide)) ?_
  clear hK K
  (try simp only [Act.put, List.setIfInBounds_toArray, List.set_cons_zero, List.set_cons_succ])
  refine Till.done (by kernel_rfl) ?_ _
  clear hT HCD HRD hkd HCA HRA hka a0 a1 a2 a3 a4 a5 a6 a7 b2
  go_wp2
  go_ret
  have hL1 : ks.length - 1 = l := by rw [HNK.out]; omega
  have hKf := KOwn.col (x := ⟨cnm, ckd, cwi, cpl, cfo, crt, cfi, cne⟩) (w' := w5) (B := B) (H := (w4.alloc (.cells #[.string cnm, .int .i64 ckd, .int .i64 cwi, .int .i64 cpl, .int .i64 cfo, .bool crt, .int .u8 cfi, .bool cne] 51)).drew.heap.size) (g := G) (c' := cap) HKK.out (by rw [HNK.out]; omega)
    (by rw [hL1, HFS.out, HMM.out]; exact hown4) (by rw [hL1, HFS.out, HMM.out]; exact hg4) (by rw [hL1, HFS.out, HMM.out]; exact hat4) (by show _ ≤ (w4.alloc _).heap.size; simp)
  rw [hL1, HFS.out, HMM.out] at hKf
  have hRw := heap_far hR4 (p := ⟨gk, l * 4 + 1, none⟩) (heap_ne hR4 hK4 (by decide)) (.slice (some ⟨G, 0, none⟩) (mm + 1) cap)
  have hBf : Below B w (w5.setCell ⟨gk, l * 4 + 1, none⟩ (.slice (some ⟨G, 0, none⟩) (mm + 1) cap)) := by
    refine ((HB1.out.trans ⟨hg4.os, hg4.tape, hg4.output, hg4.size, fun k hk => hg4.block k (by have := HBS.out; omega) (fun e => ?_)⟩)).setCell (p := ⟨gk, l * 4 + 1, none⟩) hgB _
    have := HOW.out.lt k e.symm
    omega
  cases hok : ok with
  | false =>
    refine RetRL.no ?_ hBf
    rw [HF.out]
    refine if_neg (fun k => ?_)
    have := HOK3.out.2 ⟨k.1, k.2.2⟩
    rw [hok] at this
    cases this
  | true =>
    have h1 := HOK3.out.1 hok
    have h2 := HCOL3.out hok
    have hO : O = some ⟨⟨m, q, addCol ks ⟨cnm, ckd, cwi, cpl, cfo, crt, cfi, cne⟩, hd, tl, ct, sm⟩, true, false⟩ := by
      rw [HF.out, if_pos ⟨h1.1, HKS.out, h1.2⟩, h2]
    refine RetRL.mk (by rw [hO]; rfl) (fun st' e => ?_) hBf
    rw [hO] at e
    injection e with e
    subst e
    refine ⟨hBr, HOK.out.col (x := ⟨cnm, ckd, cwi, cpl, cfo, crt, cfi, cne⟩) HZ3.out, _, c, _, _, ?_, hKf⟩
    unfold rrC
    simp only
    rw [addCol_len, HNK.out]
    exact hRw
end Go.Proofs.YtfgnollclmimnaaGreatDoor
