
/- The walk of the format reader's column. -/
import Derived.Test.YtklblmbacnnoeaaGreatDoorFC
import Derived.Deep.AppendLies
import Derived.Deep.RegionLaw
namespace Go.Proofs.YtklblmbacnnoeaaGreatDoor
open Go.RowKit Limb Nmb Work
set_option linter.unusedVariables false
set_option linter.unusedSimpArgs false

theorem drop_tail {L : List ByteArray} (k : Nat) : (L.drop k).tail = L.drop (k + 1) := by rw [List.tail_drop]
theorem wd_drop {L : List ByteArray} (k j : Nat) : wd (L.drop k) j = wd L (k + j) := by unfold wd; simp [List.getD_eq_getElem?_getD]
theorem Kw.setNew {w w' : World} (h : Kw w w') {g i : Nat} (hg : w.heap.size ≤ g) (u : Value) : Kw w (w'.setCell ⟨g, i, none⟩ u) :=
  ⟨by simpa using h.1, fun k cs T f hh hT => by
    have := lt_heap hh
    exact heap_far (h.2 k cs T f hh hT) (by show k ≠ g; omega) u⟩
theorem Kw.alloc {w w' : World} (h : Kw w w') (o : Obj) : Kw w (w'.alloc o) := ⟨by have := h.1; simp; omega, fun k cs T f hh hT => heap_old (h.2 k cs T f hh hT) o⟩
theorem Wds.alloc {w : World} {b : Nat} {L : List ByteArray} {bad : Bool} (h : Wds w b L bad) (o : Obj) : Wds (w.alloc o) b L bad := h.below ((Below.refl _ _).alloc (Nat.le_refl _) o)
theorem bad_next {L : List ByteArray} {k : Nat} : ((L.drop k).isEmpty = false) ↔ k < L.length := by
  rw [List.isEmpty_eq_false_iff_exists_mem]
  constructor
  · rintro ⟨x, hx⟩
    have := List.length_pos_of_mem hx
    rw [List.length_drop] at this
    omega
  · intro h
    exact ⟨(L.drop k)[0]'(by rw [List.length_drop]; omega), List.getElem_mem _⟩

theorem obox8f {w : World} {g : Nat} {a b c d e f i j : Value} {T : TypeId} (h : w.heap[g]? = some (.cells #[a, b, c, d, e, f, i, j] T (0, 0))) :
    (w.cell? ⟨g, 0, none⟩ = some a ∧ w.cell? ⟨g, 1, none⟩ = some b ∧ w.cell? ⟨g, 2, none⟩ = some c ∧ w.cell? ⟨g, 3, none⟩ = some d ∧ w.cell? ⟨g, 4, none⟩ = some e ∧ w.cell? ⟨g, 5, none⟩ = some f ∧ w.cell? ⟨g, 6, none⟩ = some i ∧ w.cell? ⟨g, 7, none⟩ = some j) ∧
      (w.frozen? ⟨g, 0, none⟩ = false ∧ w.frozen? ⟨g, 1, none⟩ = false ∧ w.frozen? ⟨g, 2, none⟩ = false ∧ w.frozen? ⟨g, 3, none⟩ = false ∧ w.frozen? ⟨g, 4, none⟩ = false ∧ w.frozen? ⟨g, 5, none⟩ = false ∧ w.frozen? ⟨g, 6, none⟩ = false ∧ w.frozen? ⟨g, 7, none⟩ = false) ∧ g < w.heap.size := by
  obtain ⟨h1, h2, h3⟩ := obox h
  exact ⟨⟨h1 0 _ rfl, h1 1 _ rfl, h1 2 _ rfl, h1 3 _ rfl, h1 4 _ rfl, h1 5 _ rfl, h1 6 _ rfl, h1 7 _ rfl⟩, ⟨h2 0 (by simp), h2 1 (by simp), h2 2 (by simp), h2 3 (by simp), h2 4 (by simp), h2 5 (by simp), h2 6 (by simp), h2 7 (by simp)⟩, h3⟩
set_option maxHeartbeats 4000000 in
set_option maxRecDepth 100000 in
theorem column1_c (B r b S N : Nat) (st : FSt) (L : List ByteArray) (w : World) (hNN : N ≤ 1000000) (hS : S ≤ 9223372036854775807) (hz : ∀ s ∈ L, s.size ≤ S) (hB : B ≤ b) (hf : FR w B r S N st) (hw : Wds w b L false) :
    Calls Tryz.prog 127 #[.pointer (some ⟨r, 0, none⟩), .int .i64 1, .pointer (some ⟨b, 0, none⟩)] w
      (RetLn (if st.f.kinds ≠ [] ∧ colOk st.f.mark 1 L = true then some { st with f := { st.f with kinds := addCol st.f.kinds (colW st.f.mark 1 L) } } else none) B r b S (N + 1) w) := by
  obtain ⟨hBr, hok, A, c, FA, FC, hh, hK⟩ := hf
  have hBw : B ≤ w.heap.size := by have := lt_heap hh; omega
  obtain ⟨⟨m, q, ks, hd, tl, ct, sm⟩, bg, en⟩ := st
  unfold frC at hh
  simp only at hh hK hok ⊢
  obtain ⟨⟨⟨g0, g1, g2, g3, g4, g5, g6, g7, g8⟩, z0, z1, z2, z3, z4, z5, z6, z7, z8⟩, hlt⟩ := obox9 hh
  have HH := Lib.hid hh; have HK := Lib.hid hK; have HW := Lib.hid hw; have HOK := Lib.hid hok
  obtain ⟨O, hO⟩ : ∃ o, (if ks ≠ [] ∧ colOk m 1 L = true then some (⟨⟨m, q, addCol ks (colW m 1 L), hd, tl, ct, sm⟩, bg, en⟩ : FSt) else none) = o := ⟨_, rfl⟩
  rw [hO]
  have HO := Lib.hid hO
  obtain ⟨n, hn⟩ : ∃ n, ks.length = n := ⟨_, rfl⟩
  rw [hn] at g2
  have HN := Lib.hid hn
  have hcap := own_cap hK.kinds
  rw [hn] at hcap
  unfold maxLen at hcap
  clear hh hK hw hok hO
  by_cases hk0 : n = 0
  · subst hk0
    have hks : ks = [] := List.length_eq_zero_iff.1 hn
    have HE := Lib.hid (show O = none by rw [← HO.out]; exact if_neg (fun h => h.1 hks))
    clear hn
    go_enter Tryz.func127, Tryz.ntmps127
    go_wp2
    go_ret
    exact RetLn.no (L := L) (bad := false) HE.out (fun h => by cases h.1) HW.out (Below.refl _ _) (Ks.of (Kw.refl _))
  have hks : ks ≠ [] := fun e => hk0 (by rw [← hn, e]; rfl)
  have hn0 : ((n : Int) == 0) = false := by
    have : ¬ (n : Int) = 0 := by omega
    simpa using this
  have HKS := Lib.hid hks
  have HX1 := Lib.hid (next_c b L false w HW.out)
  have HXN := Lib.hid (fun k bad w h => wnum_c b (L.drop k) bad w (fun s hs => Nat.le_trans (hz s (List.mem_of_mem_drop hs)) hS) h)
  have HXY := Lib.hid (fun k bad w h => wbyte_c b (L.drop k) bad w (fun s hs => Nat.le_trans (hz s (List.mem_of_mem_drop hs)) hS) h)
  unfold RetNx at HX1 HXN HXY
  simp only [wd_drop, drop_tail, Nat.add_zero] at HXN HXY
  have HXS := Lib.hid (fun k bad w h => next_c b (L.drop k) bad w h)
  unfold RetNx at HXS
  simp only [wd_drop, drop_tail, Nat.add_zero] at HXS
  have hN1 := nVal_bd (wd L 1)
  have hnm := wd_sz hz 0
  obtain ⟨nm, hnme⟩ : ∃ x, wd L 0 = x := ⟨_, rfl⟩
  rw [hnme] at HX1 hnm
  have HNM := Lib.hid hnme; have HZ := Lib.hid hz
  have HT := Lib.hid (show L.tail = L.drop 1 by rw [List.drop_one])
  rw [HT.out] at HX1
  obtain ⟨N1, hN1e⟩ : ∃ x, nVal (wd L 1) = x := ⟨_, rfl⟩
  obtain ⟨O1, hO1e⟩ : ∃ x, nOk (wd L 1) = x := ⟨_, rfl⟩
  have HN1 := Lib.hid hN1e; have HO1 := Lib.hid hO1e
  have HXA := Lib.hid (HXN.out 1)
  rw [hN1e, hO1e] at HXA
  clear hnme hN1e hO1e hz hks hn
  go_enter Tryz.func127, Tryz.ntmps127
  go_wp2_with fail
  refine HX1.out.mono ?_
  rintro e w2 ⟨rfl, hw2, hg2⟩
  obtain ⟨cs1, hbl1⟩ := HW.out.block
  have hk2 := Kw.grown hg2 hbl1
  have hb2 := below_grown hg2 hB hBw
  go_wp2_with fail
  refine (HXA.out _ _ hw2).mono ?_
  rintro e w3 ⟨rfl, hw3, hg3⟩
  obtain ⟨cs2, hbl2⟩ := hw2.block
  have hk3 := Kw.trans hk2 (Kw.grown hg3 hbl2)
  have hb3 := hb2.trans (below_grown hg3 hB (by have := hk2.1; omega))
  have hbad : (false || L.isEmpty || !O1) = (!O1) := by
    cases hO : O1 with
    | false => simp
    | true =>
      have := nOk_lt (HO1.out.trans hO)
      cases L with
      | nil => simp at this
      | cons a L => rfl
  rw [hbad] at hw3
  have hs3 := hk3.1
  have HH3 := Lib.hid (hk3.2 _ _ _ _ HH.out (by decide))
  have HK3 := Lib.hid (HK.out.keep (fun g cs hh => hk3.2 _ _ _ _ hh (by decide)) (fun g cs hh => hk3.2 _ _ _ _ hh (by decide)))
  have HB3 := Lib.hid hb3; have HW3 := Lib.hid hw3; have HKS3 := Lib.hid (Ks.of hk3)
  clear g0 g1 g2 g3 g4 g5 g6 g7 g8 z0 z1 z2 z3 z4 z5 z6 z7 z8 hlt
  clear hk2 hk3 hw3 hb3 hb2 hg3 hg2 hbl1 hbl2 hw2 hbad HX1 HXA HH HK HW
  rw [HN.out] at HH3
  have HC := Lib.hid (heap_new w3 (.cells #[.string nm, .int .i64 1, .int .i64 N1, .int .i64 0, .int .i64 0, .bool false, .int .u8 0, .bool false] 60) rfl)
  have HW := Lib.hid (HW3.out.alloc (.cells #[.string nm, .int .i64 1, .int .i64 N1, .int .i64 0, .int .i64 0, .bool false, .int .u8 0, .bool false] 60))
  have HKW := Lib.hid ((Kw.refl w3).alloc (.cells #[.string nm, .int .i64 1, .int .i64 N1, .int .i64 0, .int .i64 0, .bool false, .int .u8 0, .bool false] 60))
  have HB : Hid (Below B w (w3.alloc (.cells #[.string nm, .int .i64 1, .int .i64 N1, .int .i64 0, .int .i64 0, .bool false, .int .u8 0, .bool false] 60))) := Lib.hid (HB3.out.alloc (by have := HB3.out.size; omega) _)
  go_upto_region 5 with fail
  obtain ⟨CB, hCB⟩ : ∃ x, w3.heap.size = x := ⟨_, rfl⟩
  have hBC : B ≤ CB := by have := HB3.out.size; omega
  rw [hCB] at HC ⊢
  generalize w3.alloc (.cells #[.string nm, .int .i64 1, .int .i64 N1, .int .i64 0, .int .i64 0, .bool false, .int .u8 0, .bool false] 60) = w4 at HC HW HKW HB ⊢
  clear HW3
  obtain ⟨⟨⟨g0, g1, g2, g3, g4, g5, g6, g7, g8⟩, z0, z1, z2, z3, z4, z5, z6, z7, z8⟩, hlt⟩ := obox9 (HKW.out.2 _ _ _ _ HH3.out (by decide))
  obtain ⟨⟨c0, c1, c2, c3, c4, c5, c6, c7⟩, ⟨y0, y1, y2, y3, y4, y5, y6, y7⟩, y8⟩ := obox8f HC.out
  obtain ⟨MB, hMB⟩ : ∃ x, decide (sK m 1 ≠ 0) = x := ⟨_, rfl⟩
  have HMB := Lib.hid hMB
  go_upto_region 9 with fail
  go_cut [43] (fun v wx => v = .bool MB ∧ w4 = wx)
  case first =>
    by_cases hm0 : m = 0
    · have e1 : (m == 0) = true := by simpa using hm0
      have e2 : MB = true := by rw [← hMB, hm0]; rfl
      subst e2
      clear hMB hm0
      go_wp2_with fail
      go_meet
      exact ⟨rfl, rfl⟩
    · have e1 : (m == 0) = false := by simpa using hm0
      have e2 : MB = false := by rw [← hMB]; unfold sK; rw [if_neg (fun h => hm0 h.1)]; rfl
      subst e2
      clear hMB hm0
      go_wp2_with fail
      go_meet
      exact ⟨rfl, rfl⟩
  case rest =>
  obtain ⟨rfl, rfl⟩ := hcut
  clear hMB
  obtain ⟨sd, hsd⟩ : ∃ x, wd L 2 = x := ⟨_, rfl⟩
  have HSD := Lib.hid hsd
  obtain ⟨NF, hNF⟩ : ∃ x, nVal (wd L 3) = x := ⟨_, rfl⟩
  have HNF := Lib.hid hNF
  obtain ⟨YF, hYF⟩ : ∃ x, yOk (wd L 3) = x := ⟨_, rfl⟩
  have HYF := Lib.hid hYF
  have HXC := Lib.hid (HXS.out 2)
  rw [hsd] at HXC
  have HXD := Lib.hid (HXY.out 3)
  rw [hNF, hYF] at HXD
  clear hsd hNF hYF
  go_upto_if 43 with fail
  go_cut [] (fun wx => ∃ rb fl bad, Hid (Wds wx b (L.drop (2 + sK m 1)) bad) ∧ Hid (wx.heap[CB]? = some (.cells #[.string nm, .int .i64 1, .int .i64 N1, .int .i64 0, .int .i64 0, .bool rb, .int .u8 fl, .bool false] 60 (0, 0))) ∧ Hid (Kw w3 wx) ∧ Hid (Below B w wx) ∧ Hid (rb = (MB && decide (sd = wRight)) ∧ fl = (if MB = true then NF % 256 else 0) ∧ (bad = false ↔ (O1 = true) ∧ (MB = false ∨ (sd = wLeft ∨ sd = wRight) ∧ YF = true))))
  case first =>
    cases MB with
    | false =>
      have hs0 : sK m 1 = 0 := by
        have := HMB.out
        exact Classical.byContradiction fun e => by rw [decide_eq_true e] at this; cases this
      go_wp2_with fail
      go_meet
      exact ⟨false, 0, _, by rw [hs0]; exact HW, HC, HKW, HB, Lib.hid ⟨rfl, rfl, by cases O1 <;> simp⟩⟩
    | true =>
      have hs2 : sK m 1 = 2 := by
        have := HMB.out
        by_cases h : m = 0 ∧ (1 : Int) ≠ 3
        · unfold sK; rw [if_pos h]
        · unfold sK at this; rw [if_neg h] at this; cases this
      have HS2 := Lib.hid hs2
      clear hs2
      obtain ⟨rb, hrb⟩ : ∃ x, (sd.toList == [114, 105, 103, 104, 116]) = x := ⟨_, rfl⟩
      obtain ⟨lb, hlb⟩ : ∃ x, (sd.toList == [108, 101, 102, 116]) = x := ⟨_, rfl⟩
      have HRB := Lib.hid hrb; have HLB := Lib.hid hlb
      have HR2 : Hid (rb = (true && decide (sd = wRight))) := Lib.hid (by rw [← hrb, lit_dec]; rfl)
      go_wp2_with fail
      refine (HXC.out _ _ HW.out).mono ?_
      rintro e w5 ⟨rfl, hwx, hgx⟩
      obtain ⟨csx, hblx⟩ := HW.out.block
      have HKW5 := Lib.hid (Kw.trans HKW.out (Kw.grown hgx hblx))
      have HC5 := Lib.hid (grown_block hgx (heap_ne HC.out hblx (by decide)) HC.out)
      have HB5 := Lib.hid (HB.out.trans (below_grown hgx hB (by have := HB.out.size; omega)))
      clear g0 g1 g2 g3 g4 g5 g6 g7 g8 z0 z1 z2 z3 z4 z5 z6 z7 z8 hlt
      clear c0 c1 c2 c3 c4 c5 c6 c7 y0 y1 y2 y3 y4 y5 y6 y7 y8
      clear HKW HC HB HW hblx
      have HKW := HKW5; have HC := HC5; have HB := HB5; have HW := Lib.hid hwx
      clear HKW5 HC5 HB5 hwx hgx
      obtain ⟨⟨⟨g0, g1, g2, g3, g4, g5, g6, g7, g8⟩, z0, z1, z2, z3, z4, z5, z6, z7, z8⟩, hlt⟩ := obox9 (HKW.out.2 _ _ _ _ HH3.out (by decide))
      obtain ⟨⟨c0, c1, c2, c3, c4, c5, c6, c7⟩, ⟨y0, y1, y2, y3, y4, y5, y6, y7⟩, y8⟩ := obox8f HC.out
      go_wp2_with fail
      refine (HXD.out _ _ HW.out).mono ?_
      rintro e w6 ⟨rfl, hwx, hgx⟩
      obtain ⟨csx, hblx⟩ := HW.out.block
      have HKW6 := Lib.hid (Kw.trans HKW.out (Kw.grown hgx hblx))
      have HC6 := Lib.hid (grown_block hgx (heap_ne HC.out hblx (by decide)) HC.out)
      have HB6 := Lib.hid (HB.out.trans (below_grown hgx hB (by have := HB.out.size; omega)))
      clear g0 g1 g2 g3 g4 g5 g6 g7 g8 z0 z1 z2 z3 z4 z5 z6 z7 z8 hlt
      clear c0 c1 c2 c3 c4 c5 c6 c7 y0 y1 y2 y3 y4 y5 y6 y7 y8
      clear HKW HC HB HW hblx
      have HKW := HKW6; have HC := HC6; have HB := HB6; have HW := Lib.hid hwx
      clear HKW6 HC6 HB6 hwx hgx
      obtain ⟨⟨⟨g0, g1, g2, g3, g4, g5, g6, g7, g8⟩, z0, z1, z2, z3, z4, z5, z6, z7, z8⟩, hlt⟩ := obox9 (HKW.out.2 _ _ _ _ HH3.out (by decide))
      obtain ⟨⟨c0, c1, c2, c3, c4, c5, c6, c7⟩, ⟨y0, y1, y2, y3, y4, y5, y6, y7⟩, y8⟩ := obox8f HC.out
      go_upto_region 12 with fail
      have HCn := HC; have HWn := HW; have HKn := HKW; have HBn := HB
      have HWn := Lib.hid (HWn.out.set (i := 5) HCn.out (by decide) (by decide) (.bool rb))
      have HCn : Hid ((w6.setCell ⟨CB, 5, none⟩ (.bool rb)).heap[CB]? = some (.cells #[.string nm, .int .i64 1, .int .i64 N1, .int .i64 0, .int .i64 0, .bool rb, .int .u8 0, .bool false] 60 (0, 0))) := Lib.hid (by have := heap_set HCn.out 5 (.bool rb); simpa using this)
      have HKn := Lib.hid (HKn.out.setNew (g := CB) (i := 5) (Nat.le_of_eq hCB) (.bool rb))
      have HBn : Hid (Below B w (w6.setCell ⟨CB, 5, none⟩ (.bool rb))) := Lib.hid (HBn.out.setCell (p := ⟨CB, 5, none⟩) hBC _)
      have HWn := Lib.hid (HWn.out.set (i := 6) HCn.out (by decide) (by decide) (.int .u8 (NF % 256)))
      have HCn : Hid (((w6.setCell ⟨CB, 5, none⟩ (.bool rb)).setCell ⟨CB, 6, none⟩ (.int .u8 (NF % 256))).heap[CB]? = some (.cells #[.string nm, .int .i64 1, .int .i64 N1, .int .i64 0, .int .i64 0, .bool rb, .int .u8 (NF % 256), .bool false] 60 (0, 0))) := Lib.hid (by have := heap_set HCn.out 6 (.int .u8 (NF % 256)); simpa using this)
      have HKn := Lib.hid (HKn.out.setNew (g := CB) (i := 6) (Nat.le_of_eq hCB) (.int .u8 (NF % 256)))
      have HBn : Hid (Below B w ((w6.setCell ⟨CB, 5, none⟩ (.bool rb)).setCell ⟨CB, 6, none⟩ (.int .u8 (NF % 256)))) := Lib.hid (HBn.out.setCell (p := ⟨CB, 6, none⟩) hBC _)
      clear g0 g1 g2 g3 g4 g5 g6 g7 g8 z0 z1 z2 z3 z4 z5 z6 z7 z8 hlt
      clear c0 c1 c2 c3 c4 c5 c6 c7 y0 y1 y2 y3 y4 y5 y6 y7 y8
      clear HC HW HKW HB
      generalize (w6.setCell ⟨CB, 5, none⟩ (.bool rb)).setCell ⟨CB, 6, none⟩ (.int .u8 (NF % 256)) = w7 at HCn HWn HKn HBn ⊢
      have HC := HCn; have HW := HWn; have HKW := HKn; have HB := HBn
      clear HCn HWn HKn HBn
      obtain ⟨⟨⟨g0, g1, g2, g3, g4, g5, g6, g7, g8⟩, z0, z1, z2, z3, z4, z5, z6, z7, z8⟩, hlt⟩ := obox9 (HKW.out.2 _ _ _ _ HH3.out (by decide))
      obtain ⟨⟨c0, c1, c2, c3, c4, c5, c6, c7⟩, ⟨y0, y1, y2, y3, y4, y5, y6, y7⟩, y8⟩ := obox8f HC.out
      obtain ⟨A5, c5, hh5, hc5, hm5, hs5⟩ := HW.out
      obtain ⟨q0, q1, q2, q3, q4⟩ := box2 hh5
      have HH5 := Lib.hid hh5; have HS5 := Lib.hid hs5; have HC5 := Lib.hid hc5
      obtain ⟨n5, hn5⟩ : ∃ x, (List.drop (3 + 1) L).length = x := ⟨_, rfl⟩
      have HN5 := Lib.hid hn5
      obtain ⟨BX, hBX⟩ : ∃ x, (!O1 || (List.drop 2 L).isEmpty || !YF) = x := ⟨_, rfl⟩
      have HBX := Lib.hid hBX
      rw [hn5] at q0
      rw [hBX] at q1
      have hWf : ∀ z, Wds (w7.setCell ⟨b, 1, none⟩ (.bool z)) b (L.drop (2 + sK m 1)) z := fun z => by
        refine ⟨A5, c5, ?_, by rw [HS2.out]; exact HC5.out, hm5, by rw [HS2.out]; exact Sts.far HS5.out HH5.out (by decide) _⟩
        have := heap_set HH5.out 1 (.bool z)
        rw [HS2.out]
        simpa using this
      have HWF := Lib.hid hWf
      have hKf : ∀ z, Kw w3 (w7.setCell ⟨b, 1, none⟩ (.bool z)) := fun z => Kw.trans HKW.out (Kw.grown (grown_set _ b 1 _) HH5.out)
      have hCf : ∀ z, (w7.setCell ⟨b, 1, none⟩ (.bool z)).heap[CB]? = some (.cells #[.string nm, .int .i64 1, .int .i64 N1, .int .i64 0, .int .i64 0, .bool rb, .int .u8 (NF % 256), .bool false] 60 (0, 0)) := fun z => heap_far HC.out (heap_ne HC.out HH5.out (by decide)) _
      have hBf : ∀ z, Below B w (w7.setCell ⟨b, 1, none⟩ (.bool z)) := fun z => HB.out.setCell (p := ⟨b, 1, none⟩) hB _
      have HKF := Lib.hid hKf; have HCF := Lib.hid hCf; have HBF := Lib.hid hBf
      have HFIN : Hid (∀ z, z = (BX || !(rb || lb)) → (z = false ↔ (O1 = true) ∧ (true = false ∨ (sd = wLeft ∨ sd = wRight) ∧ YF = true))) := Lib.hid (fun z hz => by
        subst hz
        have hr := HRB.out; have hl := HLB.out
        rw [lit_dec] at hr hl
        have hr' : (sd = wRight) ↔ rb = true := by rw [← hr]; exact (decide_eq_true_iff).symm
        have hl' : (sd = wLeft) ↔ lb = true := by rw [← hl]; exact (decide_eq_true_iff).symm
        have hY : YF = true → (List.drop 2 L).isEmpty = false := fun h => bad_next.2 (by have := yOk_lt (HYF.out.trans h); omega)
        rw [hr', hl', ← HBX.out]
        cases hyf : YF with
        | false => simp
        | true =>
          rw [hY hyf]
          cases O1 <;> cases rb <;> cases lb <;> simp)
      clear hn5 hBX hh5 hs5 hc5 hWf hKf hCf hBf
      cases BX with
      | true =>
        go_wp2_with fail
        go_meet
        exact ⟨rb, NF % 256, true, Lib.hid (HWF.out true), Lib.hid (HCF.out true), Lib.hid (HKF.out true), Lib.hid (HBF.out true), Lib.hid ⟨HR2.out, rfl, HFIN.out _ (by simp)⟩⟩
      | false =>
        cases rb with
        | true =>
          go_wp2_with fail
          go_meet
          exact ⟨true, NF % 256, false, Lib.hid (HWF.out false), Lib.hid (HCF.out false), Lib.hid (HKF.out false), Lib.hid (HBF.out false), Lib.hid ⟨HR2.out, rfl, HFIN.out _ (by simp)⟩⟩
        | false =>
          cases lb with
          | true =>
            go_wp2_with fail
            go_meet
            exact ⟨false, NF % 256, false, Lib.hid (HWF.out false), Lib.hid (HCF.out false), Lib.hid (HKF.out false), Lib.hid (HBF.out false), Lib.hid ⟨HR2.out, rfl, HFIN.out _ (by simp)⟩⟩
          | false =>
            go_wp2_with fail
            go_meet
            exact ⟨false, NF % 256, true, Lib.hid (HWF.out true), Lib.hid (HCF.out true), Lib.hid (HKF.out true), Lib.hid (HBF.out true), Lib.hid ⟨HR2.out, rfl, HFIN.out _ (by simp)⟩⟩
  case rest =>
  clear g0 g1 g2 g3 g4 g5 g6 g7 g8 z0 z1 z2 z3 z4 z5 z6 z7 z8 hlt
  clear c0 c1 c2 c3 c4 c5 c6 c7 y0 y1 y2 y3 y4 y5 y6 y7 y8
  clear HW HC HKW HB
  obtain ⟨rb, fl, bad, HW, HC, HKW, HB, HF⟩ := hcut
  generalize wc = w20 at HW HC HKW HB ⊢
  obtain ⟨⟨⟨g0, g1, g2, g3, g4, g5, g6, g7, g8⟩, z0, z1, z2, z3, z4, z5, z6, z7, z8⟩, hlt⟩ := obox9 (HKW.out.2 _ _ _ _ HH3.out (by decide))
  obtain ⟨⟨c0, c1, c2, c3, c4, c5, c6, c7⟩, ⟨y0, y1, y2, y3, y4, y5, y6, y7⟩, y8⟩ := obox8f HC.out
  obtain ⟨nb, hnb⟩ : ∃ x, needB L (2 + sK m 1) = x := ⟨_, rfl⟩
  have HNB := Lib.hid hnb
  clear hnb
  obtain ⟨A5, k5, hh5, hc5, hm5, hs5⟩ := HW.out
  obtain ⟨q0, q1, q2, q3, q4⟩ := box2 hh5
  have HH5 := Lib.hid hh5; have HS5 := Lib.hid hs5; have HC5 := Lib.hid hc5
  obtain ⟨n5, hn5⟩ : ∃ x, (List.drop (2 + sK m 1) L).length = x := ⟨_, rfl⟩
  have HN5 := Lib.hid hn5
  rw [hn5] at q0
  have HL5 := Lib.hid (show n5 = L.length - (2 + sK m 1) by rw [← hn5, List.length_drop])
  clear hh5 hs5 hc5 hn5
  go_upto_region 13 with fail
  go_cut [81] (fun v wx => v = .bool nb ∧ w20 = wx)
  case first =>
    by_cases h1 : n5 = 1
    · subst h1
      have hlL : L.length = 2 + sK m 1 + 1 := by have := HL5.out; omega
      obtain ⟨g, off, rfl, hg, hcs⟩ := HS5.out.cells (by rw [HN5.out]; decide)
      have h0 := hcs 0 (by rw [HN5.out]; decide)
      rw [wd_drop, Nat.add_zero, Nat.add_zero] at h0
      have hk5 : 1 ≤ k5 := by have := HC5.out; rw [HN5.out] at this; exact this
      obtain ⟨x, hx⟩ : ∃ x, wd L (2 + sK m 1) = x := ⟨_, rfl⟩
      rw [hx] at h0
      have e2 : (x.toList == [110, 101, 101, 100]) = nb := by
        rw [lit_dec, ← HNB.out]
        unfold needB
        rw [decide_eq_true hlL, hx]; rfl
      clear hcs hx hlL
      cases nb with
      | true =>
        go_wp2_with fail
        go_meet
        exact ⟨rfl, rfl⟩
      | false =>
        go_wp2_with fail
        go_meet
        exact ⟨rfl, rfl⟩
    · have e1 : ((n5 : Int) == 1) = false := by
        have : ¬ (n5 : Int) = 1 := by omega
        simpa using this
      have e2 : nb = false := by
        rw [← HNB.out]
        unfold needB
        rw [decide_eq_false (by have := HL5.out; omega)]; rfl
      subst e2
      clear h1
      go_wp2_with fail
      go_meet
      exact ⟨rfl, rfl⟩
  case rest =>
  obtain ⟨rfl, rfl⟩ := hcut
  go_upto_if 81 with fail
  go_cut [] (fun wx => Hid (Wds wx b (if nb = true then [] else L.drop (2 + sK m 1)) bad) ∧ Hid (wx.heap[CB]? = some (.cells #[.string nm, .int .i64 1, .int .i64 N1, .int .i64 0, .int .i64 0, .bool rb, .int .u8 fl, .bool nb] 60 (0, 0))) ∧ Hid (Kw w3 wx) ∧ Hid (Below B w wx))
  case first =>
    cases nb with
    | false =>
      go_wp2_with fail
      go_meet
      exact ⟨HW, HC, HKW, HB⟩
    | true =>
      go_wp2_with fail
      go_meet
      have HCn : (w20.setCell ⟨CB, 7, none⟩ (.bool true)).heap[CB]? = some (.cells #[.string nm, .int .i64 1, .int .i64 N1, .int .i64 0, .int .i64 0, .bool rb, .int .u8 fl, .bool true] 60 (0, 0)) := by have := heap_set HC.out 7 (.bool true); simpa using this
      have hh5' := heap_far (p := ⟨CB, 7, none⟩) HH5.out (heap_ne HH5.out HC.out (by decide)) (.bool true)
      have HKn := HKW.out.setNew (g := CB) (i := 7) (Nat.le_of_eq hCB) (.bool true)
      refine ⟨Lib.hid ⟨none, 0, ?_, Nat.le_refl 0, by omega, fun hl => absurd hl (by simp)⟩, Lib.hid (heap_far HCn (heap_ne HCn hh5' (by decide)) _), Lib.hid (Kw.trans HKn (Kw.grown (grown_set _ b 0 _) hh5')), Lib.hid ((HB.out.setCell (p := ⟨CB, 7, none⟩) hBC _).setCell (p := ⟨b, 0, none⟩) hB _)⟩
      have := heap_set hh5' 0 (.slice none 0 0)
      simpa using this
  case rest =>
  clear g0 g1 g2 g3 g4 g5 g6 g7 g8 z0 z1 z2 z3 z4 z5 z6 z7 z8 hlt
  clear c0 c1 c2 c3 c4 c5 c6 c7 y0 y1 y2 y3 y4 y5 y6 y7 y8
  clear HW HC HKW HB q0 q1 q2 q3 q4 HH5 HS5 HC5 HN5 HL5
  obtain ⟨HW, HC, HKW, HB⟩ := hcut
  generalize wc = w21 at HW HC HKW HB ⊢
  obtain ⟨⟨⟨g0, g1, g2, g3, g4, g5, g6, g7, g8⟩, z0, z1, z2, z3, z4, z5, z6, z7, z8⟩, hlt⟩ := obox9 (HKW.out.2 _ _ _ _ HH3.out (by decide))
  obtain ⟨⟨c0, c1, c2, c3, c4, c5, c6, c7⟩, ⟨y0, y1, y2, y3, y4, y5, y6, y7⟩, y8⟩ := obox8f HC.out
  have HKk := Lib.hid (HK3.out.keep (fun g cs hh => HKW.out.2 _ _ _ _ hh (by decide)) (fun g cs hh => HKW.out.2 _ _ _ _ hh (by decide)))
  obtain ⟨l, rfl⟩ : ∃ l, n = l + 1 := ⟨n - 1, by omega⟩
  have hkk := HKk.out.kinds
  rw [HN.out] at hkk
  obtain ⟨gk, rfl, hgB, hgk, hkc⟩ := own_rowF hkk (by omega)
  have kcell : w21.cell? ⟨gk, l * 4 + 1, none⟩ = some (.slice (FA l) (kA ks l).fields.length (FC l)) := by
    rw [hkc (l * 4 + 1) (by omega), rowsC_at (by omega) (by decide)]
    rfl
  clear hkc hkk
  go_upto_region 15 with fail
  go_quiet (fail)
  go_upto_region 16 with fail
  have HK22 : KOwn (w21.drewN nq) B (some ⟨gk, 0, none⟩) c ks FA FC := HKk.out.keep (fun g cs hh => hh) (fun g cs hh => hh)
  have HC22 : (w21.drewN nq).heap[CB]? = some (.cells #[.string nm, .int .i64 1, .int .i64 N1, .int .i64 0, .int .i64 0, .bool rb, .int .u8 fl, .bool nb] 60 (0, 0)) := by exact HC.out
  have HW22 : Wds (w21.drewN nq) b (if nb = true then [] else L.drop (2 + sK m 1)) bad := by exact HW.out
  have HKW22 : Kw w3 (w21.drewN nq) := by exact HKW.out
  have HB22 : Below B w (w21.drewN nq) := by exact below_drewN HB.out _
  have kc22 : (w21.drewN nq).cell? ⟨gk, l * 4 + 1, none⟩ = some (.slice (FA l) (kA ks l).fields.length (FC l)) := by exact kcell
  have hgk22 : gk < (w21.drewN nq).heap.size := by exact hgk
  clear g0 g1 g2 g3 g4 g5 g6 g7 g8 z0 z1 z2 z3 z4 z5 z6 z7 z8 hlt
  clear c0 c1 c2 c3 c4 c5 c6 c7 y0 y1 y2 y3 y4 y5 y6 y7 y8
  clear HW HC HKW HB HKk kcell hgk
  generalize w21.drewN nq = w22 at HK22 HC22 HW22 HKW22 HB22 kc22 hgk22 ⊢
  obtain ⟨i0, hi⟩ : ∃ i, Tryz.prog.info? 60 = some i := ⟨_, rfl⟩
  have hz0 : i0.zero = some (.agg #[.string ⟨#[]⟩, .int .i64 0, .int .i64 0, .int .i64 0, .int .i64 0, .bool false, .int .u8 0, .bool false]) := by obtain rfl := Option.some.inj (hi.symm.trans rfl); rfl
  have hz1 : i0.size = 8 := by obtain rfl := Option.some.inj (hi.symm.trans rfl); rfl
  have hz2 : i0.bytes = 56 := by obtain rfl := Option.some.inj (hi.symm.trans rfl); rfl
  have HI := Lib.hid hi; have HZ0 := Lib.hid hz0; have HZ1 := Lib.hid hz1; have HZ2 := Lib.hid hz2
  clear hi hz0 hz1 hz2
  have hlk : l < ks.length := by rw [HN.out]; omega
  have HOW := Lib.hid (HK22.cols l hlk)
  have hmN : (kA ks l).fields.length ≤ N := (HOK.out.2 (kA ks l) (by rw [← kA_get hlk]; exact List.getElem_mem _)).1.2
  obtain ⟨fs, hfs⟩ : ∃ x, (kA ks l).fields = x := ⟨_, rfl⟩
  have HFS := Lib.hid hfs
  rw [hfs] at kc22 HOW hmN
  obtain ⟨mm, hmm⟩ : ∃ x, fs.length = x := ⟨_, rfl⟩
  have HMM := Lib.hid hmm
  rw [hmm] at kc22 HOW hmN
  clear hfs hmm hlk
  have HK2 := Lib.hid HK22; have HC2 := Lib.hid HC22; have HW2 := Lib.hid HW22; have HKW2 := Lib.hid HKW22
  obtain ⟨ckk, hckk⟩ : ∃ cs, w22.heap[gk]? = some (.cells cs 67 (0, 0)) := by
    rcases HK22.kinds.2 with ⟨hv, _⟩ | ⟨g', cap', cur, hv, _, hh, _⟩
    · cases hv
    · cases hv; exact ⟨cur, hh⟩
  have HCK := Lib.hid hckk
  have hKeepS : Hid (∀ (g : Nat) (cs : Array Value) (T : TypeId), ∀ {f : Nat × Nat} {w' : World}, w22.grownBy w' (Value.slice (FA l) mm (FC l)).ownBlock → w22.heap[g]? = some (.cells cs T f) → T ≠ 60 → w'.heap[g]? = some (.cells cs T f)) := Lib.hid (fun g cs T f w' hg hh hT => grown_type HOW.out hg hh hT)
  have HFI : Hid (colOk m 1 L = true ↔ (if nb = true then [] else L.drop (2 + sK m 1)) = [] ∧ bad = false) := Lib.hid (by
    have hf := HF.out.2.2
    have hn : nb = needB L (2 + sK m 1) := HNB.out.symm
    have hmb : MB = decide (sK m 1 ≠ 0) := HMB.out.symm
    have e1 : (if nb = true then [] else L.drop (2 + sK m 1)) = [] ↔ (nb = true ∨ L.length ≤ 2 + sK m 1) := by
      cases nb with
      | true => simp
      | false => simp
    rw [e1, hf, hn, hmb]
    have hy := HYF.out; have hs := HSD.out; have h1 := HO1.out
    skip
    unfold colOk
    rw [show (2 + pK 1 : Nat) = 2 from rfl, show (3 + pK 1 : Nat) = 3 from rfl, hs, hy, h1]
    have l1 : O1 = true → 1 < L.length := fun h => nOk_lt (h1.trans h)
    skip
    have l3 : YF = true → 3 < L.length := fun h => yOk_lt (hy.trans h)
    have hsk : sK m 1 = 0 ∨ sK m 1 = 2 := by unfold sK; split <;> simp
    have hnd : needB L (2 + sK m 1) = true → L.length = 2 + sK m 1 + 1 := fun h => by
      unfold needB at h
      rw [Bool.and_eq_true] at h
      exact of_decide_eq_true h.1
    rcases hsk with hsk | hsk
    · rw [hsk] at hnd ⊢
      simp only [Bool.and_eq_true, Bool.or_eq_true, decide_eq_true_eq]
      constructor
      · rintro ⟨⟨⟨x1, x2⟩, x3⟩, -⟩
        exact ⟨x1.elim (fun x => .inr (by omega)) .inl, x2, .inl (by decide)⟩
      · rintro ⟨x1, x2, -⟩
        refine ⟨⟨⟨x1.elim .inr (fun x => .inl ?_), x2⟩, .inl (by decide)⟩, .inl trivial⟩
        have := l1 x2
        omega
    · rw [hsk] at hnd ⊢
      simp only [Bool.and_eq_true, Bool.or_eq_true, decide_eq_true_eq]
      constructor
      · rintro ⟨⟨⟨x1, x2⟩, x3⟩, x4⟩
        obtain ⟨x5, x6⟩ := x4.resolve_left (by decide)
        exact ⟨x1.elim (fun x => .inr (by omega)) .inl, x2, .inr ⟨x5, x6⟩⟩
      · rintro ⟨x1, x2, x4⟩
        obtain ⟨x5, x6⟩ := x4.resolve_left (by decide)
        refine ⟨⟨⟨x1.elim .inr (fun x => .inl ?_), x2⟩, .inl (by decide)⟩, .inr ⟨x5, x6⟩⟩
        have := l3 x6
        omega)
  have hneC : Hid (some CB ≠ (Value.slice (FA l) mm (FC l)).ownBlock) := Lib.hid (fun e => by
    have h1 := (HK3.out.cols l (by rw [HN.out]; omega)).lt CB (by cases hA : FA l with | none => rw [hA] at e; cases e | some a => rw [hA] at e; exact e.symm)
    omega)
  have hneK : Hid (some gk ≠ (Value.slice (FA l) mm (FC l)).ownBlock) := Lib.hid (fun e => by
    rcases HOW.out.2 with ⟨hv, _⟩ | ⟨g', cap', cur, hv, _, hh, _⟩
    · rw [hv] at e; cases e
    · rw [hv] at e
      injection e with e
      have e' : gk = g' := e
      subst e'
      rw [hckk] at hh
      injection hh with hh
      injection hh with _ hh
      exact absurd hh (by decide))
  have hfz : w22.frozen? ⟨gk, l * 4 + 1, none⟩ = false := by simp [World.frozen?, hckk]
  clear HK22 HC22 HW22 HKW22 hckk
  have HC := HC2
  obtain ⟨⟨c0, c1, c2, c3, c4, c5, c6, c7⟩, ⟨y0, y1, y2, y3, y4, y5, y6, y7⟩, y8⟩ := obox8f HC.out
  go_region_law (first | (refine step_append_lies _ rfl (.tmp 103) (.tmp 105) 65 rfl B 60 i0 (.agg #[.string ⟨#[]⟩, .int .i64 0, .int .i64 0, .int .i64 0, .int .i64 0, .bool false, .int .u8 0, .bool false]) 8 56 Tryz.underlying65 HI.out HZ0.out HZ1.out HZ2.out rfl (by decide) (.slice (FA l) mm (FC l)) mm (rowsC 8 mm (colV fs)) rfl (by exact HOW.out.alloc (.cells #[.string nm, .int .i64 1, .int .i64 N1, .int .i64 0, .int .i64 0, .bool rb, .int .u8 fl, .bool nb] 60)) ⟨w22.heap.size, 0, none⟩ 1 1 [.string nm, .int .i64 1, .int .i64 N1, .int .i64 0, .int .i64 0, .bool rb, .int .u8 fl, .bool nb] rfl rfl (by exact k_cellsF w22 [.string nm, .int .i64 1, .int .i64 N1, .int .i64 0, .int .i64 0, .bool rb, .int .u8 fl, .bool nb] 60) (by intro u hu; simp at hu; rcases hu with rfl | rfl | rfl | rfl | rfl | rfl | rfl | rfl <;> rfl) (by decide) (by unfold maxLen; omega) (by omega) (by have := HB22.size; simp; omega) _ rfl ?_; intro G cap w4 hown4 hg4 hat4 hlt4; (have hg4 := grown_alloc (grown_drewF hg4)); (have hC4 : w4.heap[CB]? = some (.cells #[.string nm, .int .i64 1, .int .i64 N1, .int .i64 0, .int .i64 0, .bool rb, .int .u8 fl, .bool nb] 60 (0, 0)) := (hg4.block CB (lt_heap HC2.out) (fun e => hneC.out e)).trans HC2.out); (have hK4 := grown_type HOW.out hg4 HCK.out (by decide)); (have kc4 : w4.cell? ⟨gk, l * 4 + 1, none⟩ = some (.slice (FA l) mm (FC l)) := (hg4.cell kc22 (fun e => hneK.out e))); (have hfz4 : w4.frozen? ⟨gk, l * 4 + 1, none⟩ = false := by simp [World.frozen?, hK4]); obtain ⟨⟨r0, r1, r2, r3, r4, r5, r6, r7⟩, -, -⟩ := obox8f hC4))
  all_goals
    go_wp2
    go_ret
    have hL1 : ks.length - 1 = l := by rw [HN.out]; omega
    have hCol : colL (colW m 1 L) = [.string nm, .int .i64 1, .int .i64 N1, .int .i64 0, .int .i64 0, .bool rb, .int .u8 fl, .bool nb] := by
      unfold colL colW
      obtain ⟨e1, e2, -⟩ := HF.out
      have e3 : (decide (sK m 1 ≠ 0) && decide (wd L (2 + pK 1) = wRight)) = rb := by
        rw [e1, HMB.out]
        rw [show (2 + pK 1 : Nat) = 2 from rfl, HSD.out]
      have e4 : (if sK m 1 ≠ 0 then nVal (wd L (3 + pK 1)) % 256 else 0) = fl := by
        rw [e2, show (3 + pK 1 : Nat) = 3 from rfl, HNF.out]
        have := HMB.out
        by_cases h : sK m 1 ≠ 0
        · rw [if_pos h]; rw [decide_eq_true h] at this; rw [← this, if_pos rfl]
        · rw [if_neg h]; rw [decide_eq_false h] at this; rw [← this, if_neg (by decide)]
      simp only [e3, e4]
      rw [show needB L (2 + pK 1 + sK m 1) = nb from HNB.out, HNM.out, HN1.out]
      rfl
    have hKf := KOwn.col (x := colW m 1 L) (w' := w4) (B := B) (H := (w22.alloc (.cells #[.string nm, .int .i64 1, .int .i64 N1, .int .i64 0, .int .i64 0, .bool rb, .int .u8 fl, .bool nb] 60)).drew.heap.size) (g := G) (c' := cap) HK2.out (by rw [HN.out]; omega)
      (by rw [hL1, HFS.out, HMM.out, hCol]; exact hown4) (by rw [hL1, HFS.out, HMM.out]; exact hg4) (by rw [hL1, HFS.out, HMM.out]; exact hat4) (by show _ ≤ (w22.alloc (.cells #[.string nm, .int .i64 1, .int .i64 N1, .int .i64 0, .int .i64 0, .bool rb, .int .u8 fl, .bool nb] 60)).heap.size; simp)
    rw [hL1, HFS.out, HMM.out] at hKf
    have hRw := heap_far (hKeepS.out _ _ _ hg4 (HKW2.out.2 _ _ _ _ HH3.out (by decide)) (by decide)) (p := ⟨gk, l * 4 + 1, none⟩) (heap_ne (hKeepS.out _ _ _ hg4 (HKW2.out.2 _ _ _ _ HH3.out (by decide)) (by decide)) hK4 (by decide)) (.slice (some ⟨G, 0, none⟩) (mm + 1) cap)
    have hFR : FR (w4.setCell ⟨gk, l * 4 + 1, none⟩ (.slice (some ⟨G, 0, none⟩) (mm + 1) cap)) B r S (N + 1) ⟨⟨m, q, addCol ks (colW m 1 L), hd, tl, ct, sm⟩, bg, en⟩ := by
      refine ⟨hBr, HOK.out.col (x := colW m 1 L) (by show (wd L 0).size ≤ S; rw [HNM.out]; exact hnm), _, c, _, _, ?_, hKf⟩
      unfold frC
      simp only
      rw [addCol_len, HN.out]
      exact hRw
    have hWf : Wds (w4.setCell ⟨gk, l * 4 + 1, none⟩ (.slice (some ⟨G, 0, none⟩) (mm + 1) cap)) b (if nb = true then [] else L.drop (2 + sK m 1)) bad := by
      obtain ⟨A6, c6, x1, x2, x3, x4⟩ := HW2.out
      have x5 := hKeepS.out _ _ _ hg4 x1 (by decide)
      exact ⟨A6, c6, heap_far x5 (heap_ne x5 hK4 (by decide)) _, x2, x3, (x4.keep (fun g cs f hh => hKeepS.out _ _ _ hg4 hh (by decide))).far hK4 (by decide) _⟩
    have hBf : Below B w (w4.setCell ⟨gk, l * 4 + 1, none⟩ (.slice (some ⟨G, 0, none⟩) (mm + 1) cap)) := by
      refine ((HB22.trans ⟨hg4.os, hg4.tape, hg4.output, hg4.size, fun k hk => hg4.block k (by have := HB22.size; omega) (fun e => ?_)⟩)).setCell (p := ⟨gk, l * 4 + 1, none⟩) hgB _
      have := HOW.out.lt k e.symm
      omega
    have hKs : Ks w (w4.setCell ⟨gk, l * 4 + 1, none⟩ (.slice (some ⟨G, 0, none⟩) (mm + 1) cap)) := by
      refine HKS3.out.trans ((Ks.of HKW2.out).trans (Ks.trans ⟨hg4.size, fun g cs f hh => hKeepS.out _ _ _ hg4 hh (by decide)⟩ (Ks.set hK4 (by decide) _)))
    by_cases hco : colOk m 1 L = true
    · have hO : O = some ⟨⟨m, q, addCol ks (colW m 1 L), hd, tl, ct, sm⟩, bg, en⟩ := by rw [← HO.out]; exact if_pos ⟨HKS.out, hco⟩
      obtain ⟨h1, h2⟩ := HFI.out.1 hco
      rw [h1, h2] at hWf
      exact RetLn.yes hO hWf hFR hBf hKs
    · have hO : O = none := by rw [← HO.out]; exact if_neg (fun h => hco h.2)
      exact RetLn.no hO (fun h => hco (HFI.out.2 ⟨h.2.1, h.2.2⟩)) hWf hBf hKs
set_option maxHeartbeats 4000000 in
set_option maxRecDepth 100000 in
theorem column2_c (B r b S N : Nat) (st : FSt) (L : List ByteArray) (w : World) (hNN : N ≤ 1000000) (hS : S ≤ 9223372036854775807) (hz : ∀ s ∈ L, s.size ≤ S) (hB : B ≤ b) (hf : FR w B r S N st) (hw : Wds w b L false) :
    Calls Tryz.prog 127 #[.pointer (some ⟨r, 0, none⟩), .int .i64 2, .pointer (some ⟨b, 0, none⟩)] w
      (RetLn (if st.f.kinds ≠ [] ∧ colOk st.f.mark 2 L = true then some { st with f := { st.f with kinds := addCol st.f.kinds (colW st.f.mark 2 L) } } else none) B r b S (N + 1) w) := by
  obtain ⟨hBr, hok, A, c, FA, FC, hh, hK⟩ := hf
  have hBw : B ≤ w.heap.size := by have := lt_heap hh; omega
  obtain ⟨⟨m, q, ks, hd, tl, ct, sm⟩, bg, en⟩ := st
  unfold frC at hh
  simp only at hh hK hok ⊢
  obtain ⟨⟨⟨g0, g1, g2, g3, g4, g5, g6, g7, g8⟩, z0, z1, z2, z3, z4, z5, z6, z7, z8⟩, hlt⟩ := obox9 hh
  have HH := Lib.hid hh; have HK := Lib.hid hK; have HW := Lib.hid hw; have HOK := Lib.hid hok
  obtain ⟨O, hO⟩ : ∃ o, (if ks ≠ [] ∧ colOk m 2 L = true then some (⟨⟨m, q, addCol ks (colW m 2 L), hd, tl, ct, sm⟩, bg, en⟩ : FSt) else none) = o := ⟨_, rfl⟩
  rw [hO]
  have HO := Lib.hid hO
  obtain ⟨n, hn⟩ : ∃ n, ks.length = n := ⟨_, rfl⟩
  rw [hn] at g2
  have HN := Lib.hid hn
  have hcap := own_cap hK.kinds
  rw [hn] at hcap
  unfold maxLen at hcap
  clear hh hK hw hok hO
  by_cases hk0 : n = 0
  · subst hk0
    have hks : ks = [] := List.length_eq_zero_iff.1 hn
    have HE := Lib.hid (show O = none by rw [← HO.out]; exact if_neg (fun h => h.1 hks))
    clear hn
    go_enter Tryz.func127, Tryz.ntmps127
    go_wp2
    go_ret
    exact RetLn.no (L := L) (bad := false) HE.out (fun h => by cases h.1) HW.out (Below.refl _ _) (Ks.of (Kw.refl _))
  have hks : ks ≠ [] := fun e => hk0 (by rw [← hn, e]; rfl)
  have hn0 : ((n : Int) == 0) = false := by
    have : ¬ (n : Int) = 0 := by omega
    simpa using this
  have HKS := Lib.hid hks
  have HX1 := Lib.hid (next_c b L false w HW.out)
  have HXN := Lib.hid (fun k bad w h => wnum_c b (L.drop k) bad w (fun s hs => Nat.le_trans (hz s (List.mem_of_mem_drop hs)) hS) h)
  have HXY := Lib.hid (fun k bad w h => wbyte_c b (L.drop k) bad w (fun s hs => Nat.le_trans (hz s (List.mem_of_mem_drop hs)) hS) h)
  unfold RetNx at HX1 HXN HXY
  simp only [wd_drop, drop_tail, Nat.add_zero] at HXN HXY
  have HXS := Lib.hid (fun k bad w h => next_c b (L.drop k) bad w h)
  unfold RetNx at HXS
  simp only [wd_drop, drop_tail, Nat.add_zero] at HXS
  have hN1 := nVal_bd (wd L 1)
  have hnm := wd_sz hz 0
  obtain ⟨nm, hnme⟩ : ∃ x, wd L 0 = x := ⟨_, rfl⟩
  rw [hnme] at HX1 hnm
  have HNM := Lib.hid hnme; have HZ := Lib.hid hz
  have HT := Lib.hid (show L.tail = L.drop 1 by rw [List.drop_one])
  rw [HT.out] at HX1
  obtain ⟨N1, hN1e⟩ : ∃ x, nVal (wd L 1) = x := ⟨_, rfl⟩
  obtain ⟨O1, hO1e⟩ : ∃ x, nOk (wd L 1) = x := ⟨_, rfl⟩
  have HN1 := Lib.hid hN1e; have HO1 := Lib.hid hO1e
  have HXA := Lib.hid (HXN.out 1)
  rw [hN1e, hO1e] at HXA
  clear hnme hN1e hO1e hz hks hn
  go_enter Tryz.func127, Tryz.ntmps127
  go_wp2_with fail
  refine HX1.out.mono ?_
  rintro e w2 ⟨rfl, hw2, hg2⟩
  obtain ⟨cs1, hbl1⟩ := HW.out.block
  have hk2 := Kw.grown hg2 hbl1
  have hb2 := below_grown hg2 hB hBw
  go_wp2_with fail
  refine (HXA.out _ _ hw2).mono ?_
  rintro e w3 ⟨rfl, hw3, hg3⟩
  obtain ⟨cs2, hbl2⟩ := hw2.block
  have hk3 := Kw.trans hk2 (Kw.grown hg3 hbl2)
  have hb3 := hb2.trans (below_grown hg3 hB (by have := hk2.1; omega))
  have hbad : (false || L.isEmpty || !O1) = (!O1) := by
    cases hO : O1 with
    | false => simp
    | true =>
      have := nOk_lt (HO1.out.trans hO)
      cases L with
      | nil => simp at this
      | cons a L => rfl
  rw [hbad] at hw3
  have hs3 := hk3.1
  have HH3 := Lib.hid (hk3.2 _ _ _ _ HH.out (by decide))
  have HK3 := Lib.hid (HK.out.keep (fun g cs hh => hk3.2 _ _ _ _ hh (by decide)) (fun g cs hh => hk3.2 _ _ _ _ hh (by decide)))
  have HB3 := Lib.hid hb3; have HW3 := Lib.hid hw3; have HKS3 := Lib.hid (Ks.of hk3)
  clear g0 g1 g2 g3 g4 g5 g6 g7 g8 z0 z1 z2 z3 z4 z5 z6 z7 z8 hlt
  clear hk2 hk3 hw3 hb3 hb2 hg3 hg2 hbl1 hbl2 hw2 hbad HX1 HXA HH HK HW
  rw [HN.out] at HH3
  have HC := Lib.hid (heap_new w3 (.cells #[.string nm, .int .i64 2, .int .i64 N1, .int .i64 0, .int .i64 0, .bool false, .int .u8 0, .bool false] 60) rfl)
  have HW := Lib.hid (HW3.out.alloc (.cells #[.string nm, .int .i64 2, .int .i64 N1, .int .i64 0, .int .i64 0, .bool false, .int .u8 0, .bool false] 60))
  have HKW := Lib.hid ((Kw.refl w3).alloc (.cells #[.string nm, .int .i64 2, .int .i64 N1, .int .i64 0, .int .i64 0, .bool false, .int .u8 0, .bool false] 60))
  have HB : Hid (Below B w (w3.alloc (.cells #[.string nm, .int .i64 2, .int .i64 N1, .int .i64 0, .int .i64 0, .bool false, .int .u8 0, .bool false] 60))) := Lib.hid (HB3.out.alloc (by have := HB3.out.size; omega) _)
  go_upto_region 5 with fail
  obtain ⟨CB, hCB⟩ : ∃ x, w3.heap.size = x := ⟨_, rfl⟩
  have hBC : B ≤ CB := by have := HB3.out.size; omega
  rw [hCB] at HC ⊢
  generalize w3.alloc (.cells #[.string nm, .int .i64 2, .int .i64 N1, .int .i64 0, .int .i64 0, .bool false, .int .u8 0, .bool false] 60) = w4 at HC HW HKW HB ⊢
  clear HW3
  obtain ⟨⟨⟨g0, g1, g2, g3, g4, g5, g6, g7, g8⟩, z0, z1, z2, z3, z4, z5, z6, z7, z8⟩, hlt⟩ := obox9 (HKW.out.2 _ _ _ _ HH3.out (by decide))
  obtain ⟨⟨c0, c1, c2, c3, c4, c5, c6, c7⟩, ⟨y0, y1, y2, y3, y4, y5, y6, y7⟩, y8⟩ := obox8f HC.out
  obtain ⟨N2, hN2e⟩ : ∃ x, nVal (wd L 2) = x := ⟨_, rfl⟩
  obtain ⟨O2, hO2e⟩ : ∃ x, nOk (wd L 2) = x := ⟨_, rfl⟩
  have HXB := Lib.hid (HXN.out 2)
  rw [hN2e, hO2e] at HXB
  have HN2 := Lib.hid hN2e; have HO2 := Lib.hid hO2e
  clear hN2e hO2e
  go_wp2_with fail
  refine (HXB.out _ _ HW.out).mono ?_
  rintro e w5 ⟨rfl, hwx, hgx⟩
  obtain ⟨csx, hblx⟩ := HW.out.block
  have HKW5 := Lib.hid (Kw.trans HKW.out (Kw.grown hgx hblx))
  have HC5 := Lib.hid (grown_block hgx (heap_ne HC.out hblx (by decide)) HC.out)
  have HB5 := Lib.hid (HB.out.trans (below_grown hgx hB (by have := HB.out.size; omega)))
  clear g0 g1 g2 g3 g4 g5 g6 g7 g8 z0 z1 z2 z3 z4 z5 z6 z7 z8 hlt
  clear c0 c1 c2 c3 c4 c5 c6 c7 y0 y1 y2 y3 y4 y5 y6 y7 y8
  clear HKW HC HB HW hblx
  have HKW := HKW5; have HC := HC5; have HB := HB5; have HW := Lib.hid hwx
  clear HKW5 HC5 HB5 hwx hgx
  obtain ⟨⟨⟨g0, g1, g2, g3, g4, g5, g6, g7, g8⟩, z0, z1, z2, z3, z4, z5, z6, z7, z8⟩, hlt⟩ := obox9 (HKW.out.2 _ _ _ _ HH3.out (by decide))
  obtain ⟨⟨c0, c1, c2, c3, c4, c5, c6, c7⟩, ⟨y0, y1, y2, y3, y4, y5, y6, y7⟩, y8⟩ := obox8f HC.out
  go_upto_region 9 with fail
  have HCn := HC; have HWn := HW; have HKn := HKW; have HBn := HB
  have HWn := Lib.hid (HWn.out.set (i := 3) HCn.out (by decide) (by decide) (.int .i64 N2))
  have HCn : Hid ((w5.setCell ⟨CB, 3, none⟩ (.int .i64 N2)).heap[CB]? = some (.cells #[.string nm, .int .i64 2, .int .i64 N1, .int .i64 N2, .int .i64 0, .bool false, .int .u8 0, .bool false] 60 (0, 0))) := Lib.hid (by have := heap_set HCn.out 3 (.int .i64 N2); simpa using this)
  have HKn := Lib.hid (HKn.out.setNew (g := CB) (i := 3) (Nat.le_of_eq hCB) (.int .i64 N2))
  have HBn : Hid (Below B w (w5.setCell ⟨CB, 3, none⟩ (.int .i64 N2))) := Lib.hid (HBn.out.setCell (p := ⟨CB, 3, none⟩) hBC _)
  clear g0 g1 g2 g3 g4 g5 g6 g7 g8 z0 z1 z2 z3 z4 z5 z6 z7 z8 hlt
  clear c0 c1 c2 c3 c4 c5 c6 c7 y0 y1 y2 y3 y4 y5 y6 y7 y8
  clear HC HW HKW HB
  generalize w5.setCell ⟨CB, 3, none⟩ (.int .i64 N2) = w6 at HCn HWn HKn HBn ⊢
  have HC := HCn; have HW := HWn; have HKW := HKn; have HB := HBn
  clear HCn HWn HKn HBn
  obtain ⟨⟨⟨g0, g1, g2, g3, g4, g5, g6, g7, g8⟩, z0, z1, z2, z3, z4, z5, z6, z7, z8⟩, hlt⟩ := obox9 (HKW.out.2 _ _ _ _ HH3.out (by decide))
  obtain ⟨⟨c0, c1, c2, c3, c4, c5, c6, c7⟩, ⟨y0, y1, y2, y3, y4, y5, y6, y7⟩, y8⟩ := obox8f HC.out
  obtain ⟨MB, hMB⟩ : ∃ x, decide (sK m 2 ≠ 0) = x := ⟨_, rfl⟩
  have HMB := Lib.hid hMB
  go_upto_region 9 with fail
  go_cut [43] (fun v wx => v = .bool MB ∧ w6 = wx)
  case first =>
    by_cases hm0 : m = 0
    · have e1 : (m == 0) = true := by simpa using hm0
      have e2 : MB = true := by rw [← hMB, hm0]; rfl
      subst e2
      clear hMB hm0
      go_wp2_with fail
      go_meet
      exact ⟨rfl, rfl⟩
    · have e1 : (m == 0) = false := by simpa using hm0
      have e2 : MB = false := by rw [← hMB]; unfold sK; rw [if_neg (fun h => hm0 h.1)]; rfl
      subst e2
      clear hMB hm0
      go_wp2_with fail
      go_meet
      exact ⟨rfl, rfl⟩
  case rest =>
  obtain ⟨rfl, rfl⟩ := hcut
  clear hMB
  obtain ⟨sd, hsd⟩ : ∃ x, wd L 3 = x := ⟨_, rfl⟩
  have HSD := Lib.hid hsd
  obtain ⟨NF, hNF⟩ : ∃ x, nVal (wd L 4) = x := ⟨_, rfl⟩
  have HNF := Lib.hid hNF
  obtain ⟨YF, hYF⟩ : ∃ x, yOk (wd L 4) = x := ⟨_, rfl⟩
  have HYF := Lib.hid hYF
  have HXC := Lib.hid (HXS.out 3)
  rw [hsd] at HXC
  have HXD := Lib.hid (HXY.out 4)
  rw [hNF, hYF] at HXD
  clear hsd hNF hYF
  go_upto_if 43 with fail
  go_cut [] (fun wx => ∃ rb fl bad, Hid (Wds wx b (L.drop (3 + sK m 2)) bad) ∧ Hid (wx.heap[CB]? = some (.cells #[.string nm, .int .i64 2, .int .i64 N1, .int .i64 N2, .int .i64 0, .bool rb, .int .u8 fl, .bool false] 60 (0, 0))) ∧ Hid (Kw w3 wx) ∧ Hid (Below B w wx) ∧ Hid (rb = (MB && decide (sd = wRight)) ∧ fl = (if MB = true then NF % 256 else 0) ∧ (bad = false ↔ (O1 = true ∧ O2 = true) ∧ (MB = false ∨ (sd = wLeft ∨ sd = wRight) ∧ YF = true))))
  case first =>
    cases MB with
    | false =>
      have hs0 : sK m 2 = 0 := by
        have := HMB.out
        exact Classical.byContradiction fun e => by rw [decide_eq_true e] at this; cases this
      go_wp2_with fail
      go_meet
      exact ⟨false, 0, _, by rw [hs0]; exact HW, HC, HKW, HB, Lib.hid ⟨rfl, rfl, by cases O1 <;> cases O2 <;> simp⟩⟩
    | true =>
      have hs2 : sK m 2 = 2 := by
        have := HMB.out
        by_cases h : m = 0 ∧ (2 : Int) ≠ 3
        · unfold sK; rw [if_pos h]
        · unfold sK at this; rw [if_neg h] at this; cases this
      have HS2 := Lib.hid hs2
      clear hs2
      obtain ⟨rb, hrb⟩ : ∃ x, (sd.toList == [114, 105, 103, 104, 116]) = x := ⟨_, rfl⟩
      obtain ⟨lb, hlb⟩ : ∃ x, (sd.toList == [108, 101, 102, 116]) = x := ⟨_, rfl⟩
      have HRB := Lib.hid hrb; have HLB := Lib.hid hlb
      have HR2 : Hid (rb = (true && decide (sd = wRight))) := Lib.hid (by rw [← hrb, lit_dec]; rfl)
      go_wp2_with fail
      refine (HXC.out _ _ HW.out).mono ?_
      rintro e w7 ⟨rfl, hwx, hgx⟩
      obtain ⟨csx, hblx⟩ := HW.out.block
      have HKW7 := Lib.hid (Kw.trans HKW.out (Kw.grown hgx hblx))
      have HC7 := Lib.hid (grown_block hgx (heap_ne HC.out hblx (by decide)) HC.out)
      have HB7 := Lib.hid (HB.out.trans (below_grown hgx hB (by have := HB.out.size; omega)))
      clear g0 g1 g2 g3 g4 g5 g6 g7 g8 z0 z1 z2 z3 z4 z5 z6 z7 z8 hlt
      clear c0 c1 c2 c3 c4 c5 c6 c7 y0 y1 y2 y3 y4 y5 y6 y7 y8
      clear HKW HC HB HW hblx
      have HKW := HKW7; have HC := HC7; have HB := HB7; have HW := Lib.hid hwx
      clear HKW7 HC7 HB7 hwx hgx
      obtain ⟨⟨⟨g0, g1, g2, g3, g4, g5, g6, g7, g8⟩, z0, z1, z2, z3, z4, z5, z6, z7, z8⟩, hlt⟩ := obox9 (HKW.out.2 _ _ _ _ HH3.out (by decide))
      obtain ⟨⟨c0, c1, c2, c3, c4, c5, c6, c7⟩, ⟨y0, y1, y2, y3, y4, y5, y6, y7⟩, y8⟩ := obox8f HC.out
      go_wp2_with fail
      refine (HXD.out _ _ HW.out).mono ?_
      rintro e w8 ⟨rfl, hwx, hgx⟩
      obtain ⟨csx, hblx⟩ := HW.out.block
      have HKW8 := Lib.hid (Kw.trans HKW.out (Kw.grown hgx hblx))
      have HC8 := Lib.hid (grown_block hgx (heap_ne HC.out hblx (by decide)) HC.out)
      have HB8 := Lib.hid (HB.out.trans (below_grown hgx hB (by have := HB.out.size; omega)))
      clear g0 g1 g2 g3 g4 g5 g6 g7 g8 z0 z1 z2 z3 z4 z5 z6 z7 z8 hlt
      clear c0 c1 c2 c3 c4 c5 c6 c7 y0 y1 y2 y3 y4 y5 y6 y7 y8
      clear HKW HC HB HW hblx
      have HKW := HKW8; have HC := HC8; have HB := HB8; have HW := Lib.hid hwx
      clear HKW8 HC8 HB8 hwx hgx
      obtain ⟨⟨⟨g0, g1, g2, g3, g4, g5, g6, g7, g8⟩, z0, z1, z2, z3, z4, z5, z6, z7, z8⟩, hlt⟩ := obox9 (HKW.out.2 _ _ _ _ HH3.out (by decide))
      obtain ⟨⟨c0, c1, c2, c3, c4, c5, c6, c7⟩, ⟨y0, y1, y2, y3, y4, y5, y6, y7⟩, y8⟩ := obox8f HC.out
      go_upto_region 12 with fail
      have HCn := HC; have HWn := HW; have HKn := HKW; have HBn := HB
      have HWn := Lib.hid (HWn.out.set (i := 5) HCn.out (by decide) (by decide) (.bool rb))
      have HCn : Hid ((w8.setCell ⟨CB, 5, none⟩ (.bool rb)).heap[CB]? = some (.cells #[.string nm, .int .i64 2, .int .i64 N1, .int .i64 N2, .int .i64 0, .bool rb, .int .u8 0, .bool false] 60 (0, 0))) := Lib.hid (by have := heap_set HCn.out 5 (.bool rb); simpa using this)
      have HKn := Lib.hid (HKn.out.setNew (g := CB) (i := 5) (Nat.le_of_eq hCB) (.bool rb))
      have HBn : Hid (Below B w (w8.setCell ⟨CB, 5, none⟩ (.bool rb))) := Lib.hid (HBn.out.setCell (p := ⟨CB, 5, none⟩) hBC _)
      have HWn := Lib.hid (HWn.out.set (i := 6) HCn.out (by decide) (by decide) (.int .u8 (NF % 256)))
      have HCn : Hid (((w8.setCell ⟨CB, 5, none⟩ (.bool rb)).setCell ⟨CB, 6, none⟩ (.int .u8 (NF % 256))).heap[CB]? = some (.cells #[.string nm, .int .i64 2, .int .i64 N1, .int .i64 N2, .int .i64 0, .bool rb, .int .u8 (NF % 256), .bool false] 60 (0, 0))) := Lib.hid (by have := heap_set HCn.out 6 (.int .u8 (NF % 256)); simpa using this)
      have HKn := Lib.hid (HKn.out.setNew (g := CB) (i := 6) (Nat.le_of_eq hCB) (.int .u8 (NF % 256)))
      have HBn : Hid (Below B w ((w8.setCell ⟨CB, 5, none⟩ (.bool rb)).setCell ⟨CB, 6, none⟩ (.int .u8 (NF % 256)))) := Lib.hid (HBn.out.setCell (p := ⟨CB, 6, none⟩) hBC _)
      clear g0 g1 g2 g3 g4 g5 g6 g7 g8 z0 z1 z2 z3 z4 z5 z6 z7 z8 hlt
      clear c0 c1 c2 c3 c4 c5 c6 c7 y0 y1 y2 y3 y4 y5 y6 y7 y8
      clear HC HW HKW HB
      generalize (w8.setCell ⟨CB, 5, none⟩ (.bool rb)).setCell ⟨CB, 6, none⟩ (.int .u8 (NF % 256)) = w9 at HCn HWn HKn HBn ⊢
      have HC := HCn; have HW := HWn; have HKW := HKn; have HB := HBn
      clear HCn HWn HKn HBn
      obtain ⟨⟨⟨g0, g1, g2, g3, g4, g5, g6, g7, g8⟩, z0, z1, z2, z3, z4, z5, z6, z7, z8⟩, hlt⟩ := obox9 (HKW.out.2 _ _ _ _ HH3.out (by decide))
      obtain ⟨⟨c0, c1, c2, c3, c4, c5, c6, c7⟩, ⟨y0, y1, y2, y3, y4, y5, y6, y7⟩, y8⟩ := obox8f HC.out
      obtain ⟨A5, c5, hh5, hc5, hm5, hs5⟩ := HW.out
      obtain ⟨q0, q1, q2, q3, q4⟩ := box2 hh5
      have HH5 := Lib.hid hh5; have HS5 := Lib.hid hs5; have HC5 := Lib.hid hc5
      obtain ⟨n5, hn5⟩ : ∃ x, (List.drop (4 + 1) L).length = x := ⟨_, rfl⟩
      have HN5 := Lib.hid hn5
      obtain ⟨BX, hBX⟩ : ∃ x, (!O1 || !O2 || (List.drop 3 L).isEmpty || !YF) = x := ⟨_, rfl⟩
      have HBX := Lib.hid hBX
      rw [hn5] at q0
      rw [hBX] at q1
      have hWf : ∀ z, Wds (w9.setCell ⟨b, 1, none⟩ (.bool z)) b (L.drop (3 + sK m 2)) z := fun z => by
        refine ⟨A5, c5, ?_, by rw [HS2.out]; exact HC5.out, hm5, by rw [HS2.out]; exact Sts.far HS5.out HH5.out (by decide) _⟩
        have := heap_set HH5.out 1 (.bool z)
        rw [HS2.out]
        simpa using this
      have HWF := Lib.hid hWf
      have hKf : ∀ z, Kw w3 (w9.setCell ⟨b, 1, none⟩ (.bool z)) := fun z => Kw.trans HKW.out (Kw.grown (grown_set _ b 1 _) HH5.out)
      have hCf : ∀ z, (w9.setCell ⟨b, 1, none⟩ (.bool z)).heap[CB]? = some (.cells #[.string nm, .int .i64 2, .int .i64 N1, .int .i64 N2, .int .i64 0, .bool rb, .int .u8 (NF % 256), .bool false] 60 (0, 0)) := fun z => heap_far HC.out (heap_ne HC.out HH5.out (by decide)) _
      have hBf : ∀ z, Below B w (w9.setCell ⟨b, 1, none⟩ (.bool z)) := fun z => HB.out.setCell (p := ⟨b, 1, none⟩) hB _
      have HKF := Lib.hid hKf; have HCF := Lib.hid hCf; have HBF := Lib.hid hBf
      have HFIN : Hid (∀ z, z = (BX || !(rb || lb)) → (z = false ↔ (O1 = true ∧ O2 = true) ∧ (true = false ∨ (sd = wLeft ∨ sd = wRight) ∧ YF = true))) := Lib.hid (fun z hz => by
        subst hz
        have hr := HRB.out; have hl := HLB.out
        rw [lit_dec] at hr hl
        have hr' : (sd = wRight) ↔ rb = true := by rw [← hr]; exact (decide_eq_true_iff).symm
        have hl' : (sd = wLeft) ↔ lb = true := by rw [← hl]; exact (decide_eq_true_iff).symm
        have hY : YF = true → (List.drop 3 L).isEmpty = false := fun h => bad_next.2 (by have := yOk_lt (HYF.out.trans h); omega)
        rw [hr', hl', ← HBX.out]
        cases hyf : YF with
        | false => simp
        | true =>
          rw [hY hyf]
          cases O1 <;> cases O2 <;> cases rb <;> cases lb <;> simp)
      clear hn5 hBX hh5 hs5 hc5 hWf hKf hCf hBf
      cases BX with
      | true =>
        go_wp2_with fail
        go_meet
        exact ⟨rb, NF % 256, true, Lib.hid (HWF.out true), Lib.hid (HCF.out true), Lib.hid (HKF.out true), Lib.hid (HBF.out true), Lib.hid ⟨HR2.out, rfl, HFIN.out _ (by simp)⟩⟩
      | false =>
        cases rb with
        | true =>
          go_wp2_with fail
          go_meet
          exact ⟨true, NF % 256, false, Lib.hid (HWF.out false), Lib.hid (HCF.out false), Lib.hid (HKF.out false), Lib.hid (HBF.out false), Lib.hid ⟨HR2.out, rfl, HFIN.out _ (by simp)⟩⟩
        | false =>
          cases lb with
          | true =>
            go_wp2_with fail
            go_meet
            exact ⟨false, NF % 256, false, Lib.hid (HWF.out false), Lib.hid (HCF.out false), Lib.hid (HKF.out false), Lib.hid (HBF.out false), Lib.hid ⟨HR2.out, rfl, HFIN.out _ (by simp)⟩⟩
          | false =>
            go_wp2_with fail
            go_meet
            exact ⟨false, NF % 256, true, Lib.hid (HWF.out true), Lib.hid (HCF.out true), Lib.hid (HKF.out true), Lib.hid (HBF.out true), Lib.hid ⟨HR2.out, rfl, HFIN.out _ (by simp)⟩⟩
  case rest =>
  clear g0 g1 g2 g3 g4 g5 g6 g7 g8 z0 z1 z2 z3 z4 z5 z6 z7 z8 hlt
  clear c0 c1 c2 c3 c4 c5 c6 c7 y0 y1 y2 y3 y4 y5 y6 y7 y8
  clear HW HC HKW HB
  obtain ⟨rb, fl, bad, HW, HC, HKW, HB, HF⟩ := hcut
  generalize wc = w20 at HW HC HKW HB ⊢
  obtain ⟨⟨⟨g0, g1, g2, g3, g4, g5, g6, g7, g8⟩, z0, z1, z2, z3, z4, z5, z6, z7, z8⟩, hlt⟩ := obox9 (HKW.out.2 _ _ _ _ HH3.out (by decide))
  obtain ⟨⟨c0, c1, c2, c3, c4, c5, c6, c7⟩, ⟨y0, y1, y2, y3, y4, y5, y6, y7⟩, y8⟩ := obox8f HC.out
  obtain ⟨nb, hnb⟩ : ∃ x, needB L (3 + sK m 2) = x := ⟨_, rfl⟩
  have HNB := Lib.hid hnb
  clear hnb
  obtain ⟨A5, k5, hh5, hc5, hm5, hs5⟩ := HW.out
  obtain ⟨q0, q1, q2, q3, q4⟩ := box2 hh5
  have HH5 := Lib.hid hh5; have HS5 := Lib.hid hs5; have HC5 := Lib.hid hc5
  obtain ⟨n5, hn5⟩ : ∃ x, (List.drop (3 + sK m 2) L).length = x := ⟨_, rfl⟩
  have HN5 := Lib.hid hn5
  rw [hn5] at q0
  have HL5 := Lib.hid (show n5 = L.length - (3 + sK m 2) by rw [← hn5, List.length_drop])
  clear hh5 hs5 hc5 hn5
  go_upto_region 13 with fail
  go_cut [81] (fun v wx => v = .bool nb ∧ w20 = wx)
  case first =>
    by_cases h1 : n5 = 1
    · subst h1
      have hlL : L.length = 3 + sK m 2 + 1 := by have := HL5.out; omega
      obtain ⟨g, off, rfl, hg, hcs⟩ := HS5.out.cells (by rw [HN5.out]; decide)
      have h0 := hcs 0 (by rw [HN5.out]; decide)
      rw [wd_drop, Nat.add_zero, Nat.add_zero] at h0
      have hk5 : 1 ≤ k5 := by have := HC5.out; rw [HN5.out] at this; exact this
      obtain ⟨x, hx⟩ : ∃ x, wd L (3 + sK m 2) = x := ⟨_, rfl⟩
      rw [hx] at h0
      have e2 : (x.toList == [110, 101, 101, 100]) = nb := by
        rw [lit_dec, ← HNB.out]
        unfold needB
        rw [decide_eq_true hlL, hx]; rfl
      clear hcs hx hlL
      cases nb with
      | true =>
        go_wp2_with fail
        go_meet
        exact ⟨rfl, rfl⟩
      | false =>
        go_wp2_with fail
        go_meet
        exact ⟨rfl, rfl⟩
    · have e1 : ((n5 : Int) == 1) = false := by
        have : ¬ (n5 : Int) = 1 := by omega
        simpa using this
      have e2 : nb = false := by
        rw [← HNB.out]
        unfold needB
        rw [decide_eq_false (by have := HL5.out; omega)]; rfl
      subst e2
      clear h1
      go_wp2_with fail
      go_meet
      exact ⟨rfl, rfl⟩
  case rest =>
  obtain ⟨rfl, rfl⟩ := hcut
  go_upto_if 81 with fail
  go_cut [] (fun wx => Hid (Wds wx b (if nb = true then [] else L.drop (3 + sK m 2)) bad) ∧ Hid (wx.heap[CB]? = some (.cells #[.string nm, .int .i64 2, .int .i64 N1, .int .i64 N2, .int .i64 0, .bool rb, .int .u8 fl, .bool nb] 60 (0, 0))) ∧ Hid (Kw w3 wx) ∧ Hid (Below B w wx))
  case first =>
    cases nb with
    | false =>
      go_wp2_with fail
      go_meet
      exact ⟨HW, HC, HKW, HB⟩
    | true =>
      go_wp2_with fail
      go_meet
      have HCn : (w20.setCell ⟨CB, 7, none⟩ (.bool true)).heap[CB]? = some (.cells #[.string nm, .int .i64 2, .int .i64 N1, .int .i64 N2, .int .i64 0, .bool rb, .int .u8 fl, .bool true] 60 (0, 0)) := by have := heap_set HC.out 7 (.bool true); simpa using this
      have hh5' := heap_far (p := ⟨CB, 7, none⟩) HH5.out (heap_ne HH5.out HC.out (by decide)) (.bool true)
      have HKn := HKW.out.setNew (g := CB) (i := 7) (Nat.le_of_eq hCB) (.bool true)
      refine ⟨Lib.hid ⟨none, 0, ?_, Nat.le_refl 0, by omega, fun hl => absurd hl (by simp)⟩, Lib.hid (heap_far HCn (heap_ne HCn hh5' (by decide)) _), Lib.hid (Kw.trans HKn (Kw.grown (grown_set _ b 0 _) hh5')), Lib.hid ((HB.out.setCell (p := ⟨CB, 7, none⟩) hBC _).setCell (p := ⟨b, 0, none⟩) hB _)⟩
      have := heap_set hh5' 0 (.slice none 0 0)
      simpa using this
  case rest =>
  clear g0 g1 g2 g3 g4 g5 g6 g7 g8 z0 z1 z2 z3 z4 z5 z6 z7 z8 hlt
  clear c0 c1 c2 c3 c4 c5 c6 c7 y0 y1 y2 y3 y4 y5 y6 y7 y8
  clear HW HC HKW HB q0 q1 q2 q3 q4 HH5 HS5 HC5 HN5 HL5
  obtain ⟨HW, HC, HKW, HB⟩ := hcut
  generalize wc = w21 at HW HC HKW HB ⊢
  obtain ⟨⟨⟨g0, g1, g2, g3, g4, g5, g6, g7, g8⟩, z0, z1, z2, z3, z4, z5, z6, z7, z8⟩, hlt⟩ := obox9 (HKW.out.2 _ _ _ _ HH3.out (by decide))
  obtain ⟨⟨c0, c1, c2, c3, c4, c5, c6, c7⟩, ⟨y0, y1, y2, y3, y4, y5, y6, y7⟩, y8⟩ := obox8f HC.out
  have HKk := Lib.hid (HK3.out.keep (fun g cs hh => HKW.out.2 _ _ _ _ hh (by decide)) (fun g cs hh => HKW.out.2 _ _ _ _ hh (by decide)))
  obtain ⟨l, rfl⟩ : ∃ l, n = l + 1 := ⟨n - 1, by omega⟩
  have hkk := HKk.out.kinds
  rw [HN.out] at hkk
  obtain ⟨gk, rfl, hgB, hgk, hkc⟩ := own_rowF hkk (by omega)
  have kcell : w21.cell? ⟨gk, l * 4 + 1, none⟩ = some (.slice (FA l) (kA ks l).fields.length (FC l)) := by
    rw [hkc (l * 4 + 1) (by omega), rowsC_at (by omega) (by decide)]
    rfl
  clear hkc hkk
  go_upto_region 15 with fail
  go_quiet (fail)
  go_upto_region 16 with fail
  have HK22 : KOwn (w21.drewN nq) B (some ⟨gk, 0, none⟩) c ks FA FC := HKk.out.keep (fun g cs hh => hh) (fun g cs hh => hh)
  have HC22 : (w21.drewN nq).heap[CB]? = some (.cells #[.string nm, .int .i64 2, .int .i64 N1, .int .i64 N2, .int .i64 0, .bool rb, .int .u8 fl, .bool nb] 60 (0, 0)) := by exact HC.out
  have HW22 : Wds (w21.drewN nq) b (if nb = true then [] else L.drop (3 + sK m 2)) bad := by exact HW.out
  have HKW22 : Kw w3 (w21.drewN nq) := by exact HKW.out
  have HB22 : Below B w (w21.drewN nq) := by exact below_drewN HB.out _
  have kc22 : (w21.drewN nq).cell? ⟨gk, l * 4 + 1, none⟩ = some (.slice (FA l) (kA ks l).fields.length (FC l)) := by exact kcell
  have hgk22 : gk < (w21.drewN nq).heap.size := by exact hgk
  clear g0 g1 g2 g3 g4 g5 g6 g7 g8 z0 z1 z2 z3 z4 z5 z6 z7 z8 hlt
  clear c0 c1 c2 c3 c4 c5 c6 c7 y0 y1 y2 y3 y4 y5 y6 y7 y8
  clear HW HC HKW HB HKk kcell hgk
  generalize w21.drewN nq = w22 at HK22 HC22 HW22 HKW22 HB22 kc22 hgk22 ⊢
  obtain ⟨i0, hi⟩ : ∃ i, Tryz.prog.info? 60 = some i := ⟨_, rfl⟩
  have hz0 : i0.zero = some (.agg #[.string ⟨#[]⟩, .int .i64 0, .int .i64 0, .int .i64 0, .int .i64 0, .bool false, .int .u8 0, .bool false]) := by obtain rfl := Option.some.inj (hi.symm.trans rfl); rfl
  have hz1 : i0.size = 8 := by obtain rfl := Option.some.inj (hi.symm.trans rfl); rfl
  have hz2 : i0.bytes = 56 := by obtain rfl := Option.some.inj (hi.symm.trans rfl); rfl
  have HI := Lib.hid hi; have HZ0 := Lib.hid hz0; have HZ1 := Lib.hid hz1; have HZ2 := Lib.hid hz2
  clear hi hz0 hz1 hz2
  have hlk : l < ks.length := by rw [HN.out]; omega
  have HOW := Lib.hid (HK22.cols l hlk)
  have hmN : (kA ks l).fields.length ≤ N := (HOK.out.2 (kA ks l) (by rw [← kA_get hlk]; exact List.getElem_mem _)).1.2
  obtain ⟨fs, hfs⟩ : ∃ x, (kA ks l).fields = x := ⟨_, rfl⟩
  have HFS := Lib.hid hfs
  rw [hfs] at kc22 HOW hmN
  obtain ⟨mm, hmm⟩ : ∃ x, fs.length = x := ⟨_, rfl⟩
  have HMM := Lib.hid hmm
  rw [hmm] at kc22 HOW hmN
  clear hfs hmm hlk
  have HK2 := Lib.hid HK22; have HC2 := Lib.hid HC22; have HW2 := Lib.hid HW22; have HKW2 := Lib.hid HKW22
  obtain ⟨ckk, hckk⟩ : ∃ cs, w22.heap[gk]? = some (.cells cs 67 (0, 0)) := by
    rcases HK22.kinds.2 with ⟨hv, _⟩ | ⟨g', cap', cur, hv, _, hh, _⟩
    · cases hv
    · cases hv; exact ⟨cur, hh⟩
  have HCK := Lib.hid hckk
  have hKeepS : Hid (∀ (g : Nat) (cs : Array Value) (T : TypeId), ∀ {f : Nat × Nat} {w' : World}, w22.grownBy w' (Value.slice (FA l) mm (FC l)).ownBlock → w22.heap[g]? = some (.cells cs T f) → T ≠ 60 → w'.heap[g]? = some (.cells cs T f)) := Lib.hid (fun g cs T f w' hg hh hT => grown_type HOW.out hg hh hT)
  have HFI : Hid (colOk m 2 L = true ↔ (if nb = true then [] else L.drop (3 + sK m 2)) = [] ∧ bad = false) := Lib.hid (by
    have hf := HF.out.2.2
    have hn : nb = needB L (3 + sK m 2) := HNB.out.symm
    have hmb : MB = decide (sK m 2 ≠ 0) := HMB.out.symm
    have e1 : (if nb = true then [] else L.drop (3 + sK m 2)) = [] ↔ (nb = true ∨ L.length ≤ 3 + sK m 2) := by
      cases nb with
      | true => simp
      | false => simp
    rw [e1, hf, hn, hmb]
    have hy := HYF.out; have hs := HSD.out; have h1 := HO1.out
    have h2 := HO2.out
    unfold colOk
    rw [show (2 + pK 2 : Nat) = 3 from rfl, show (3 + pK 2 : Nat) = 4 from rfl, hs, hy, h1, h2]
    have l1 : O1 = true → 1 < L.length := fun h => nOk_lt (h1.trans h)
    have l2 : O2 = true → 2 < L.length := fun h => nOk_lt (h2.trans h)
    have l3 : YF = true → 4 < L.length := fun h => yOk_lt (hy.trans h)
    have hsk : sK m 2 = 0 ∨ sK m 2 = 2 := by unfold sK; split <;> simp
    have hnd : needB L (3 + sK m 2) = true → L.length = 3 + sK m 2 + 1 := fun h => by
      unfold needB at h
      rw [Bool.and_eq_true] at h
      exact of_decide_eq_true h.1
    rcases hsk with hsk | hsk
    · rw [hsk] at hnd ⊢
      simp only [Bool.and_eq_true, Bool.or_eq_true, decide_eq_true_eq]
      constructor
      · rintro ⟨⟨⟨x1, x2⟩, x3⟩, -⟩
        exact ⟨x1.elim (fun x => .inr (by omega)) .inl, ⟨x2, x3.resolve_left (by decide)⟩, .inl (by decide)⟩
      · rintro ⟨x1, ⟨x2, x3⟩, -⟩
        refine ⟨⟨⟨x1.elim .inr (fun x => .inl ?_), x2⟩, .inr x3⟩, .inl trivial⟩
        have := l2 x3
        omega
    · rw [hsk] at hnd ⊢
      simp only [Bool.and_eq_true, Bool.or_eq_true, decide_eq_true_eq]
      constructor
      · rintro ⟨⟨⟨x1, x2⟩, x3⟩, x4⟩
        obtain ⟨x5, x6⟩ := x4.resolve_left (by decide)
        exact ⟨x1.elim (fun x => .inr (by omega)) .inl, ⟨x2, x3.resolve_left (by decide)⟩, .inr ⟨x5, x6⟩⟩
      · rintro ⟨x1, ⟨x2, x3⟩, x4⟩
        obtain ⟨x5, x6⟩ := x4.resolve_left (by decide)
        refine ⟨⟨⟨x1.elim .inr (fun x => .inl ?_), x2⟩, .inr x3⟩, .inr ⟨x5, x6⟩⟩
        have := l3 x6
        omega)
  have hneC : Hid (some CB ≠ (Value.slice (FA l) mm (FC l)).ownBlock) := Lib.hid (fun e => by
    have h1 := (HK3.out.cols l (by rw [HN.out]; omega)).lt CB (by cases hA : FA l with | none => rw [hA] at e; cases e | some a => rw [hA] at e; exact e.symm)
    omega)
  have hneK : Hid (some gk ≠ (Value.slice (FA l) mm (FC l)).ownBlock) := Lib.hid (fun e => by
    rcases HOW.out.2 with ⟨hv, _⟩ | ⟨g', cap', cur, hv, _, hh, _⟩
    · rw [hv] at e; cases e
    · rw [hv] at e
      injection e with e
      have e' : gk = g' := e
      subst e'
      rw [hckk] at hh
      injection hh with hh
      injection hh with _ hh
      exact absurd hh (by decide))
  have hfz : w22.frozen? ⟨gk, l * 4 + 1, none⟩ = false := by simp [World.frozen?, hckk]
  clear HK22 HC22 HW22 HKW22 hckk
  have HC := HC2
  obtain ⟨⟨c0, c1, c2, c3, c4, c5, c6, c7⟩, ⟨y0, y1, y2, y3, y4, y5, y6, y7⟩, y8⟩ := obox8f HC.out
  go_region_law (first | (refine step_append_lies _ rfl (.tmp 103) (.tmp 105) 65 rfl B 60 i0 (.agg #[.string ⟨#[]⟩, .int .i64 0, .int .i64 0, .int .i64 0, .int .i64 0, .bool false, .int .u8 0, .bool false]) 8 56 Tryz.underlying65 HI.out HZ0.out HZ1.out HZ2.out rfl (by decide) (.slice (FA l) mm (FC l)) mm (rowsC 8 mm (colV fs)) rfl (by exact HOW.out.alloc (.cells #[.string nm, .int .i64 2, .int .i64 N1, .int .i64 N2, .int .i64 0, .bool rb, .int .u8 fl, .bool nb] 60)) ⟨w22.heap.size, 0, none⟩ 1 1 [.string nm, .int .i64 2, .int .i64 N1, .int .i64 N2, .int .i64 0, .bool rb, .int .u8 fl, .bool nb] rfl rfl (by exact k_cellsF w22 [.string nm, .int .i64 2, .int .i64 N1, .int .i64 N2, .int .i64 0, .bool rb, .int .u8 fl, .bool nb] 60) (by intro u hu; simp at hu; rcases hu with rfl | rfl | rfl | rfl | rfl | rfl | rfl | rfl <;> rfl) (by decide) (by unfold maxLen; omega) (by omega) (by have := HB22.size; simp; omega) _ rfl ?_; intro G cap w4 hown4 hg4 hat4 hlt4; (have hg4 := grown_alloc (grown_drewF hg4)); (have hC4 : w4.heap[CB]? = some (.cells #[.string nm, .int .i64 2, .int .i64 N1, .int .i64 N2, .int .i64 0, .bool rb, .int .u8 fl, .bool nb] 60 (0, 0)) := (hg4.block CB (lt_heap HC2.out) (fun e => hneC.out e)).trans HC2.out); (have hK4 := grown_type HOW.out hg4 HCK.out (by decide)); (have kc4 : w4.cell? ⟨gk, l * 4 + 1, none⟩ = some (.slice (FA l) mm (FC l)) := (hg4.cell kc22 (fun e => hneK.out e))); (have hfz4 : w4.frozen? ⟨gk, l * 4 + 1, none⟩ = false := by simp [World.frozen?, hK4]); obtain ⟨⟨r0, r1, r2, r3, r4, r5, r6, r7⟩, -, -⟩ := obox8f hC4))
  all_goals
    go_wp2
    go_ret
    have hL1 : ks.length - 1 = l := by rw [HN.out]; omega
    have hCol : colL (colW m 2 L) = [.string nm, .int .i64 2, .int .i64 N1, .int .i64 N2, .int .i64 0, .bool rb, .int .u8 fl, .bool nb] := by
      unfold colL colW
      obtain ⟨e1, e2, -⟩ := HF.out
      have e3 : (decide (sK m 2 ≠ 0) && decide (wd L (2 + pK 2) = wRight)) = rb := by
        rw [e1, HMB.out]
        rw [show (2 + pK 2 : Nat) = 3 from rfl, HSD.out]
      have e4 : (if sK m 2 ≠ 0 then nVal (wd L (3 + pK 2)) % 256 else 0) = fl := by
        rw [e2, show (3 + pK 2 : Nat) = 4 from rfl, HNF.out]
        have := HMB.out
        by_cases h : sK m 2 ≠ 0
        · rw [if_pos h]; rw [decide_eq_true h] at this; rw [← this, if_pos rfl]
        · rw [if_neg h]; rw [decide_eq_false h] at this; rw [← this, if_neg (by decide)]
      simp only [e3, e4]
      rw [show needB L (2 + pK 2 + sK m 2) = nb from HNB.out, HNM.out, HN1.out]
      rw [HN2.out]; rfl
    have hKf := KOwn.col (x := colW m 2 L) (w' := w4) (B := B) (H := (w22.alloc (.cells #[.string nm, .int .i64 2, .int .i64 N1, .int .i64 N2, .int .i64 0, .bool rb, .int .u8 fl, .bool nb] 60)).drew.heap.size) (g := G) (c' := cap) HK2.out (by rw [HN.out]; omega)
      (by rw [hL1, HFS.out, HMM.out, hCol]; exact hown4) (by rw [hL1, HFS.out, HMM.out]; exact hg4) (by rw [hL1, HFS.out, HMM.out]; exact hat4) (by show _ ≤ (w22.alloc (.cells #[.string nm, .int .i64 2, .int .i64 N1, .int .i64 N2, .int .i64 0, .bool rb, .int .u8 fl, .bool nb] 60)).heap.size; simp)
    rw [hL1, HFS.out, HMM.out] at hKf
    have hRw := heap_far (hKeepS.out _ _ _ hg4 (HKW2.out.2 _ _ _ _ HH3.out (by decide)) (by decide)) (p := ⟨gk, l * 4 + 1, none⟩) (heap_ne (hKeepS.out _ _ _ hg4 (HKW2.out.2 _ _ _ _ HH3.out (by decide)) (by decide)) hK4 (by decide)) (.slice (some ⟨G, 0, none⟩) (mm + 1) cap)
    have hFR : FR (w4.setCell ⟨gk, l * 4 + 1, none⟩ (.slice (some ⟨G, 0, none⟩) (mm + 1) cap)) B r S (N + 1) ⟨⟨m, q, addCol ks (colW m 2 L), hd, tl, ct, sm⟩, bg, en⟩ := by
      refine ⟨hBr, HOK.out.col (x := colW m 2 L) (by show (wd L 0).size ≤ S; rw [HNM.out]; exact hnm), _, c, _, _, ?_, hKf⟩
      unfold frC
      simp only
      rw [addCol_len, HN.out]
      exact hRw
    have hWf : Wds (w4.setCell ⟨gk, l * 4 + 1, none⟩ (.slice (some ⟨G, 0, none⟩) (mm + 1) cap)) b (if nb = true then [] else L.drop (3 + sK m 2)) bad := by
      obtain ⟨A6, c6, x1, x2, x3, x4⟩ := HW2.out
      have x5 := hKeepS.out _ _ _ hg4 x1 (by decide)
      exact ⟨A6, c6, heap_far x5 (heap_ne x5 hK4 (by decide)) _, x2, x3, (x4.keep (fun g cs f hh => hKeepS.out _ _ _ hg4 hh (by decide))).far hK4 (by decide) _⟩
    have hBf : Below B w (w4.setCell ⟨gk, l * 4 + 1, none⟩ (.slice (some ⟨G, 0, none⟩) (mm + 1) cap)) := by
      refine ((HB22.trans ⟨hg4.os, hg4.tape, hg4.output, hg4.size, fun k hk => hg4.block k (by have := HB22.size; omega) (fun e => ?_)⟩)).setCell (p := ⟨gk, l * 4 + 1, none⟩) hgB _
      have := HOW.out.lt k e.symm
      omega
    have hKs : Ks w (w4.setCell ⟨gk, l * 4 + 1, none⟩ (.slice (some ⟨G, 0, none⟩) (mm + 1) cap)) := by
      refine HKS3.out.trans ((Ks.of HKW2.out).trans (Ks.trans ⟨hg4.size, fun g cs f hh => hKeepS.out _ _ _ hg4 hh (by decide)⟩ (Ks.set hK4 (by decide) _)))
    by_cases hco : colOk m 2 L = true
    · have hO : O = some ⟨⟨m, q, addCol ks (colW m 2 L), hd, tl, ct, sm⟩, bg, en⟩ := by rw [← HO.out]; exact if_pos ⟨HKS.out, hco⟩
      obtain ⟨h1, h2⟩ := HFI.out.1 hco
      rw [h1, h2] at hWf
      exact RetLn.yes hO hWf hFR hBf hKs
    · have hO : O = none := by rw [← HO.out]; exact if_neg (fun h => hco h.2)
      exact RetLn.no hO (fun h => hco (HFI.out.2 ⟨h.2.1, h.2.2⟩)) hWf hBf hKs
set_option maxHeartbeats 4000000 in
set_option maxRecDepth 100000 in
theorem column3_c (B r b S N : Nat) (st : FSt) (L : List ByteArray) (w : World) (hNN : N ≤ 1000000) (hS : S ≤ 9223372036854775807) (hz : ∀ s ∈ L, s.size ≤ S) (hB : B ≤ b) (hf : FR w B r S N st) (hw : Wds w b L false) :
    Calls Tryz.prog 127 #[.pointer (some ⟨r, 0, none⟩), .int .i64 3, .pointer (some ⟨b, 0, none⟩)] w
      (RetLn (if st.f.kinds ≠ [] ∧ colOk st.f.mark 3 L = true then some { st with f := { st.f with kinds := addCol st.f.kinds (colW st.f.mark 3 L) } } else none) B r b S (N + 1) w) := by
  obtain ⟨hBr, hok, A, c, FA, FC, hh, hK⟩ := hf
  have hBw : B ≤ w.heap.size := by have := lt_heap hh; omega
  obtain ⟨⟨m, q, ks, hd, tl, ct, sm⟩, bg, en⟩ := st
  unfold frC at hh
  simp only at hh hK hok ⊢
  obtain ⟨⟨⟨g0, g1, g2, g3, g4, g5, g6, g7, g8⟩, z0, z1, z2, z3, z4, z5, z6, z7, z8⟩, hlt⟩ := obox9 hh
  have HH := Lib.hid hh; have HK := Lib.hid hK; have HW := Lib.hid hw; have HOK := Lib.hid hok
  obtain ⟨O, hO⟩ : ∃ o, (if ks ≠ [] ∧ colOk m 3 L = true then some (⟨⟨m, q, addCol ks (colW m 3 L), hd, tl, ct, sm⟩, bg, en⟩ : FSt) else none) = o := ⟨_, rfl⟩
  rw [hO]
  have HO := Lib.hid hO
  obtain ⟨n, hn⟩ : ∃ n, ks.length = n := ⟨_, rfl⟩
  rw [hn] at g2
  have HN := Lib.hid hn
  have hcap := own_cap hK.kinds
  rw [hn] at hcap
  unfold maxLen at hcap
  clear hh hK hw hok hO
  by_cases hk0 : n = 0
  · subst hk0
    have hks : ks = [] := List.length_eq_zero_iff.1 hn
    have HE := Lib.hid (show O = none by rw [← HO.out]; exact if_neg (fun h => h.1 hks))
    clear hn
    go_enter Tryz.func127, Tryz.ntmps127
    go_wp2
    go_ret
    exact RetLn.no (L := L) (bad := false) HE.out (fun h => by cases h.1) HW.out (Below.refl _ _) (Ks.of (Kw.refl _))
  have hks : ks ≠ [] := fun e => hk0 (by rw [← hn, e]; rfl)
  have hn0 : ((n : Int) == 0) = false := by
    have : ¬ (n : Int) = 0 := by omega
    simpa using this
  have HKS := Lib.hid hks
  have HX1 := Lib.hid (next_c b L false w HW.out)
  have HXN := Lib.hid (fun k bad w h => wnum_c b (L.drop k) bad w (fun s hs => Nat.le_trans (hz s (List.mem_of_mem_drop hs)) hS) h)
  have HXY := Lib.hid (fun k bad w h => wbyte_c b (L.drop k) bad w (fun s hs => Nat.le_trans (hz s (List.mem_of_mem_drop hs)) hS) h)
  unfold RetNx at HX1 HXN HXY
  simp only [wd_drop, drop_tail, Nat.add_zero] at HXN HXY
  have HXS := Lib.hid (fun k bad w h => next_c b (L.drop k) bad w h)
  unfold RetNx at HXS
  simp only [wd_drop, drop_tail, Nat.add_zero] at HXS
  have hN1 := nVal_bd (wd L 1)
  have hnm := wd_sz hz 0
  obtain ⟨nm, hnme⟩ : ∃ x, wd L 0 = x := ⟨_, rfl⟩
  rw [hnme] at HX1 hnm
  have HNM := Lib.hid hnme; have HZ := Lib.hid hz
  have HT := Lib.hid (show L.tail = L.drop 1 by rw [List.drop_one])
  rw [HT.out] at HX1
  obtain ⟨N1, hN1e⟩ : ∃ x, nVal (wd L 1) = x := ⟨_, rfl⟩
  obtain ⟨O1, hO1e⟩ : ∃ x, nOk (wd L 1) = x := ⟨_, rfl⟩
  have HN1 := Lib.hid hN1e; have HO1 := Lib.hid hO1e
  have HXA := Lib.hid (HXN.out 1)
  rw [hN1e, hO1e] at HXA
  clear hnme hN1e hO1e hz hks hn
  go_enter Tryz.func127, Tryz.ntmps127
  go_wp2_with fail
  refine HX1.out.mono ?_
  rintro e w2 ⟨rfl, hw2, hg2⟩
  obtain ⟨cs1, hbl1⟩ := HW.out.block
  have hk2 := Kw.grown hg2 hbl1
  have hb2 := below_grown hg2 hB hBw
  go_wp2_with fail
  refine (HXA.out _ _ hw2).mono ?_
  rintro e w3 ⟨rfl, hw3, hg3⟩
  obtain ⟨cs2, hbl2⟩ := hw2.block
  have hk3 := Kw.trans hk2 (Kw.grown hg3 hbl2)
  have hb3 := hb2.trans (below_grown hg3 hB (by have := hk2.1; omega))
  have hbad : (false || L.isEmpty || !O1) = (!O1) := by
    cases hO : O1 with
    | false => simp
    | true =>
      have := nOk_lt (HO1.out.trans hO)
      cases L with
      | nil => simp at this
      | cons a L => rfl
  rw [hbad] at hw3
  have hs3 := hk3.1
  have HH3 := Lib.hid (hk3.2 _ _ _ _ HH.out (by decide))
  have HK3 := Lib.hid (HK.out.keep (fun g cs hh => hk3.2 _ _ _ _ hh (by decide)) (fun g cs hh => hk3.2 _ _ _ _ hh (by decide)))
  have HB3 := Lib.hid hb3; have HW3 := Lib.hid hw3; have HKS3 := Lib.hid (Ks.of hk3)
  clear g0 g1 g2 g3 g4 g5 g6 g7 g8 z0 z1 z2 z3 z4 z5 z6 z7 z8 hlt
  clear hk2 hk3 hw3 hb3 hb2 hg3 hg2 hbl1 hbl2 hw2 hbad HX1 HXA HH HK HW
  rw [HN.out] at HH3
  have HC := Lib.hid (heap_new w3 (.cells #[.string nm, .int .i64 3, .int .i64 N1, .int .i64 0, .int .i64 0, .bool false, .int .u8 0, .bool false] 60) rfl)
  have HW := Lib.hid (HW3.out.alloc (.cells #[.string nm, .int .i64 3, .int .i64 N1, .int .i64 0, .int .i64 0, .bool false, .int .u8 0, .bool false] 60))
  have HKW := Lib.hid ((Kw.refl w3).alloc (.cells #[.string nm, .int .i64 3, .int .i64 N1, .int .i64 0, .int .i64 0, .bool false, .int .u8 0, .bool false] 60))
  have HB : Hid (Below B w (w3.alloc (.cells #[.string nm, .int .i64 3, .int .i64 N1, .int .i64 0, .int .i64 0, .bool false, .int .u8 0, .bool false] 60))) := Lib.hid (HB3.out.alloc (by have := HB3.out.size; omega) _)
  go_upto_region 5 with fail
  obtain ⟨CB, hCB⟩ : ∃ x, w3.heap.size = x := ⟨_, rfl⟩
  have hBC : B ≤ CB := by have := HB3.out.size; omega
  rw [hCB] at HC ⊢
  generalize w3.alloc (.cells #[.string nm, .int .i64 3, .int .i64 N1, .int .i64 0, .int .i64 0, .bool false, .int .u8 0, .bool false] 60) = w4 at HC HW HKW HB ⊢
  clear HW3
  obtain ⟨⟨⟨g0, g1, g2, g3, g4, g5, g6, g7, g8⟩, z0, z1, z2, z3, z4, z5, z6, z7, z8⟩, hlt⟩ := obox9 (HKW.out.2 _ _ _ _ HH3.out (by decide))
  obtain ⟨⟨c0, c1, c2, c3, c4, c5, c6, c7⟩, ⟨y0, y1, y2, y3, y4, y5, y6, y7⟩, y8⟩ := obox8f HC.out
  obtain ⟨N2, hN2e⟩ : ∃ x, nVal (wd L 2) = x := ⟨_, rfl⟩
  obtain ⟨O2, hO2e⟩ : ∃ x, nOk (wd L 2) = x := ⟨_, rfl⟩
  have HXB := Lib.hid (HXN.out 2)
  rw [hN2e, hO2e] at HXB
  have HN2 := Lib.hid hN2e; have HO2 := Lib.hid hO2e
  clear hN2e hO2e
  go_wp2_with fail
  refine (HXB.out _ _ HW.out).mono ?_
  rintro e w5 ⟨rfl, hwx, hgx⟩
  obtain ⟨csx, hblx⟩ := HW.out.block
  have HKW5 := Lib.hid (Kw.trans HKW.out (Kw.grown hgx hblx))
  have HC5 := Lib.hid (grown_block hgx (heap_ne HC.out hblx (by decide)) HC.out)
  have HB5 := Lib.hid (HB.out.trans (below_grown hgx hB (by have := HB.out.size; omega)))
  clear g0 g1 g2 g3 g4 g5 g6 g7 g8 z0 z1 z2 z3 z4 z5 z6 z7 z8 hlt
  clear c0 c1 c2 c3 c4 c5 c6 c7 y0 y1 y2 y3 y4 y5 y6 y7 y8
  clear HKW HC HB HW hblx
  have HKW := HKW5; have HC := HC5; have HB := HB5; have HW := Lib.hid hwx
  clear HKW5 HC5 HB5 hwx hgx
  obtain ⟨⟨⟨g0, g1, g2, g3, g4, g5, g6, g7, g8⟩, z0, z1, z2, z3, z4, z5, z6, z7, z8⟩, hlt⟩ := obox9 (HKW.out.2 _ _ _ _ HH3.out (by decide))
  obtain ⟨⟨c0, c1, c2, c3, c4, c5, c6, c7⟩, ⟨y0, y1, y2, y3, y4, y5, y6, y7⟩, y8⟩ := obox8f HC.out
  go_upto_region 9 with fail
  have HCn := HC; have HWn := HW; have HKn := HKW; have HBn := HB
  have HWn := Lib.hid (HWn.out.set (i := 4) HCn.out (by decide) (by decide) (.int .i64 N2))
  have HCn : Hid ((w5.setCell ⟨CB, 4, none⟩ (.int .i64 N2)).heap[CB]? = some (.cells #[.string nm, .int .i64 3, .int .i64 N1, .int .i64 0, .int .i64 N2, .bool false, .int .u8 0, .bool false] 60 (0, 0))) := Lib.hid (by have := heap_set HCn.out 4 (.int .i64 N2); simpa using this)
  have HKn := Lib.hid (HKn.out.setNew (g := CB) (i := 4) (Nat.le_of_eq hCB) (.int .i64 N2))
  have HBn : Hid (Below B w (w5.setCell ⟨CB, 4, none⟩ (.int .i64 N2))) := Lib.hid (HBn.out.setCell (p := ⟨CB, 4, none⟩) hBC _)
  clear g0 g1 g2 g3 g4 g5 g6 g7 g8 z0 z1 z2 z3 z4 z5 z6 z7 z8 hlt
  clear c0 c1 c2 c3 c4 c5 c6 c7 y0 y1 y2 y3 y4 y5 y6 y7 y8
  clear HC HW HKW HB
  generalize w5.setCell ⟨CB, 4, none⟩ (.int .i64 N2) = w6 at HCn HWn HKn HBn ⊢
  have HC := HCn; have HW := HWn; have HKW := HKn; have HB := HBn
  clear HCn HWn HKn HBn
  obtain ⟨⟨⟨g0, g1, g2, g3, g4, g5, g6, g7, g8⟩, z0, z1, z2, z3, z4, z5, z6, z7, z8⟩, hlt⟩ := obox9 (HKW.out.2 _ _ _ _ HH3.out (by decide))
  obtain ⟨⟨c0, c1, c2, c3, c4, c5, c6, c7⟩, ⟨y0, y1, y2, y3, y4, y5, y6, y7⟩, y8⟩ := obox8f HC.out
  obtain ⟨MB, hMB⟩ : ∃ x, decide (sK m 3 ≠ 0) = x := ⟨_, rfl⟩
  have HMB := Lib.hid hMB
  go_upto_region 9 with fail
  go_cut [43] (fun v wx => v = .bool MB ∧ w6 = wx)
  case first =>
    by_cases hm0 : m = 0
    · have e1 : (m == 0) = true := by simpa using hm0
      have e2 : MB = false := by rw [← hMB, hm0]; rfl
      subst e2
      clear hMB hm0
      go_wp2_with fail
      go_meet
      exact ⟨rfl, rfl⟩
    · have e1 : (m == 0) = false := by simpa using hm0
      have e2 : MB = false := by rw [← hMB]; unfold sK; rw [if_neg (fun h => hm0 h.1)]; rfl
      subst e2
      clear hMB hm0
      go_wp2_with fail
      go_meet
      exact ⟨rfl, rfl⟩
  case rest =>
  obtain ⟨rfl, rfl⟩ := hcut
  clear hMB
  obtain ⟨sd, hsd⟩ : ∃ x, wd L 3 = x := ⟨_, rfl⟩
  have HSD := Lib.hid hsd
  obtain ⟨NF, hNF⟩ : ∃ x, nVal (wd L 4) = x := ⟨_, rfl⟩
  have HNF := Lib.hid hNF
  obtain ⟨YF, hYF⟩ : ∃ x, yOk (wd L 4) = x := ⟨_, rfl⟩
  have HYF := Lib.hid hYF
  have HXC := Lib.hid (HXS.out 3)
  rw [hsd] at HXC
  have HXD := Lib.hid (HXY.out 4)
  rw [hNF, hYF] at HXD
  clear hsd hNF hYF
  go_upto_if 43 with fail
  go_cut [] (fun wx => ∃ rb fl bad, Hid (Wds wx b (L.drop (3 + sK m 3)) bad) ∧ Hid (wx.heap[CB]? = some (.cells #[.string nm, .int .i64 3, .int .i64 N1, .int .i64 0, .int .i64 N2, .bool rb, .int .u8 fl, .bool false] 60 (0, 0))) ∧ Hid (Kw w3 wx) ∧ Hid (Below B w wx) ∧ Hid (rb = (MB && decide (sd = wRight)) ∧ fl = (if MB = true then NF % 256 else 0) ∧ (bad = false ↔ (O1 = true ∧ O2 = true) ∧ (MB = false ∨ (sd = wLeft ∨ sd = wRight) ∧ YF = true))))
  case first =>
    cases MB with
    | false =>
      have hs0 : sK m 3 = 0 := by
        have := HMB.out
        exact Classical.byContradiction fun e => by rw [decide_eq_true e] at this; cases this
      go_wp2_with fail
      go_meet
      exact ⟨false, 0, _, by rw [hs0]; exact HW, HC, HKW, HB, Lib.hid ⟨rfl, rfl, by cases O1 <;> cases O2 <;> simp⟩⟩
    | true =>
      have hs2 : sK m 3 = 2 := by
        have := HMB.out
        by_cases h : m = 0 ∧ (3 : Int) ≠ 3
        · unfold sK; rw [if_pos h]
        · unfold sK at this; rw [if_neg h] at this; cases this
      have HS2 := Lib.hid hs2
      clear hs2
      obtain ⟨rb, hrb⟩ : ∃ x, (sd.toList == [114, 105, 103, 104, 116]) = x := ⟨_, rfl⟩
      obtain ⟨lb, hlb⟩ : ∃ x, (sd.toList == [108, 101, 102, 116]) = x := ⟨_, rfl⟩
      have HRB := Lib.hid hrb; have HLB := Lib.hid hlb
      have HR2 : Hid (rb = (true && decide (sd = wRight))) := Lib.hid (by rw [← hrb, lit_dec]; rfl)
      go_wp2_with fail
      refine (HXC.out _ _ HW.out).mono ?_
      rintro e w7 ⟨rfl, hwx, hgx⟩
      obtain ⟨csx, hblx⟩ := HW.out.block
      have HKW7 := Lib.hid (Kw.trans HKW.out (Kw.grown hgx hblx))
      have HC7 := Lib.hid (grown_block hgx (heap_ne HC.out hblx (by decide)) HC.out)
      have HB7 := Lib.hid (HB.out.trans (below_grown hgx hB (by have := HB.out.size; omega)))
      clear g0 g1 g2 g3 g4 g5 g6 g7 g8 z0 z1 z2 z3 z4 z5 z6 z7 z8 hlt
      clear c0 c1 c2 c3 c4 c5 c6 c7 y0 y1 y2 y3 y4 y5 y6 y7 y8
      clear HKW HC HB HW hblx
      have HKW := HKW7; have HC := HC7; have HB := HB7; have HW := Lib.hid hwx
      clear HKW7 HC7 HB7 hwx hgx
      obtain ⟨⟨⟨g0, g1, g2, g3, g4, g5, g6, g7, g8⟩, z0, z1, z2, z3, z4, z5, z6, z7, z8⟩, hlt⟩ := obox9 (HKW.out.2 _ _ _ _ HH3.out (by decide))
      obtain ⟨⟨c0, c1, c2, c3, c4, c5, c6, c7⟩, ⟨y0, y1, y2, y3, y4, y5, y6, y7⟩, y8⟩ := obox8f HC.out
      go_wp2_with fail
      refine (HXD.out _ _ HW.out).mono ?_
      rintro e w8 ⟨rfl, hwx, hgx⟩
      obtain ⟨csx, hblx⟩ := HW.out.block
      have HKW8 := Lib.hid (Kw.trans HKW.out (Kw.grown hgx hblx))
      have HC8 := Lib.hid (grown_block hgx (heap_ne HC.out hblx (by decide)) HC.out)
      have HB8 := Lib.hid (HB.out.trans (below_grown hgx hB (by have := HB.out.size; omega)))
      clear g0 g1 g2 g3 g4 g5 g6 g7 g8 z0 z1 z2 z3 z4 z5 z6 z7 z8 hlt
      clear c0 c1 c2 c3 c4 c5 c6 c7 y0 y1 y2 y3 y4 y5 y6 y7 y8
      clear HKW HC HB HW hblx
      have HKW := HKW8; have HC := HC8; have HB := HB8; have HW := Lib.hid hwx
      clear HKW8 HC8 HB8 hwx hgx
      obtain ⟨⟨⟨g0, g1, g2, g3, g4, g5, g6, g7, g8⟩, z0, z1, z2, z3, z4, z5, z6, z7, z8⟩, hlt⟩ := obox9 (HKW.out.2 _ _ _ _ HH3.out (by decide))
      obtain ⟨⟨c0, c1, c2, c3, c4, c5, c6, c7⟩, ⟨y0, y1, y2, y3, y4, y5, y6, y7⟩, y8⟩ := obox8f HC.out
      go_upto_region 12 with fail
      have HCn := HC; have HWn := HW; have HKn := HKW; have HBn := HB
      have HWn := Lib.hid (HWn.out.set (i := 5) HCn.out (by decide) (by decide) (.bool rb))
      have HCn : Hid ((w8.setCell ⟨CB, 5, none⟩ (.bool rb)).heap[CB]? = some (.cells #[.string nm, .int .i64 3, .int .i64 N1, .int .i64 0, .int .i64 N2, .bool rb, .int .u8 0, .bool false] 60 (0, 0))) := Lib.hid (by have := heap_set HCn.out 5 (.bool rb); simpa using this)
      have HKn := Lib.hid (HKn.out.setNew (g := CB) (i := 5) (Nat.le_of_eq hCB) (.bool rb))
      have HBn : Hid (Below B w (w8.setCell ⟨CB, 5, none⟩ (.bool rb))) := Lib.hid (HBn.out.setCell (p := ⟨CB, 5, none⟩) hBC _)
      have HWn := Lib.hid (HWn.out.set (i := 6) HCn.out (by decide) (by decide) (.int .u8 (NF % 256)))
      have HCn : Hid (((w8.setCell ⟨CB, 5, none⟩ (.bool rb)).setCell ⟨CB, 6, none⟩ (.int .u8 (NF % 256))).heap[CB]? = some (.cells #[.string nm, .int .i64 3, .int .i64 N1, .int .i64 0, .int .i64 N2, .bool rb, .int .u8 (NF % 256), .bool false] 60 (0, 0))) := Lib.hid (by have := heap_set HCn.out 6 (.int .u8 (NF % 256)); simpa using this)
      have HKn := Lib.hid (HKn.out.setNew (g := CB) (i := 6) (Nat.le_of_eq hCB) (.int .u8 (NF % 256)))
      have HBn : Hid (Below B w ((w8.setCell ⟨CB, 5, none⟩ (.bool rb)).setCell ⟨CB, 6, none⟩ (.int .u8 (NF % 256)))) := Lib.hid (HBn.out.setCell (p := ⟨CB, 6, none⟩) hBC _)
      clear g0 g1 g2 g3 g4 g5 g6 g7 g8 z0 z1 z2 z3 z4 z5 z6 z7 z8 hlt
      clear c0 c1 c2 c3 c4 c5 c6 c7 y0 y1 y2 y3 y4 y5 y6 y7 y8
      clear HC HW HKW HB
      generalize (w8.setCell ⟨CB, 5, none⟩ (.bool rb)).setCell ⟨CB, 6, none⟩ (.int .u8 (NF % 256)) = w9 at HCn HWn HKn HBn ⊢
      have HC := HCn; have HW := HWn; have HKW := HKn; have HB := HBn
      clear HCn HWn HKn HBn
      obtain ⟨⟨⟨g0, g1, g2, g3, g4, g5, g6, g7, g8⟩, z0, z1, z2, z3, z4, z5, z6, z7, z8⟩, hlt⟩ := obox9 (HKW.out.2 _ _ _ _ HH3.out (by decide))
      obtain ⟨⟨c0, c1, c2, c3, c4, c5, c6, c7⟩, ⟨y0, y1, y2, y3, y4, y5, y6, y7⟩, y8⟩ := obox8f HC.out
      obtain ⟨A5, c5, hh5, hc5, hm5, hs5⟩ := HW.out
      obtain ⟨q0, q1, q2, q3, q4⟩ := box2 hh5
      have HH5 := Lib.hid hh5; have HS5 := Lib.hid hs5; have HC5 := Lib.hid hc5
      obtain ⟨n5, hn5⟩ : ∃ x, (List.drop (4 + 1) L).length = x := ⟨_, rfl⟩
      have HN5 := Lib.hid hn5
      obtain ⟨BX, hBX⟩ : ∃ x, (!O1 || !O2 || (List.drop 3 L).isEmpty || !YF) = x := ⟨_, rfl⟩
      have HBX := Lib.hid hBX
      rw [hn5] at q0
      rw [hBX] at q1
      have hWf : ∀ z, Wds (w9.setCell ⟨b, 1, none⟩ (.bool z)) b (L.drop (3 + sK m 3)) z := fun z => by
        refine ⟨A5, c5, ?_, by rw [HS2.out]; exact HC5.out, hm5, by rw [HS2.out]; exact Sts.far HS5.out HH5.out (by decide) _⟩
        have := heap_set HH5.out 1 (.bool z)
        rw [HS2.out]
        simpa using this
      have HWF := Lib.hid hWf
      have hKf : ∀ z, Kw w3 (w9.setCell ⟨b, 1, none⟩ (.bool z)) := fun z => Kw.trans HKW.out (Kw.grown (grown_set _ b 1 _) HH5.out)
      have hCf : ∀ z, (w9.setCell ⟨b, 1, none⟩ (.bool z)).heap[CB]? = some (.cells #[.string nm, .int .i64 3, .int .i64 N1, .int .i64 0, .int .i64 N2, .bool rb, .int .u8 (NF % 256), .bool false] 60 (0, 0)) := fun z => heap_far HC.out (heap_ne HC.out HH5.out (by decide)) _
      have hBf : ∀ z, Below B w (w9.setCell ⟨b, 1, none⟩ (.bool z)) := fun z => HB.out.setCell (p := ⟨b, 1, none⟩) hB _
      have HKF := Lib.hid hKf; have HCF := Lib.hid hCf; have HBF := Lib.hid hBf
      have HFIN : Hid (∀ z, z = (BX || !(rb || lb)) → (z = false ↔ (O1 = true ∧ O2 = true) ∧ (true = false ∨ (sd = wLeft ∨ sd = wRight) ∧ YF = true))) := Lib.hid (fun z hz => by
        subst hz
        have hr := HRB.out; have hl := HLB.out
        rw [lit_dec] at hr hl
        have hr' : (sd = wRight) ↔ rb = true := by rw [← hr]; exact (decide_eq_true_iff).symm
        have hl' : (sd = wLeft) ↔ lb = true := by rw [← hl]; exact (decide_eq_true_iff).symm
        have hY : YF = true → (List.drop 3 L).isEmpty = false := fun h => bad_next.2 (by have := yOk_lt (HYF.out.trans h); omega)
        rw [hr', hl', ← HBX.out]
        cases hyf : YF with
        | false => simp
        | true =>
          rw [hY hyf]
          cases O1 <;> cases O2 <;> cases rb <;> cases lb <;> simp)
      clear hn5 hBX hh5 hs5 hc5 hWf hKf hCf hBf
      cases BX with
      | true =>
        go_wp2_with fail
        go_meet
        exact ⟨rb, NF % 256, true, Lib.hid (HWF.out true), Lib.hid (HCF.out true), Lib.hid (HKF.out true), Lib.hid (HBF.out true), Lib.hid ⟨HR2.out, rfl, HFIN.out _ (by simp)⟩⟩
      | false =>
        cases rb with
        | true =>
          go_wp2_with fail
          go_meet
          exact ⟨true, NF % 256, false, Lib.hid (HWF.out false), Lib.hid (HCF.out false), Lib.hid (HKF.out false), Lib.hid (HBF.out false), Lib.hid ⟨HR2.out, rfl, HFIN.out _ (by simp)⟩⟩
        | false =>
          cases lb with
          | true =>
            go_wp2_with fail
            go_meet
            exact ⟨false, NF % 256, false, Lib.hid (HWF.out false), Lib.hid (HCF.out false), Lib.hid (HKF.out false), Lib.hid (HBF.out false), Lib.hid ⟨HR2.out, rfl, HFIN.out _ (by simp)⟩⟩
          | false =>
            go_wp2_with fail
            go_meet
            exact ⟨false, NF % 256, true, Lib.hid (HWF.out true), Lib.hid (HCF.out true), Lib.hid (HKF.out true), Lib.hid (HBF.out true), Lib.hid ⟨HR2.out, rfl, HFIN.out _ (by simp)⟩⟩
  case rest =>
  clear g0 g1 g2 g3 g4 g5 g6 g7 g8 z0 z1 z2 z3 z4 z5 z6 z7 z8 hlt
  clear c0 c1 c2 c3 c4 c5 c6 c7 y0 y1 y2 y3 y4 y5 y6 y7 y8
  clear HW HC HKW HB
  obtain ⟨rb, fl, bad, HW, HC, HKW, HB, HF⟩ := hcut
  generalize wc = w20 at HW HC HKW HB ⊢
  obtain ⟨⟨⟨g0, g1, g2, g3, g4, g5, g6, g7, g8⟩, z0, z1, z2, z3, z4, z5, z6, z7, z8⟩, hlt⟩ := obox9 (HKW.out.2 _ _ _ _ HH3.out (by decide))
  obtain ⟨⟨c0, c1, c2, c3, c4, c5, c6, c7⟩, ⟨y0, y1, y2, y3, y4, y5, y6, y7⟩, y8⟩ := obox8f HC.out
  obtain ⟨nb, hnb⟩ : ∃ x, needB L (3 + sK m 3) = x := ⟨_, rfl⟩
  have HNB := Lib.hid hnb
  clear hnb
  obtain ⟨A5, k5, hh5, hc5, hm5, hs5⟩ := HW.out
  obtain ⟨q0, q1, q2, q3, q4⟩ := box2 hh5
  have HH5 := Lib.hid hh5; have HS5 := Lib.hid hs5; have HC5 := Lib.hid hc5
  obtain ⟨n5, hn5⟩ : ∃ x, (List.drop (3 + sK m 3) L).length = x := ⟨_, rfl⟩
  have HN5 := Lib.hid hn5
  rw [hn5] at q0
  have HL5 := Lib.hid (show n5 = L.length - (3 + sK m 3) by rw [← hn5, List.length_drop])
  clear hh5 hs5 hc5 hn5
  go_upto_region 13 with fail
  go_cut [81] (fun v wx => v = .bool nb ∧ w20 = wx)
  case first =>
    by_cases h1 : n5 = 1
    · subst h1
      have hlL : L.length = 3 + sK m 3 + 1 := by have := HL5.out; omega
      obtain ⟨g, off, rfl, hg, hcs⟩ := HS5.out.cells (by rw [HN5.out]; decide)
      have h0 := hcs 0 (by rw [HN5.out]; decide)
      rw [wd_drop, Nat.add_zero, Nat.add_zero] at h0
      have hk5 : 1 ≤ k5 := by have := HC5.out; rw [HN5.out] at this; exact this
      obtain ⟨x, hx⟩ : ∃ x, wd L (3 + sK m 3) = x := ⟨_, rfl⟩
      rw [hx] at h0
      have e2 : (x.toList == [110, 101, 101, 100]) = nb := by
        rw [lit_dec, ← HNB.out]
        unfold needB
        rw [decide_eq_true hlL, hx]; rfl
      clear hcs hx hlL
      cases nb with
      | true =>
        go_wp2_with fail
        go_meet
        exact ⟨rfl, rfl⟩
      | false =>
        go_wp2_with fail
        go_meet
        exact ⟨rfl, rfl⟩
    · have e1 : ((n5 : Int) == 1) = false := by
        have : ¬ (n5 : Int) = 1 := by omega
        simpa using this
      have e2 : nb = false := by
        rw [← HNB.out]
        unfold needB
        rw [decide_eq_false (by have := HL5.out; omega)]; rfl
      subst e2
      clear h1
      go_wp2_with fail
      go_meet
      exact ⟨rfl, rfl⟩
  case rest =>
  obtain ⟨rfl, rfl⟩ := hcut
  go_upto_if 81 with fail
  go_cut [] (fun wx => Hid (Wds wx b (if nb = true then [] else L.drop (3 + sK m 3)) bad) ∧ Hid (wx.heap[CB]? = some (.cells #[.string nm, .int .i64 3, .int .i64 N1, .int .i64 0, .int .i64 N2, .bool rb, .int .u8 fl, .bool nb] 60 (0, 0))) ∧ Hid (Kw w3 wx) ∧ Hid (Below B w wx))
  case first =>
    cases nb with
    | false =>
      go_wp2_with fail
      go_meet
      exact ⟨HW, HC, HKW, HB⟩
    | true =>
      go_wp2_with fail
      go_meet
      have HCn : (w20.setCell ⟨CB, 7, none⟩ (.bool true)).heap[CB]? = some (.cells #[.string nm, .int .i64 3, .int .i64 N1, .int .i64 0, .int .i64 N2, .bool rb, .int .u8 fl, .bool true] 60 (0, 0)) := by have := heap_set HC.out 7 (.bool true); simpa using this
      have hh5' := heap_far (p := ⟨CB, 7, none⟩) HH5.out (heap_ne HH5.out HC.out (by decide)) (.bool true)
      have HKn := HKW.out.setNew (g := CB) (i := 7) (Nat.le_of_eq hCB) (.bool true)
      refine ⟨Lib.hid ⟨none, 0, ?_, Nat.le_refl 0, by omega, fun hl => absurd hl (by simp)⟩, Lib.hid (heap_far HCn (heap_ne HCn hh5' (by decide)) _), Lib.hid (Kw.trans HKn (Kw.grown (grown_set _ b 0 _) hh5')), Lib.hid ((HB.out.setCell (p := ⟨CB, 7, none⟩) hBC _).setCell (p := ⟨b, 0, none⟩) hB _)⟩
      have := heap_set hh5' 0 (.slice none 0 0)
      simpa using this
  case rest =>
  clear g0 g1 g2 g3 g4 g5 g6 g7 g8 z0 z1 z2 z3 z4 z5 z6 z7 z8 hlt
  clear c0 c1 c2 c3 c4 c5 c6 c7 y0 y1 y2 y3 y4 y5 y6 y7 y8
  clear HW HC HKW HB q0 q1 q2 q3 q4 HH5 HS5 HC5 HN5 HL5
  obtain ⟨HW, HC, HKW, HB⟩ := hcut
  generalize wc = w21 at HW HC HKW HB ⊢
  obtain ⟨⟨⟨g0, g1, g2, g3, g4, g5, g6, g7, g8⟩, z0, z1, z2, z3, z4, z5, z6, z7, z8⟩, hlt⟩ := obox9 (HKW.out.2 _ _ _ _ HH3.out (by decide))
  obtain ⟨⟨c0, c1, c2, c3, c4, c5, c6, c7⟩, ⟨y0, y1, y2, y3, y4, y5, y6, y7⟩, y8⟩ := obox8f HC.out
  have HKk := Lib.hid (HK3.out.keep (fun g cs hh => HKW.out.2 _ _ _ _ hh (by decide)) (fun g cs hh => HKW.out.2 _ _ _ _ hh (by decide)))
  obtain ⟨l, rfl⟩ : ∃ l, n = l + 1 := ⟨n - 1, by omega⟩
  have hkk := HKk.out.kinds
  rw [HN.out] at hkk
  obtain ⟨gk, rfl, hgB, hgk, hkc⟩ := own_rowF hkk (by omega)
  have kcell : w21.cell? ⟨gk, l * 4 + 1, none⟩ = some (.slice (FA l) (kA ks l).fields.length (FC l)) := by
    rw [hkc (l * 4 + 1) (by omega), rowsC_at (by omega) (by decide)]
    rfl
  clear hkc hkk
  go_upto_region 15 with fail
  go_quiet (fail)
  go_upto_region 16 with fail
  have HK22 : KOwn (w21.drewN nq) B (some ⟨gk, 0, none⟩) c ks FA FC := HKk.out.keep (fun g cs hh => hh) (fun g cs hh => hh)
  have HC22 : (w21.drewN nq).heap[CB]? = some (.cells #[.string nm, .int .i64 3, .int .i64 N1, .int .i64 0, .int .i64 N2, .bool rb, .int .u8 fl, .bool nb] 60 (0, 0)) := by exact HC.out
  have HW22 : Wds (w21.drewN nq) b (if nb = true then [] else L.drop (3 + sK m 3)) bad := by exact HW.out
  have HKW22 : Kw w3 (w21.drewN nq) := by exact HKW.out
  have HB22 : Below B w (w21.drewN nq) := by exact below_drewN HB.out _
  have kc22 : (w21.drewN nq).cell? ⟨gk, l * 4 + 1, none⟩ = some (.slice (FA l) (kA ks l).fields.length (FC l)) := by exact kcell
  have hgk22 : gk < (w21.drewN nq).heap.size := by exact hgk
  clear g0 g1 g2 g3 g4 g5 g6 g7 g8 z0 z1 z2 z3 z4 z5 z6 z7 z8 hlt
  clear c0 c1 c2 c3 c4 c5 c6 c7 y0 y1 y2 y3 y4 y5 y6 y7 y8
  clear HW HC HKW HB HKk kcell hgk
  generalize w21.drewN nq = w22 at HK22 HC22 HW22 HKW22 HB22 kc22 hgk22 ⊢
  obtain ⟨i0, hi⟩ : ∃ i, Tryz.prog.info? 60 = some i := ⟨_, rfl⟩
  have hz0 : i0.zero = some (.agg #[.string ⟨#[]⟩, .int .i64 0, .int .i64 0, .int .i64 0, .int .i64 0, .bool false, .int .u8 0, .bool false]) := by obtain rfl := Option.some.inj (hi.symm.trans rfl); rfl
  have hz1 : i0.size = 8 := by obtain rfl := Option.some.inj (hi.symm.trans rfl); rfl
  have hz2 : i0.bytes = 56 := by obtain rfl := Option.some.inj (hi.symm.trans rfl); rfl
  have HI := Lib.hid hi; have HZ0 := Lib.hid hz0; have HZ1 := Lib.hid hz1; have HZ2 := Lib.hid hz2
  clear hi hz0 hz1 hz2
  have hlk : l < ks.length := by rw [HN.out]; omega
  have HOW := Lib.hid (HK22.cols l hlk)
  have hmN : (kA ks l).fields.length ≤ N := (HOK.out.2 (kA ks l) (by rw [← kA_get hlk]; exact List.getElem_mem _)).1.2
  obtain ⟨fs, hfs⟩ : ∃ x, (kA ks l).fields = x := ⟨_, rfl⟩
  have HFS := Lib.hid hfs
  rw [hfs] at kc22 HOW hmN
  obtain ⟨mm, hmm⟩ : ∃ x, fs.length = x := ⟨_, rfl⟩
  have HMM := Lib.hid hmm
  rw [hmm] at kc22 HOW hmN
  clear hfs hmm hlk
  have HK2 := Lib.hid HK22; have HC2 := Lib.hid HC22; have HW2 := Lib.hid HW22; have HKW2 := Lib.hid HKW22
  obtain ⟨ckk, hckk⟩ : ∃ cs, w22.heap[gk]? = some (.cells cs 67 (0, 0)) := by
    rcases HK22.kinds.2 with ⟨hv, _⟩ | ⟨g', cap', cur, hv, _, hh, _⟩
    · cases hv
    · cases hv; exact ⟨cur, hh⟩
  have HCK := Lib.hid hckk
  have hKeepS : Hid (∀ (g : Nat) (cs : Array Value) (T : TypeId), ∀ {f : Nat × Nat} {w' : World}, w22.grownBy w' (Value.slice (FA l) mm (FC l)).ownBlock → w22.heap[g]? = some (.cells cs T f) → T ≠ 60 → w'.heap[g]? = some (.cells cs T f)) := Lib.hid (fun g cs T f w' hg hh hT => grown_type HOW.out hg hh hT)
  have HFI : Hid (colOk m 3 L = true ↔ (if nb = true then [] else L.drop (3 + sK m 3)) = [] ∧ bad = false) := Lib.hid (by
    have hf := HF.out.2.2
    have hn : nb = needB L (3 + sK m 3) := HNB.out.symm
    have hmb : MB = decide (sK m 3 ≠ 0) := HMB.out.symm
    have e1 : (if nb = true then [] else L.drop (3 + sK m 3)) = [] ↔ (nb = true ∨ L.length ≤ 3 + sK m 3) := by
      cases nb with
      | true => simp
      | false => simp
    rw [e1, hf, hn, hmb]
    have hy := HYF.out; have hs := HSD.out; have h1 := HO1.out
    have h2 := HO2.out
    unfold colOk
    rw [show (2 + pK 3 : Nat) = 3 from rfl, show (3 + pK 3 : Nat) = 4 from rfl, hs, hy, h1, h2]
    have l1 : O1 = true → 1 < L.length := fun h => nOk_lt (h1.trans h)
    have l2 : O2 = true → 2 < L.length := fun h => nOk_lt (h2.trans h)
    have l3 : YF = true → 4 < L.length := fun h => yOk_lt (hy.trans h)
    have hsk : sK m 3 = 0 ∨ sK m 3 = 2 := by unfold sK; split <;> simp
    have hnd : needB L (3 + sK m 3) = true → L.length = 3 + sK m 3 + 1 := fun h => by
      unfold needB at h
      rw [Bool.and_eq_true] at h
      exact of_decide_eq_true h.1
    rcases hsk with hsk | hsk
    · rw [hsk] at hnd ⊢
      simp only [Bool.and_eq_true, Bool.or_eq_true, decide_eq_true_eq]
      constructor
      · rintro ⟨⟨⟨x1, x2⟩, x3⟩, -⟩
        exact ⟨x1.elim (fun x => .inr (by omega)) .inl, ⟨x2, x3.resolve_left (by decide)⟩, .inl (by decide)⟩
      · rintro ⟨x1, ⟨x2, x3⟩, -⟩
        refine ⟨⟨⟨x1.elim .inr (fun x => .inl ?_), x2⟩, .inr x3⟩, .inl trivial⟩
        have := l2 x3
        omega
    · rw [hsk] at hnd ⊢
      simp only [Bool.and_eq_true, Bool.or_eq_true, decide_eq_true_eq]
      constructor
      · rintro ⟨⟨⟨x1, x2⟩, x3⟩, x4⟩
        obtain ⟨x5, x6⟩ := x4.resolve_left (by decide)
        exact ⟨x1.elim (fun x => .inr (by omega)) .inl, ⟨x2, x3.resolve_left (by decide)⟩, .inr ⟨x5, x6⟩⟩
      · rintro ⟨x1, ⟨x2, x3⟩, x4⟩
        obtain ⟨x5, x6⟩ := x4.resolve_left (by decide)
        refine ⟨⟨⟨x1.elim .inr (fun x => .inl ?_), x2⟩, .inr x3⟩, .inr ⟨x5, x6⟩⟩
        have := l3 x6
        omega)
  have hneC : Hid (some CB ≠ (Value.slice (FA l) mm (FC l)).ownBlock) := Lib.hid (fun e => by
    have h1 := (HK3.out.cols l (by rw [HN.out]; omega)).lt CB (by cases hA : FA l with | none => rw [hA] at e; cases e | some a => rw [hA] at e; exact e.symm)
    omega)
  have hneK : Hid (some gk ≠ (Value.slice (FA l) mm (FC l)).ownBlock) := Lib.hid (fun e => by
    rcases HOW.out.2 with ⟨hv, _⟩ | ⟨g', cap', cur, hv, _, hh, _⟩
    · rw [hv] at e; cases e
    · rw [hv] at e
      injection e with e
      have e' : gk = g' := e
      subst e'
      rw [hckk] at hh
      injection hh with hh
      injection hh with _ hh
      exact absurd hh (by decide))
  have hfz : w22.frozen? ⟨gk, l * 4 + 1, none⟩ = false := by simp [World.frozen?, hckk]
  clear HK22 HC22 HW22 HKW22 hckk
  have HC := HC2
  obtain ⟨⟨c0, c1, c2, c3, c4, c5, c6, c7⟩, ⟨y0, y1, y2, y3, y4, y5, y6, y7⟩, y8⟩ := obox8f HC.out
  go_region_law (first | (refine step_append_lies _ rfl (.tmp 103) (.tmp 105) 65 rfl B 60 i0 (.agg #[.string ⟨#[]⟩, .int .i64 0, .int .i64 0, .int .i64 0, .int .i64 0, .bool false, .int .u8 0, .bool false]) 8 56 Tryz.underlying65 HI.out HZ0.out HZ1.out HZ2.out rfl (by decide) (.slice (FA l) mm (FC l)) mm (rowsC 8 mm (colV fs)) rfl (by exact HOW.out.alloc (.cells #[.string nm, .int .i64 3, .int .i64 N1, .int .i64 0, .int .i64 N2, .bool rb, .int .u8 fl, .bool nb] 60)) ⟨w22.heap.size, 0, none⟩ 1 1 [.string nm, .int .i64 3, .int .i64 N1, .int .i64 0, .int .i64 N2, .bool rb, .int .u8 fl, .bool nb] rfl rfl (by exact k_cellsF w22 [.string nm, .int .i64 3, .int .i64 N1, .int .i64 0, .int .i64 N2, .bool rb, .int .u8 fl, .bool nb] 60) (by intro u hu; simp at hu; rcases hu with rfl | rfl | rfl | rfl | rfl | rfl | rfl | rfl <;> rfl) (by decide) (by unfold maxLen; omega) (by omega) (by have := HB22.size; simp; omega) _ rfl ?_; intro G cap w4 hown4 hg4 hat4 hlt4; (have hg4 := grown_alloc (grown_drewF hg4)); (have hC4 : w4.heap[CB]? = some (.cells #[.string nm, .int .i64 3, .int .i64 N1, .int .i64 0, .int .i64 N2, .bool rb, .int .u8 fl, .bool nb] 60 (0, 0)) := (hg4.block CB (lt_heap HC2.out) (fun e => hneC.out e)).trans HC2.out); (have hK4 := grown_type HOW.out hg4 HCK.out (by decide)); (have kc4 : w4.cell? ⟨gk, l * 4 + 1, none⟩ = some (.slice (FA l) mm (FC l)) := (hg4.cell kc22 (fun e => hneK.out e))); (have hfz4 : w4.frozen? ⟨gk, l * 4 + 1, none⟩ = false := by simp [World.frozen?, hK4]); obtain ⟨⟨r0, r1, r2, r3, r4, r5, r6, r7⟩, -, -⟩ := obox8f hC4))
  all_goals
    go_wp2
    go_ret
    have hL1 : ks.length - 1 = l := by rw [HN.out]; omega
    have hCol : colL (colW m 3 L) = [.string nm, .int .i64 3, .int .i64 N1, .int .i64 0, .int .i64 N2, .bool rb, .int .u8 fl, .bool nb] := by
      unfold colL colW
      obtain ⟨e1, e2, -⟩ := HF.out
      have e3 : (decide (sK m 3 ≠ 0) && decide (wd L (2 + pK 3) = wRight)) = rb := by
        rw [e1, HMB.out]
        rw [show (2 + pK 3 : Nat) = 3 from rfl, HSD.out]
      have e4 : (if sK m 3 ≠ 0 then nVal (wd L (3 + pK 3)) % 256 else 0) = fl := by
        rw [e2, show (3 + pK 3 : Nat) = 4 from rfl, HNF.out]
        have := HMB.out
        by_cases h : sK m 3 ≠ 0
        · rw [if_pos h]; rw [decide_eq_true h] at this; rw [← this, if_pos rfl]
        · rw [if_neg h]; rw [decide_eq_false h] at this; rw [← this, if_neg (by decide)]
      simp only [e3, e4]
      rw [show needB L (2 + pK 3 + sK m 3) = nb from HNB.out, HNM.out, HN1.out]
      rw [HN2.out]; rfl
    have hKf := KOwn.col (x := colW m 3 L) (w' := w4) (B := B) (H := (w22.alloc (.cells #[.string nm, .int .i64 3, .int .i64 N1, .int .i64 0, .int .i64 N2, .bool rb, .int .u8 fl, .bool nb] 60)).drew.heap.size) (g := G) (c' := cap) HK2.out (by rw [HN.out]; omega)
      (by rw [hL1, HFS.out, HMM.out, hCol]; exact hown4) (by rw [hL1, HFS.out, HMM.out]; exact hg4) (by rw [hL1, HFS.out, HMM.out]; exact hat4) (by show _ ≤ (w22.alloc (.cells #[.string nm, .int .i64 3, .int .i64 N1, .int .i64 0, .int .i64 N2, .bool rb, .int .u8 fl, .bool nb] 60)).heap.size; simp)
    rw [hL1, HFS.out, HMM.out] at hKf
    have hRw := heap_far (hKeepS.out _ _ _ hg4 (HKW2.out.2 _ _ _ _ HH3.out (by decide)) (by decide)) (p := ⟨gk, l * 4 + 1, none⟩) (heap_ne (hKeepS.out _ _ _ hg4 (HKW2.out.2 _ _ _ _ HH3.out (by decide)) (by decide)) hK4 (by decide)) (.slice (some ⟨G, 0, none⟩) (mm + 1) cap)
    have hFR : FR (w4.setCell ⟨gk, l * 4 + 1, none⟩ (.slice (some ⟨G, 0, none⟩) (mm + 1) cap)) B r S (N + 1) ⟨⟨m, q, addCol ks (colW m 3 L), hd, tl, ct, sm⟩, bg, en⟩ := by
      refine ⟨hBr, HOK.out.col (x := colW m 3 L) (by show (wd L 0).size ≤ S; rw [HNM.out]; exact hnm), _, c, _, _, ?_, hKf⟩
      unfold frC
      simp only
      rw [addCol_len, HN.out]
      exact hRw
    have hWf : Wds (w4.setCell ⟨gk, l * 4 + 1, none⟩ (.slice (some ⟨G, 0, none⟩) (mm + 1) cap)) b (if nb = true then [] else L.drop (3 + sK m 3)) bad := by
      obtain ⟨A6, c6, x1, x2, x3, x4⟩ := HW2.out
      have x5 := hKeepS.out _ _ _ hg4 x1 (by decide)
      exact ⟨A6, c6, heap_far x5 (heap_ne x5 hK4 (by decide)) _, x2, x3, (x4.keep (fun g cs f hh => hKeepS.out _ _ _ hg4 hh (by decide))).far hK4 (by decide) _⟩
    have hBf : Below B w (w4.setCell ⟨gk, l * 4 + 1, none⟩ (.slice (some ⟨G, 0, none⟩) (mm + 1) cap)) := by
      refine ((HB22.trans ⟨hg4.os, hg4.tape, hg4.output, hg4.size, fun k hk => hg4.block k (by have := HB22.size; omega) (fun e => ?_)⟩)).setCell (p := ⟨gk, l * 4 + 1, none⟩) hgB _
      have := HOW.out.lt k e.symm
      omega
    have hKs : Ks w (w4.setCell ⟨gk, l * 4 + 1, none⟩ (.slice (some ⟨G, 0, none⟩) (mm + 1) cap)) := by
      refine HKS3.out.trans ((Ks.of HKW2.out).trans (Ks.trans ⟨hg4.size, fun g cs f hh => hKeepS.out _ _ _ hg4 hh (by decide)⟩ (Ks.set hK4 (by decide) _)))
    by_cases hco : colOk m 3 L = true
    · have hO : O = some ⟨⟨m, q, addCol ks (colW m 3 L), hd, tl, ct, sm⟩, bg, en⟩ := by rw [← HO.out]; exact if_pos ⟨HKS.out, hco⟩
      obtain ⟨h1, h2⟩ := HFI.out.1 hco
      rw [h1, h2] at hWf
      exact RetLn.yes hO hWf hFR hBf hKs
    · have hO : O = none := by rw [← HO.out]; exact if_neg (fun h => hco h.2)
      exact RetLn.no hO (fun h => hco (HFI.out.2 ⟨h.2.1, h.2.2⟩)) hWf hBf hKs
theorem column_c (B r b S N : Nat) (st : FSt) (kd : Int) (L : List ByteArray) (w : World) (hkd : kd = 1 ∨ kd = 2 ∨ kd = 3) (hNN : N ≤ 1000000) (hS : S ≤ 9223372036854775807) (hz : ∀ s ∈ L, s.size ≤ S) (hB : B ≤ b) (hf : FR w B r S N st) (hw : Wds w b L false) :
    Calls Tryz.prog 127 #[.pointer (some ⟨r, 0, none⟩), .int .i64 kd, .pointer (some ⟨b, 0, none⟩)] w
      (RetLn (if st.f.kinds ≠ [] ∧ colOk st.f.mark kd L = true then some { st with f := { st.f with kinds := addCol st.f.kinds (colW st.f.mark kd L) } } else none) B r b S (N + 1) w) := by
  rcases hkd with rfl | rfl | rfl
  · exact column1_c B r b S N st L w hNN hS hz hB hf hw
  · exact column2_c B r b S N st L w hNN hS hz hB hf hw
  · exact column3_c B r b S N st L w hNN hS hz hB hf hw
end Go.Proofs.YtklblmbacnnoeaaGreatDoor
