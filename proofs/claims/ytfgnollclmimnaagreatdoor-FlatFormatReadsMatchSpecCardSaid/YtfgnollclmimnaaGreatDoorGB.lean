/- The walk of the reference's ReadFormat. (Printed by genG9.py.) The walk of the law FlatFormatReadsMatchSpec. -/
import Derived.Test.YtfgnollclmimnaaGreatDoorG95
import Derived.Test.YtfgnollclmimnaaGreatDoorFH
import Derived.Test.YtfgnollclmimnaaGreatDoorG5
import Derived.Test.YtfgnollclmimnaaGreatDoorShelf3
-- merged: GA GB

namespace Go.Proofs.YtfgnollclmimnaaGreatDoor
open Go.RowKit Limb Nmb Work
set_option linter.unusedVariables false
set_option linter.unusedSimpArgs false

set_option maxHeartbeats 4000000 in
set_option maxRecDepth 100000 in
theorem rreadfmt_c (t : ByteArray) (m0 : Int) (w : World) (hm0 : w.cell? ⟨0, 0, none⟩ = some (.int .i64 m0)) :
    Calls Tryz.prog 6 #[.string t] w (RetRF (readF t) w) := by
  obtain ⟨R, hR⟩ : ∃ x, readF t = x := ⟨_, rfl⟩
  rw [hR]
  have HR := Lib.hid hR
  clear hR
  have HP := Lib.hid (heap_new w (.cells #[.int .u8 0, .int .u8 0, .slice none 0 0, .string ⟨#[]⟩, .string ⟨#[]⟩, .string ⟨#[]⟩, .string ⟨#[]⟩] 24) rfl)
  have HB1 : Hid (Below w.heap.size w (w.alloc (.cells #[.int .u8 0, .int .u8 0, .slice none 0 0, .string ⟨#[]⟩, .string ⟨#[]⟩, .string ⟨#[]⟩, .string ⟨#[]⟩] 24))) := Lib.hid ((Below.refl w.heap.size w).alloc (Nat.le_refl _) _)
  by_cases hs : t.size ≤ 500000
  case neg =>
    have h1 : (500000 : Int) < (t.size : Int) := by omega
    have HE := Lib.hid (show R = (fmt0, 0, 2) by rw [← HR.out]; unfold readF; rw [if_pos (by omega)])
    clear hs
    go_enter Tryz.func6, Tryz.ntmps6
    go_upto_region 1 with fail
    obtain ⟨⟨r0, r1, r2, r3, r4, r5, r6⟩, ⟨y0, y1, y2, y3, y4, y5, y6⟩, r7⟩ := obox7f HP.out
    go_upto_region 2 with fail
    repeat (first | go_skip | go_guarded | go_step | go_upon | go_values)
    exact bodyPost_ret (v := .tuple #[.agg #[.int .u8 0, .int .u8 0, .slice none 0 0, .string ⟨#[]⟩, .string ⟨#[]⟩, .string ⟨#[]⟩, .string ⟨#[]⟩], .int .i64 0, .int .i64 2]) (by simp [results, Tryz.results6, go_sem, r0, r1, r2, r3, r4, r5, r6]) rfl (RetRF.no HE.out HB1.out)
  have h1 : ¬ (500000 : Int) < (t.size : Int) := by omega
  have HM : Hid ((w.alloc (.cells #[.int .u8 0, .int .u8 0, .slice none 0 0, .string ⟨#[]⟩, .string ⟨#[]⟩, .string ⟨#[]⟩, .string ⟨#[]⟩] 24)).cell? ⟨0, 0, none⟩ = some (.int .i64 m0)) := Lib.hid ((World.cell?_alloc_some w _ (.cells #[.int .u8 0, .int .u8 0, .slice none 0 0, .string ⟨#[]⟩, .string ⟨#[]⟩, .string ⟨#[]⟩, .string ⟨#[]⟩] 24) (by rw [hm0]; rfl)).trans hm0)
  have hRR : readF t = (match linesF (lnsE t.data.toList) st0 0 (lnsL t.data.toList) with | .inr n => (fmt0, n, 10) | .inl st => if st.ended = false then (fmt0, (lnsL t.data.toList).length + 1, 10) else if checkF st.f ≠ 0 then (fmt0, 0, checkF st.f) else (st.f, 0, 0)) := by
    unfold readF
    rw [if_neg (by omega)]
    rfl
  rw [HR.out] at hRR
  obtain ⟨n, hn⟩ : ∃ x, (lnsL t.data.toList).length = x := ⟨_, rfl⟩
  rw [hn] at hRR
  obtain ⟨LL, hLL⟩ : ∃ x, linesF (lnsE t.data.toList) st0 0 (lnsL t.data.toList) = x := ⟨_, rfl⟩
  rw [hLL] at hRR
  have HRR := Lib.hid hRR
  have HLL := Lib.hid hLL
  have HN := Lib.hid hn
  have hwB : w.heap.size < (w.alloc (.cells #[.int .u8 0, .int .u8 0, .slice none 0 0, .string ⟨#[]⟩, .string ⟨#[]⟩, .string ⟨#[]⟩, .string ⟨#[]⟩] 24)).heap.size := by simp
  clear hRR hLL hn hm0 HR
  go_enter Tryz.func6, Tryz.ntmps6
  go_upto_region 3 with fail
  have HP0 := HP; have HB0 := HB1; have HM0 := HM
  generalize w.alloc (.cells #[.int .u8 0, .int .u8 0, .slice none 0 0, .string ⟨#[]⟩, .string ⟨#[]⟩, .string ⟨#[]⟩, .string ⟨#[]⟩] 24) = w1 at HP0 HB0 HM0 hwB ⊢
  clear HP HB1 HM
  have HRB := Lib.hid (heap_new w1 (.cells #[.int .u8 0, .int .u8 0, .slice none 0 0, .string ⟨#[]⟩, .string ⟨#[]⟩, .string ⟨#[]⟩, .string ⟨#[]⟩, .bool false] 42) rfl)
  have HP2 := Lib.hid (heap_old HP0.out (.cells #[.int .u8 0, .int .u8 0, .slice none 0 0, .string ⟨#[]⟩, .string ⟨#[]⟩, .string ⟨#[]⟩, .string ⟨#[]⟩, .bool false] 42))
  have HB2 : Hid (Below w1.heap.size w1 (w1.alloc (.cells #[.int .u8 0, .int .u8 0, .slice none 0 0, .string ⟨#[]⟩, .string ⟨#[]⟩, .string ⟨#[]⟩, .string ⟨#[]⟩, .bool false] 42))) := Lib.hid ((Below.refl _ _).alloc (Nat.le_refl _) _)
  have HFR : Hid (RR (w1.alloc (.cells #[.int .u8 0, .int .u8 0, .slice none 0 0, .string ⟨#[]⟩, .string ⟨#[]⟩, .string ⟨#[]⟩, .string ⟨#[]⟩, .bool false] 42)) w1.heap.size w1.heap.size 500000 0 st0) := Lib.hid ⟨Nat.le_refl _, ⟨⟨⟨⟨by decide, by decide⟩, by decide, by decide⟩, Nat.le_refl 0⟩, fun k hk => by cases hk⟩, none, 0, fun _ => none, fun _ => 0, HRB.out, World.ownsRow_nil _ _ _ _, fun j hj => absurd hj (Nat.not_lt_zero _), fun j hj => absurd hj (Nat.not_lt_zero _)⟩
  go_upto_region 4 with fail
  generalize w1.alloc (.cells #[.int .u8 0, .int .u8 0, .slice none 0 0, .string ⟨#[]⟩, .string ⟨#[]⟩, .string ⟨#[]⟩, .string ⟨#[]⟩, .bool false] 42) = w2 at HFR HB2 HP2 ⊢
  clear HRB
  go_wp2_with fail
  go_loopw [0, 6] (fun tx i wr => ∃ (T : ByteArray) (j : Nat) (st : FSt), tx = .string T ∧ i = .int .i64 ((j : Int) + 1) ∧ j + T.size ≤ 500000 ∧ Hid (RR wr w1.heap.size w1.heap.size 500000 j st) ∧ Hid (Below w1.heap.size w1 wr) ∧ Hid (st.begun = decide (0 < j)) ∧ Hid (LL = linesF (lnsE T.data.toList) st j (lnsL T.data.toList)) ∧ Hid (n = j + (lnsL T.data.toList).length)) (fun _ i _ => 500002 - (intOf i).toNat)
  case atStart => exact ⟨t, 0, st0, rfl, rfl, by omega, HFR, HB2, Lib.hid rfl, Lib.hid HLL.out.symm, Lib.hid (by rw [HN.out]; omega)⟩
  case round =>
    clear HFR HB2 HP2
    obtain ⟨T, j, st, rfl, rfl, hj, HFR, HB, HBG, HJ, HC⟩ := hrel
    have HPr := Lib.hid (heap_below HP0.out HB.out)
    have HMr := Lib.hid ((HB.out.cell (p := ⟨0, 0, none⟩) (World.block_lt_of_cell? _ _ HM0.out)).trans HM0.out)
    have HBw : Hid (Below w.heap.size w wr) := Lib.hid (HB0.out.trans (HB.out.mono HB0.out.size))
    by_cases hT : T = ⟨#[]⟩
    · have em : T.toList.isEmpty = true := by rw [emp_dec]; exact decide_eq_true hT
      have HJ2 := Lib.hid (show LL = .inl st by rw [HJ.out, hT]; rfl)
      have hnj : n = j := by
        have := HC.out
        rw [hT] at this
        simpa [lnsL] using this
      have HEND := Lib.hid (show R = if st.ended = false then (fmt0, (j : Int) + 1, 10) else if checkF st.f ≠ 0 then (fmt0, 0, checkF st.f) else (st.f, 0, 0) by
        rw [HRR.out, HJ2.out, hnj])
      clear hnj hT HJ HJ2 HC
      obtain ⟨-, hok, A, c, FA, FC, hh, hK⟩ := HFR.out
      have HOK := Lib.hid hok
      have HKO := Lib.hid hK
      have HKI := Lib.hid (hK.kinds_ (hok.size (by decide)))
      have hcap := own_cap hK.kinds
      obtain ⟨f, bg, en⟩ := st
      have HCH := Lib.hid (fun h => rcheck_c f A c FA FC wr h hcap.1 hok.1.1.1 hok.1.1.2)
      obtain ⟨m, q, ks, hd, tl, ct, sm⟩ := f
      unfold rrC at hh
      unfold fmtG at HCH
      simp only at hh HCH HKI HKO HEND HOK hcap
      obtain ⟨nk, hnk⟩ : ∃ x, ks.length = x := ⟨_, rfl⟩
      have HNK := Lib.hid hnk
      rw [hnk] at hh HCH hcap
      unfold maxLen at hcap
      have HH := Lib.hid hh
      obtain ⟨⟨g0, g1, g2, g3, g4, g5, g6, g7⟩, ⟨z0, z1, z2, z3, z4, z5, z6, z7⟩, hlt⟩ := obox8f hh
      obtain ⟨⟨r0, r1, r2, r3, r4, r5, r6⟩, ⟨y0, y1, y2, y3, y4, y5, y6⟩, r7⟩ := obox7f HPr.out
      clear hok hh hK hnk HFR
      cases en with
      | false =>
        have HE := Lib.hid (show R = (fmt0, (j : Int) + 1, 10) by rw [HEND.out, if_pos rfl])
        go_upto_region 12 with fail
        repeat (first | go_skip | go_guarded | go_step | go_upon | go_values)
        clear r0 r1 r2 r3 r4 r5 r6 r7 y0 y1 y2 y3 y4 y5 y6
        obtain ⟨⟨r0, r1, r2, r3, r4, r5, r6⟩, -, -⟩ := obox7f (rb_set (a := .int .u8 0) (b := .int .u8 0) (c := .slice none 0 0) (d := .string ⟨#[]⟩) (e := .string ⟨#[]⟩) (f := .string ⟨#[]⟩) (i := .string ⟨#[]⟩) HPr.out)
        exact bodyPost_ret (v := .tuple #[.agg #[.int .u8 0, .int .u8 0, .slice none 0 0, .string ⟨#[]⟩, .string ⟨#[]⟩, .string ⟨#[]⟩, .string ⟨#[]⟩], .int .i64 ((j : Int) + 1), .int .i64 (10)]) (by simp [results, Tryz.results6, go_sem, r0, r1, r2, r3, r4, r5, r6]) rfl (RetRF.no HE.out (rb_below HBw.out (Nat.le_refl _)))
      | true =>
        obtain ⟨X, hX⟩ : ∃ x, checkF ⟨m, q, ks, hd, tl, ct, sm⟩ = x := ⟨_, rfl⟩
        rw [hX] at HCH HEND
        go_wp2_with fail
        refine (HCH.out HKI.out).mono ?_
        rintro e w3 ⟨rfl, hb3⟩
        have HP3 := Lib.hid (heap_below HPr.out hb3)
        have HBw3 : Hid (Below w.heap.size w w3) := Lib.hid (HBw.out.trans (hb3.mono HBw.out.size))
        have HK3 : Hid (KOwn w3 w1.heap.size A c ks FA FC) := Lib.hid (HKO.out.keep (fun g cs hh => heap_below hh hb3) (fun g cs hh => heap_below hh hb3))
        have HH3 := Lib.hid (heap_below HH.out hb3)
        clear hb3 hX
        clear r0 r1 r2 r3 r4 r5 r6 r7 y0 y1 y2 y3 y4 y5 y6
        clear g0 g1 g2 g3 g4 g5 g6 g7 z0 z1 z2 z3 z4 z5 z6 z7 hlt
        obtain ⟨⟨g0, g1, g2, g3, g4, g5, g6, g7⟩, ⟨z0, z1, z2, z3, z4, z5, z6, z7⟩, hlt⟩ := obox8f HH3.out
        obtain ⟨⟨r0, r1, r2, r3, r4, r5, r6⟩, ⟨y0, y1, y2, y3, y4, y5, y6⟩, r7⟩ := obox7f HP3.out
        by_cases hx : X = 0
        · subst hx
          have HE := Lib.hid (show R = (⟨m, q, ks, hd, tl, ct, sm⟩, 0, 0) by rw [HEND.out, if_neg (by decide), if_neg (by decide)])
          go_upto_region 16 with fail
          repeat (first | go_skip | go_guarded | go_step | go_upon | go_values)
          clear r0 r1 r2 r3 r4 r5 r6 r7 y0 y1 y2 y3 y4 y5 y6
          have hrs := rb_set (a := .int .u8 m) (b := .int .u8 q) (c := .slice A nk c) (d := .string hd) (e := .string tl) (f := .string ct) (i := .string sm) HP3.out
          obtain ⟨⟨r0, r1, r2, r3, r4, r5, r6⟩, -, -⟩ := obox7f hrs
          refine bodyPost_ret (v := .tuple #[.agg #[.int .u8 m, .int .u8 q, .slice A nk c, .string hd, .string tl, .string ct, .string sm], .int .i64 0, .int .i64 0]) (by simp [results, Tryz.results6, go_sem, r0, r1, r2, r3, r4, r5, r6]) rfl ⟨⟨m, q, ks, hd, tl, ct, sm⟩, A, c, FA, FC, 0, 0, ?_, HE.out, ?_, ?_, hcap.2, ⟨HOK.out.1.1.1, HOK.out.1.1.2⟩, rb_below HBw3.out (Nat.le_refl _)⟩
          · unfold fmtG
            simp only
            rw [HNK.out]
          · exact KOwn.kinds_ (f := ⟨m, q, ks, hd, tl, ct, sm⟩) (HK3.out.keep (fun g cs hh => rb_keep hh (heap_ne hh HP3.out (by decide))) (fun g cs hh => rb_keep hh (heap_ne hh HP3.out (by decide)))) (HOK.out.size (by decide))
          · simp only
            rw [HNK.out]
            exact hcap.1
        · have HE := Lib.hid (show R = (fmt0, 0, X) by rw [HEND.out, if_neg (by decide), if_pos hx])
          have hxa : (X != 0) = true := by simpa using hx
          have hxb : (X == 0) = false := by simpa using hx
          go_upto_region 15 with fail
          repeat (first | go_skip | go_guarded | go_step | go_upon | go_values)
          clear r0 r1 r2 r3 r4 r5 r6 r7 y0 y1 y2 y3 y4 y5 y6
          obtain ⟨⟨r0, r1, r2, r3, r4, r5, r6⟩, -, -⟩ := obox7f (rb_set (a := .int .u8 0) (b := .int .u8 0) (c := .slice none 0 0) (d := .string ⟨#[]⟩) (e := .string ⟨#[]⟩) (f := .string ⟨#[]⟩) (i := .string ⟨#[]⟩) HP3.out)
          exact bodyPost_ret (v := .tuple #[.agg #[.int .u8 0, .int .u8 0, .slice none 0 0, .string ⟨#[]⟩, .string ⟨#[]⟩, .string ⟨#[]⟩, .string ⟨#[]⟩], .int .i64 (0), .int .i64 (X)]) (by simp [results, Tryz.results6, go_sem, r0, r1, r2, r3, r4, r5, r6]) rfl (RetRF.no HE.out (rb_below HBw3.out (Nat.le_refl _)))
    · have em : T.toList.isEmpty = false := by rw [emp_dec]; exact decide_eq_false hT
      have hTl : T.data.toList ≠ [] := fun e => hT (ByteArray.ext (Array.toList_eq_nil_iff.1 e))
      have hcon := Tryz.strings_Cut T ⟨#[10]⟩ m0 wr (by omega) HMr.out
      rw [show (⟨#[10]⟩ : ByteArray).data.toList = [10] from rfl] at hcon
      obtain ⟨fb, hfb⟩ : ∃ x, ((j : Int) + 1 == 1) = x := ⟨_, rfl⟩
      have hfb2 : ((j : Int) == 0) = fb := by
        rw [← hfb, Bool.eq_iff_iff, beq_iff_eq, beq_iff_eq]
        constructor <;> intro h <;> omega
      have hfb3 : decide ((j : Int) = 0) = fb := by
        rw [← hfb2, Bool.eq_iff_iff, beq_iff_eq, decide_eq_true_iff]
      have hfb4 : decide (j = 0) = fb := by
        rw [← hfb3, Bool.eq_iff_iff, decide_eq_true_iff, decide_eq_true_iff]
        constructor <;> intro h <;> omega
      have HFB := Lib.hid (show st.begun = !fb by
        rw [HBG.out, ← hfb4]
        by_cases h0 : j = 0
        · rw [decide_eq_true h0, decide_eq_false (by omega)]; rfl
        · rw [decide_eq_false h0, decide_eq_true (by omega)]; rfl)
      clear hT
      rcases cut_nl T.data.toList with ⟨a, b, hab, hna, hcut⟩ | ⟨hna, hcut⟩
      · rw [hcut] at hcon
        have HCON := Lib.hid hcon
        have hsz : T.size = a.length + 1 + b.length := by
          have : T.data.toList.length = T.size := by simp
          rw [← this, hab]; simp; omega
        have hstep := lines_hit (st := st) (i := j) (b := b) hna
        have hlen := (lns_cut (b := b) hna).1
        have hbsz : (bs a).size = a.length := bs_size a
        have hbsb : (bs b).size = b.length := bs_size b
        have hlb : (bs b).data.toList = b := bs_toList b
        obtain ⟨sa, hsa⟩ : ∃ x, bs a = x := ⟨_, rfl⟩
        obtain ⟨sb, hsb⟩ : ∃ x, bs b = x := ⟨_, rfl⟩
        have hsa' : (⟨a.toArray⟩ : ByteArray) = sa := hsa
        have hsb' : (⟨b.toArray⟩ : ByteArray) = sb := hsb
        unfold Hid at HCON
        simp only [hsa', hsb'] at HCON
        have HCON := Lib.hid HCON
        rw [hsa] at hstep hbsz
        rw [hsb] at hbsb hlb
        have HLI := Lib.hid (fun w' q => rline_c w1.heap.size w1.heap.size 500000 j m0 st sa w' (by omega) (by decide) (by omega))
        obtain ⟨O, hO⟩ : ∃ x, lineF st sa = x := ⟨_, rfl⟩
        rw [hO] at hstep
        have HO := Lib.hid hO
        rw [hab] at HJ HC
        rw [hstep] at HJ
        rw [hlen] at HC
        rw [← hlb] at HJ HC
        clear hO hstep hcut hcon hab hna hlen hsa hsb hsa' hsb' hlb hTl HLI
        go_wp2_with fail
        refine HCON.out.mono ?_
        rintro e w3 ⟨rfl, q, rfl⟩
        have HF3 : Hid (RR (wr.drewN q) w1.heap.size w1.heap.size 500000 j st) := Lib.hid (HFR.out.below (below_drewN (Below.refl _ _) _))
        have HB3 : Hid (Below w1.heap.size w1 (wr.drewN q)) := Lib.hid (below_drewN HB.out _)
        have hM3 : (wr.drewN q).cell? ⟨0, 0, none⟩ = some (.int .i64 m0) := by exact HMr.out
        have HM3 := Lib.hid hM3
        clear hM3
        generalize wr.drewN q = w3 at HF3 HB3 HM3 ⊢
        have HLI := Lib.hid (rline_c w1.heap.size w1.heap.size 500000 j m0 st sa w3 (by omega) (by decide) (by omega) HM3.out HF3.out fb HFB.out)
        rw [HO.out] at HLI
        go_wp2_with fail
        refine HLI.out.mono ?_
        rintro e w4 ⟨rfl, hfr, hb4⟩
        have HB4 := Lib.hid (HB3.out.trans hb4)
        have HP4 := Lib.hid (heap_below HP0.out HB4.out)
        have HBw4 : Hid (Below w.heap.size w w4) := Lib.hid (HB0.out.trans (HB4.out.mono HB0.out.size))
        have HF4 := Lib.hid hfr
        clear hfr hb4 HLI
        obtain ⟨⟨r0, r1, r2, r3, r4, r5, r6⟩, ⟨y0, y1, y2, y3, y4, y5, y6⟩, r7⟩ := obox7f HP4.out
        cases hO : O with
        | none =>
          have HE := Lib.hid (show R = (fmt0, (j : Int) + 1, 10) by rw [HRR.out, HJ.out, hO])
          subst hO
          go_upto_region 9 with fail
          repeat (first | go_skip | go_guarded | go_step | go_upon | go_values)
          clear r0 r1 r2 r3 r4 r5 r6 r7 y0 y1 y2 y3 y4 y5 y6
          obtain ⟨⟨r0, r1, r2, r3, r4, r5, r6⟩, -, -⟩ := obox7f (rb_set (a := .int .u8 0) (b := .int .u8 0) (c := .slice none 0 0) (d := .string ⟨#[]⟩) (e := .string ⟨#[]⟩) (f := .string ⟨#[]⟩) (i := .string ⟨#[]⟩) HP4.out)
          exact bodyPost_ret (v := .tuple #[.agg #[.int .u8 0, .int .u8 0, .slice none 0 0, .string ⟨#[]⟩, .string ⟨#[]⟩, .string ⟨#[]⟩, .string ⟨#[]⟩], .int .i64 ((j : Int) + 1), .int .i64 (10)]) (by simp [results, Tryz.results6, go_sem, r0, r1, r2, r3, r4, r5, r6]) rfl (RetRF.no HE.out (rb_below HBw4.out (Nat.le_refl _)))
        | some st' =>
          have HF5 := Lib.hid (HF4.out st' hO)
          have HJ2 := Lib.hid (show LL = linesF (lnsE sb.data.toList) st' ((j + 1 : Nat) : Int) (lnsL sb.data.toList) by rw [HJ.out, hO]; rfl)
          have HG2 := Lib.hid (show st'.begun = decide (0 < j + 1) by rw [line_begun (HO.out.trans hO), decide_eq_true (Nat.succ_pos j)])
          have HC2 := Lib.hid (show n = (j + 1) + (lnsL sb.data.toList).length by have := HC.out; rw [List.length_cons] at this; omega)
          subst hO
          go_wp2
          go_roundw
          case rel => exact ⟨sb, j + 1, st', rfl, by go_num, by omega, HF5, HB4, HG2, HJ2, HC2⟩
          case measure => simp [intOf]; omega
      · rw [hcut] at hcon
        have hT2 : (⟨T.data.toList.toArray⟩ : ByteArray) = T := by cases T; simp
        simp only [hT2] at hcon
        have HCON := Lib.hid hcon
        have HE := Lib.hid (show R = (fmt0, (j : Int) + 1, 10) by rw [HRR.out, HJ.out, lines_last hna hTl])
        clear hcut hcon hna hT2 hTl
        go_wp2_with fail
        refine HCON.out.mono ?_
        rintro e w3 ⟨rfl, q, rfl⟩
        have HF3 : Hid (RR (wr.drewN q) w1.heap.size w1.heap.size 500000 j st) := Lib.hid (HFR.out.below (below_drewN (Below.refl _ _) _))
        have HB3 : Hid (Below w1.heap.size w1 (wr.drewN q)) := Lib.hid (below_drewN HB.out _)
        have hM3 : (wr.drewN q).cell? ⟨0, 0, none⟩ = some (.int .i64 m0) := by exact HMr.out
        have HM3 := Lib.hid hM3
        clear hM3
        generalize wr.drewN q = w3 at HF3 HB3 HM3 ⊢
        have HLI := Lib.hid (rline_c w1.heap.size w1.heap.size 500000 j m0 st T w3 (by omega) (by decide) (by omega) HM3.out HF3.out fb HFB.out)
        obtain ⟨O, hO⟩ : ∃ x, lineF st T = x := ⟨_, rfl⟩
        rw [hO] at HLI
        clear hO
        go_wp2_with fail
        refine HLI.out.mono ?_
        rintro e w4 ⟨rfl, -, hb4⟩
        have HB4 := Lib.hid (HB3.out.trans hb4)
        have HP4 := Lib.hid (heap_below HP0.out HB4.out)
        have HBw4 : Hid (Below w.heap.size w w4) := Lib.hid (HB0.out.trans (HB4.out.mono HB0.out.size))
        clear hb4 HLI
        obtain ⟨⟨r0, r1, r2, r3, r4, r5, r6⟩, ⟨y0, y1, y2, y3, y4, y5, y6⟩, r7⟩ := obox7f HP4.out
        cases O with
        | none =>
          go_upto_region 9 with fail
          repeat (first | go_skip | go_guarded | go_step | go_upon | go_values)
          clear r0 r1 r2 r3 r4 r5 r6 r7 y0 y1 y2 y3 y4 y5 y6
          obtain ⟨⟨r0, r1, r2, r3, r4, r5, r6⟩, -, -⟩ := obox7f (rb_set (a := .int .u8 0) (b := .int .u8 0) (c := .slice none 0 0) (d := .string ⟨#[]⟩) (e := .string ⟨#[]⟩) (f := .string ⟨#[]⟩) (i := .string ⟨#[]⟩) HP4.out)
          exact bodyPost_ret (v := .tuple #[.agg #[.int .u8 0, .int .u8 0, .slice none 0 0, .string ⟨#[]⟩, .string ⟨#[]⟩, .string ⟨#[]⟩, .string ⟨#[]⟩], .int .i64 ((j : Int) + 1), .int .i64 (10)]) (by simp [results, Tryz.results6, go_sem, r0, r1, r2, r3, r4, r5, r6]) rfl (RetRF.no HE.out (rb_below HBw4.out (Nat.le_refl _)))
        | some st' =>
          go_upto_region 9 with fail
          repeat (first | go_skip | go_guarded | go_step | go_upon | go_values)
          clear r0 r1 r2 r3 r4 r5 r6 r7 y0 y1 y2 y3 y4 y5 y6
          obtain ⟨⟨r0, r1, r2, r3, r4, r5, r6⟩, -, -⟩ := obox7f (rb_set (a := .int .u8 0) (b := .int .u8 0) (c := .slice none 0 0) (d := .string ⟨#[]⟩) (e := .string ⟨#[]⟩) (f := .string ⟨#[]⟩) (i := .string ⟨#[]⟩) HP4.out)
          exact bodyPost_ret (v := .tuple #[.agg #[.int .u8 0, .int .u8 0, .slice none 0 0, .string ⟨#[]⟩, .string ⟨#[]⟩, .string ⟨#[]⟩, .string ⟨#[]⟩], .int .i64 ((j : Int) + 1), .int .i64 (10)]) (by simp [results, Tryz.results6, go_sem, r0, r1, r2, r3, r4, r5, r6]) rfl (RetRF.no HE.out (rb_below HBw4.out (Nat.le_refl _)))
end Go.Proofs.YtfgnollclmimnaaGreatDoor

namespace Go.Proofs.YtfgnollclmimnaaGreatDoor
open Go.RowKit Limb Nmb Work
set_option linter.unusedVariables false
set_option linter.unusedSimpArgs false

set_option maxHeartbeats 2000000 in
set_option maxRecDepth 100000 in
theorem law_fmtreads (t : ByteArray) (m0 : Int) (w : World) (hm0 : w.cell? ⟨0, 0, none⟩ = some (.int .i64 m0)) :
    Calls Tryz.prog 3 #[.string t] w fun e w' => e = .returned (.bool true) ∧ Below w.heap.size w w' := by
  have HA := Lib.hid (readfmt_c t m0 w hm0)
  have HB := Lib.hid (fun w h => rreadfmt_c t m0 w h)
  have HM := Lib.hid hm0
  obtain ⟨R, hR⟩ : ∃ x, readF t = x := ⟨_, rfl⟩
  rw [hR] at HA HB
  clear hR hm0
  unfold RetRF at HA HB
  go_enter Tryz.func3, Tryz.ntmps3
  go_wp2_with fail
  refine HA.out.mono ?_
  rintro e w1 ⟨f, A, c, FA, FC, n, x, rfl, hr, hK, -, -, -, hb1⟩
  subst hr
  obtain ⟨m, q, ks, hd, tl, ct, sm⟩ := f
  have HK := Lib.hid hK
  have hP := heap_new w1 (.cells #[.int .u8 m, .int .u8 q, .slice A ks.length c, .string hd, .string tl, .string ct, .string sm] 24) rfl
  have HP := Lib.hid hP
  have hbn : Below w1.heap.size w1 (w1.alloc (.cells #[.int .u8 m, .int .u8 q, .slice A ks.length c, .string hd, .string tl, .string ct, .string sm] 24)) := by go_grown
  have hb2 := below_then hbn hb1 hb1.size
  have HM2 := Lib.hid ((hb2.cell (p := ⟨0, 0, none⟩) (World.block_lt_of_cell? _ _ HM.out)).trans HM.out)
  have HK2 := Lib.hid (HK.out.below hbn)
  unfold fmtG
  go_upto_region 2 with fail
  obtain ⟨p1, hp1⟩ : ∃ x, w1.heap.size = x := ⟨_, rfl⟩
  rw [hp1] at HP ⊢
  generalize w1.alloc (.cells #[.int .u8 m, .int .u8 q, .slice A ks.length c, .string hd, .string tl, .string ct, .string sm] 24) = w2 at HP hb2 HM2 HK2 ⊢
  clear hP hbn hK HK HA
  have HB2 := Lib.hid (HB.out _ HM2.out)
  go_wp2_with fail
  refine HB2.out.mono ?_
  rintro e w3 ⟨f', A', c', FA', FC', n', x', rfl, hr, hK, -, -, -, hb3⟩
  injection hr with h1 h2
  injection h2 with h2 h3
  subst h1; subst h2; subst h3
  have HP3 := Lib.hid (heap_below HP.out hb3)
  have HK3 := Lib.hid (HK2.out.below hb3)
  have HKr := Lib.hid hK
  have hb4 := below_then hb3 hb2 hb2.size
  have HQ := Lib.hid (heap_new w3 (.cells #[.int .u8 m, .int .u8 q, .slice A' ks.length c', .string hd, .string tl, .string ct, .string sm] 24) rfl)
  have HP4 := Lib.hid (heap_old HP3.out (.cells #[.int .u8 m, .int .u8 q, .slice A' ks.length c', .string hd, .string tl, .string ct, .string sm] 24))
  have hbn : Below w3.heap.size w3 (w3.alloc (.cells #[.int .u8 m, .int .u8 q, .slice A' ks.length c', .string hd, .string tl, .string ct, .string sm] 24)) := by go_grown
  have hb5 := below_then hbn hb4 hb4.size
  have HM5 := Lib.hid ((hb5.cell (p := ⟨0, 0, none⟩) (World.block_lt_of_cell? _ _ HM.out)).trans HM.out)
  have HK5 := Lib.hid (HK3.out.below hbn)
  have HKr5 := Lib.hid (HKr.out.below hbn)
  clear hK
  unfold fmtG
  go_upto_region 3 with fail
  obtain ⟨p2, hp2⟩ : ∃ x, w3.heap.size = x := ⟨_, rfl⟩
  rw [hp2] at HQ ⊢
  generalize w3.alloc (.cells #[.int .u8 m, .int .u8 q, .slice A' ks.length c', .string hd, .string tl, .string ct, .string sm] 24) = w5 at HQ HP4 hb5 HM5 HK5 HKr5 ⊢
  clear hbn HP3 HK3 HKr HB2 HB HP HM2 HK2
  have HS := Lib.hid (samefmt_c ⟨m, q, ks, hd, tl, ct, sm⟩ A A' c c' FA FA' FC FC' w5 HK5.out HKr5.out)
  unfold fmtG at HS
  simp only at HS
  obtain ⟨⟨r0, r1, r2, r3, r4, r5, r6⟩, -, -⟩ := obox7f HP4.out
  obtain ⟨⟨s0, s1, s2, s3, s4, s5, s6⟩, -, -⟩ := obox7f HQ.out
  go_wp2_with fail
  refine HS.out.mono ?_
  rintro e w6 ⟨rfl, hb6⟩
  have hb7 := below_then hb6 hb5 hb5.size
  have HM6 := Lib.hid ((hb7.cell (p := ⟨0, 0, none⟩) (World.block_lt_of_cell? _ _ HM.out)).trans HM.out)
  go_wp2_with fail
  refine (awake6_c m0 w6 HM6.out).mono ?_
  rintro e w7 ⟨rfl, hb8⟩
  have hb9 := below_then hb8 hb7 hb7.size
  go_wp2
  go_ret
  exact ⟨rfl, hb9⟩
/-- The law at any world in which the variable holds a number. -/
theorem law_fmtreads_i (t : ByteArray) (w : World) (hm : ∃ m, w.cell? ⟨0, 0, none⟩ = some (.int .i64 m)) :
    Calls Tryz.prog 3 #[.string t] w fun e w' => e = .returned (.bool true) ∧ Below w.heap.size w w' := by
  obtain ⟨m, hm⟩ := hm
  exact law_fmtreads t m w hm
end Go.Proofs.YtfgnollclmimnaaGreatDoor
