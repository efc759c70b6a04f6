
/- The walk of the reference's readColumn, at kind 0. (Printed by genG8.py.) -/
import Derived.Test.YtfgnollclmimnaaGreatDoorG8
namespace Go.Proofs.YtfgnollclmimnaaGreatDoor
open Go.RowKit Limb Nmb Work
set_option linter.unusedVariables false
set_option linter.unusedSimpArgs false

set_option maxHeartbeats 4000000 in
set_option maxRecDepth 100000 in
theorem rcolread0_c (f : Fmt) (A : Option Addr) (c S g : Nat) (W : List ByteArray) (w : World) (h1 : 1 ≤ W.length) (hb : W.length ≤ 9223372036854775807) (hz : ∀ s ∈ W, s.size ≤ S) (hS : S ≤ 9223372036854775807) (hh : w.heap[g]? = some (.cells (W.map Value.string).toArray 9 (0, 0))) (hk : kindW (wd W 0) = 0) :
    Calls Tryz.prog 44 #[fmtG f A c, .slice (some ⟨g, 0, none⟩) W.length W.length] w (RetRC f.mark W S w) := by
  obtain ⟨m, q, ks, hd, tl, ct, sm⟩ := f
  unfold fmtG
  simp only
  obtain ⟨nk, hnk⟩ : ∃ x, ks.length = x := ⟨_, rfl⟩
  rw [hnk]
  clear hnk
  obtain ⟨l, hl⟩ : ∃ l, W.length = l + 1 := ⟨W.length - 1, by omega⟩
  have HNW := Lib.hid hl
  have hbig : l + 1 ≤ 9223372036854775807 := by omega
  rw [hl]
  have HST := Lib.hid (sts_new hh)
  obtain ⟨x0, hx0⟩ : ∃ x, wd W 0 = x := ⟨_, rfl⟩
  obtain ⟨x1, hx1⟩ : ∃ x, wd W 1 = x := ⟨_, rfl⟩
  obtain ⟨x2, hx2⟩ : ∃ x, wd W 2 = x := ⟨_, rfl⟩
  obtain ⟨x3, hx3⟩ : ∃ x, wd W 3 = x := ⟨_, rfl⟩
  obtain ⟨x4, hx4⟩ : ∃ x, wd W 4 = x := ⟨_, rfl⟩
  obtain ⟨x5, hx5⟩ : ∃ x, wd W 5 = x := ⟨_, rfl⟩
  have HX0 := Lib.hid hx0; have HX1 := Lib.hid hx1; have HX2 := Lib.hid hx2; have HX3 := Lib.hid hx3; have HX4 := Lib.hid hx4; have HX5 := Lib.hid hx5
  have HZ1 := Lib.hid (show x1.size ≤ S by rw [← hx1]; exact wd_sz hz 1)
  have HS2 := Lib.hid (fun w => small_c x2 w (by rw [← hx2]; exact Nat.le_trans (wd_sz hz 2) hS))
  obtain ⟨N2, hN2⟩ : ∃ y, nVal x2 = y := ⟨_, rfl⟩
  obtain ⟨O2, hO2⟩ : ∃ y, nOk x2 = y := ⟨_, rfl⟩
  unfold RetNo at HS2
  rw [hN2, hO2] at HS2
  have HN2 := Lib.hid hN2; have HO2 := Lib.hid hO2
  clear hN2 hO2
  have HS3 := Lib.hid (fun w => small_c x3 w (by rw [← hx3]; exact Nat.le_trans (wd_sz hz 3) hS))
  obtain ⟨N3, hN3⟩ : ∃ y, nVal x3 = y := ⟨_, rfl⟩
  obtain ⟨O3, hO3⟩ : ∃ y, nOk x3 = y := ⟨_, rfl⟩
  unfold RetNo at HS3
  rw [hN3, hO3] at HS3
  have HN3 := Lib.hid hN3; have HO3 := Lib.hid hO3
  clear hN3 hO3
  have HS4 := Lib.hid (fun w => small_c x4 w (by rw [← hx4]; exact Nat.le_trans (wd_sz hz 4) hS))
  obtain ⟨N4, hN4⟩ : ∃ y, nVal x4 = y := ⟨_, rfl⟩
  obtain ⟨O4, hO4⟩ : ∃ y, nOk x4 = y := ⟨_, rfl⟩
  unfold RetNo at HS4
  rw [hN4, hO4] at HS4
  have HN4 := Lib.hid hN4; have HO4 := Lib.hid hO4
  clear hN4 hO4
  have HS5 := Lib.hid (fun w => small_c x5 w (by rw [← hx5]; exact Nat.le_trans (wd_sz hz 5) hS))
  obtain ⟨N5, hN5⟩ : ∃ y, nVal x5 = y := ⟨_, rfl⟩
  obtain ⟨O5, hO5⟩ : ∃ y, nOk x5 = y := ⟨_, rfl⟩
  unfold RetNo at HS5
  rw [hN5, hO5] at HS5
  have HN5 := Lib.hid hN5; have HO5 := Lib.hid hO5
  clear hN5 hO5
  obtain ⟨xl, hxl⟩ : ∃ x, wd W l = x := ⟨_, rfl⟩
  obtain ⟨nb, hnb⟩ : ∃ x, (xl.toList == [110, 101, 101, 100]) = x := ⟨_, rfl⟩
  have HNB := Lib.hid (show nbF W = nb by unfold nbF; rw [hl, Nat.add_sub_cancel, hxl, ← hnb, lit_dec]; rfl)
  obtain ⟨n, hn⟩ : ∃ x, nnF W = x := ⟨_, rfl⟩
  have HNN := Lib.hid (show n = if nb = true then l else l + 1 by rw [← hn]; unfold nnF; rw [HNB.out, hl, Nat.add_sub_cancel])
  have hnl : n ≤ l + 1 := by rw [HNN.out]; split <;> omega
  have HGD := Lib.hid (show (kindW (wd W 0) ≠ 0 ∧ colOk m (kindW (wd W 0)) W.tail = true) → False from fun k => k.1 hk)
  have ll : w.cell? ⟨g, l, none⟩ = some (.string xl) := by
    have := sts_at HST.out (j := l) (by omega)
    rw [hxl] at this
    simpa using this
  have hgw := lt_heap hh
  have HF := Lib.hid (heap_old (heap_old (heap_new w (.cells #[.int .u8 m, .int .u8 q, .slice A nk c, .string hd, .string tl, .string ct, .string sm] 24) rfl) (.cells #[.string ⟨#[]⟩, .int .i64 0, .int .i64 0, .int .i64 0, .int .i64 0, .bool false, .int .u8 0, .bool false] 51)) (.cells #[.string ⟨#[]⟩, .int .i64 0, .int .i64 0, .int .i64 0, .int .i64 0, .bool false, .int .u8 0, .bool false] 51))
  have HR := Lib.hid (heap_old (heap_new (w.alloc (.cells #[.int .u8 m, .int .u8 q, .slice A nk c, .string hd, .string tl, .string ct, .string sm] 24)) (.cells #[.string ⟨#[]⟩, .int .i64 0, .int .i64 0, .int .i64 0, .int .i64 0, .bool false, .int .u8 0, .bool false] 51) (g := w.heap.size + 1) (by simp)) (.cells #[.string ⟨#[]⟩, .int .i64 0, .int .i64 0, .int .i64 0, .int .i64 0, .bool false, .int .u8 0, .bool false] 51))
  have HC := Lib.hid (heap_new ((w.alloc (.cells #[.int .u8 m, .int .u8 q, .slice A nk c, .string hd, .string tl, .string ct, .string sm] 24)).alloc (.cells #[.string ⟨#[]⟩, .int .i64 0, .int .i64 0, .int .i64 0, .int .i64 0, .bool false, .int .u8 0, .bool false] 51)) (.cells #[.string ⟨#[]⟩, .int .i64 0, .int .i64 0, .int .i64 0, .int .i64 0, .bool false, .int .u8 0, .bool false] 51) (g := w.heap.size + 1 + 1) (by simp))
  have HB : Hid (Below w.heap.size w (((w.alloc (.cells #[.int .u8 m, .int .u8 q, .slice A nk c, .string hd, .string tl, .string ct, .string sm] 24)).alloc (.cells #[.string ⟨#[]⟩, .int .i64 0, .int .i64 0, .int .i64 0, .int .i64 0, .bool false, .int .u8 0, .bool false] 51)).alloc (.cells #[.string ⟨#[]⟩, .int .i64 0, .int .i64 0, .int .i64 0, .int .i64 0, .bool false, .int .u8 0, .bool false] 51))) := Lib.hid (by go_grown)
  have ll' := (HB.out.cell (p := ⟨g, l, none⟩) hgw).trans ll
  clear hh hx0 hx1 hx2 hx3 hx4 hx5 hxl hn hl hz ll
  go_enter Tryz.func44, Tryz.ntmps44
  go_upto_region 2 with fail
  have hFC : w.heap.size ≠ w.heap.size + 1 + 1 := by omega
  have hRC : w.heap.size + 1 ≠ w.heap.size + 1 + 1 := by omega
  have hCB : w.heap.size ≤ w.heap.size + 1 + 1 := by omega
  have hRB : w.heap.size ≤ w.heap.size + 1 := by omega
  generalize ((w.alloc (.cells #[.int .u8 m, .int .u8 q, .slice A nk c, .string hd, .string tl, .string ct, .string sm] 24)).alloc (.cells #[.string ⟨#[]⟩, .int .i64 0, .int .i64 0, .int .i64 0, .int .i64 0, .bool false, .int .u8 0, .bool false] 51)).alloc (.cells #[.string ⟨#[]⟩, .int .i64 0, .int .i64 0, .int .i64 0, .int .i64 0, .bool false, .int .u8 0, .bool false] 51) = w1 at HF HR HC HB ll' ⊢
  generalize w.heap.size + 1 + 1 = CB at HC hFC hRC hCB ⊢
  generalize w.heap.size + 1 = RB at HR hRC hRB ⊢
  obtain ⟨⟨f0, f1, f2, f3, f4, f5, f6⟩, f7⟩ := obox7 HF.out
  obtain ⟨⟨c0, c1, c2, c3, c4, c5, c6, c7⟩, ⟨y0, y1, y2, y3, y4, y5, y6, y7⟩, y8⟩ := obox8f HC.out
  obtain ⟨⟨r0, r1, r2, r3, r4, r5, r6, r7⟩, ⟨s0, s1, s2, s3, s4, s5, s6, s7⟩, s8⟩ := obox8f HR.out
  go_upto_if 20 with fail
  go_cut [1] (fun v wx => v = .slice (some ⟨g, 0, none⟩) n (l + 1) ∧ Hid (wx.heap[w.heap.size]? = some (.cells #[.int .u8 m, .int .u8 q, .slice A nk c, .string hd, .string tl, .string ct, .string sm] 24 (0, 0))) ∧ Hid (wx.heap[RB]? = some (.cells #[.string ⟨#[]⟩, .int .i64 0, .int .i64 0, .int .i64 0, .int .i64 0, .bool false, .int .u8 0, .bool false] 51 (0, 0))) ∧ Hid (wx.heap[CB]? = some (.cells #[.string ⟨#[]⟩, .int .i64 0, .int .i64 0, .int .i64 0, .int .i64 0, .bool false, .int .u8 0, .bool nb] 51 (0, 0))) ∧ Hid (Below w.heap.size w wx))
  case first =>
    cases nb with
    | false =>
      have e : n = l + 1 := HNN.out
      subst e
      go_wp2_with fail
      go_meet
      exact ⟨rfl, HF, HR, HC, HB⟩
    | true =>
      have e : n = l := HNN.out
      subst e
      go_wp2_with fail
      go_region
      all_goals
        go_wp2_with fail
        go_meet
        refine ⟨rfl, Lib.hid (heap_far (w := w1.drew) HF.out (p := ⟨CB, 7, none⟩) hFC _), Lib.hid (heap_far (w := w1.drew) HR.out (p := ⟨CB, 7, none⟩) hRC _), Lib.hid ?_, Lib.hid (HB.out.drew.setCell (p := ⟨CB, 7, none⟩) hCB _)⟩
        have := heap_set HC.out 7 (.bool true)
        show (w1.setCell ⟨CB, 7, none⟩ (.bool true)).heap[CB]? = _
        simpa using this
  case rest =>
  clear f0 f1 f2 f3 f4 f5 f6 f7 c0 c1 c2 c3 c4 c5 c6 c7 y0 y1 y2 y3 y4 y5 y6 y7 y8 r0 r1 r2 r3 r4 r5 r6 r7 s0 s1 s2 s3 s4 s5 s6 s7 s8
  clear HF HR HC HB ll'
  obtain ⟨rfl, HF, HR, HC, HB⟩ := hcut
  generalize wc = w2 at HF HR HC HB ⊢
  obtain ⟨⟨f0, f1, f2, f3, f4, f5, f6⟩, f7⟩ := obox7 HF.out
  obtain ⟨⟨c0, c1, c2, c3, c4, c5, c6, c7⟩, ⟨y0, y1, y2, y3, y4, y5, y6, y7⟩, y8⟩ := obox8f HC.out
  obtain ⟨⟨r0, r1, r2, r3, r4, r5, r6, r7⟩, ⟨s0, s1, s2, s3, s4, s5, s6, s7⟩, s8⟩ := obox8f HR.out
  by_cases h3 : n < 3
  · have HNG := Lib.hid (show ¬ (kindW (wd W 0) ≠ 0 ∧ colOk m (kindW (wd W 0)) W.tail = true) from fun k => by
      have := HGD.out k
      exact this)
    have h3a : (n : Int) < 3 := by omega
    clear h3
    repeat (first | go_skip | go_guarded | go_step | go_upon | go_values)
    clear f0 f1 f2 f3 f4 f5 f6 f7 c0 c1 c2 c3 c4 c5 c6 c7 y0 y1 y2 y3 y4 y5 y6 y7 y8 r0 r1 r2 r3 r4 r5 r6 r7 s0 s1 s2 s3 s4 s5 s6 s7 s8
    obtain ⟨⟨r0, r1, r2, r3, r4, r5, r6, r7⟩, -, -⟩ := obox8f (rb_set8 (a := .string ⟨#[]⟩) (b := .int .i64 0) (c := .int .i64 0) (d := .int .i64 0) (e := .int .i64 0) (f := .bool false) (i := .int .u8 0) (j := .bool nb) HR.out)
    refine bodyPost_ret (v := .tuple #[.agg #[.string ⟨#[]⟩, .int .i64 0, .int .i64 0, .int .i64 0, .int .i64 0, .bool false, .int .u8 0, .bool nb], .bool false]) (by simp [results, Tryz.results44, go_sem, r0, r1, r2, r3, r4, r5, r6, r7]) rfl ?_
    exact RetRC.no ⟨⟨#[]⟩, 0, 0, 0, 0, false, 0, nb⟩ HNG.out (Nat.zero_le _) (rb_below8 HB.out hRB)
  have h3a : ¬ (n : Int) < 3 := by omega
  have hl2 : 2 ≤ l := by omega
  have l0 : w2.cell? ⟨g, 0, none⟩ = some (.string x0) := by
    have := sts_at (HST.out.below HB.out) (j := 0) (by rw [HNW.out]; omega)
    rw [HX0.out] at this
    simpa using this
  have l1 : w2.cell? ⟨g, 1, none⟩ = some (.string x1) := by
    have := sts_at (HST.out.below HB.out) (j := 1) (by rw [HNW.out]; omega)
    rw [HX1.out] at this
    simpa using this
  have l2 : w2.cell? ⟨g, 2, none⟩ = some (.string x2) := by
    have := sts_at (HST.out.below HB.out) (j := 2) (by rw [HNW.out]; omega)
    rw [HX2.out] at this
    simpa using this
  have HKI := Lib.hid (kwidx3_c 0 x0 (by rw [HX0.out] at hk; exact hk))
  clear hk h3
  have hg2 : g < w2.heap.size := World.block_lt_of_cell? _ _ l0
  go_wp2_with fail
  have hcz : CB < w2.heap.size := y8
  have hn3 := heap_new w2 (.cells #[.string ⟨#[116, 101, 120, 116]⟩, .string ⟨#[110, 117, 109, 98, 101, 114]⟩, .string ⟨#[100, 97, 121]⟩] 9) rfl
  have HFn := Lib.hid (heap_old HF.out (.cells #[.string ⟨#[116, 101, 120, 116]⟩, .string ⟨#[110, 117, 109, 98, 101, 114]⟩, .string ⟨#[100, 97, 121]⟩] 9)); have HCn := Lib.hid (heap_old HC.out (.cells #[.string ⟨#[116, 101, 120, 116]⟩, .string ⟨#[110, 117, 109, 98, 101, 114]⟩, .string ⟨#[100, 97, 121]⟩] 9)); have HRn := Lib.hid (heap_old HR.out (.cells #[.string ⟨#[116, 101, 120, 116]⟩, .string ⟨#[110, 117, 109, 98, 101, 114]⟩, .string ⟨#[100, 97, 121]⟩] 9)); have HBn : Hid (Below w.heap.size w (w2.alloc (.cells #[.string ⟨#[116, 101, 120, 116]⟩, .string ⟨#[110, 117, 109, 98, 101, 114]⟩, .string ⟨#[100, 97, 121]⟩] 9))) := Lib.hid (HB.out.alloc HB.out.size _)
  refine (HKI.out _ _ hn3).mono ?_
  rintro e w3 ⟨rfl, rfl⟩
  clear f0 f1 f2 f3 f4 f5 f6 f7 c0 c1 c2 c3 c4 c5 c6 c7 y0 y1 y2 y3 y4 y5 y6 y7 y8 r0 r1 r2 r3 r4 r5 r6 r7 s0 s1 s2 s3 s4 s5 s6 s7 s8
  clear HF HC HR HB hn3 l0 l1 l2
  have HF := HFn; have HC := HCn; have HR := HRn; have HB := HBn
  clear HFn HCn HRn HBn
  generalize w2.alloc (.cells #[.string ⟨#[116, 101, 120, 116]⟩, .string ⟨#[110, 117, 109, 98, 101, 114]⟩, .string ⟨#[100, 97, 121]⟩] 9) = w3 at HF HC HR HB ⊢
  obtain ⟨⟨f0, f1, f2, f3, f4, f5, f6⟩, f7⟩ := obox7 HF.out
  obtain ⟨⟨c0, c1, c2, c3, c4, c5, c6, c7⟩, ⟨y0, y1, y2, y3, y4, y5, y6, y7⟩, y8⟩ := obox8f HC.out
  obtain ⟨⟨r0, r1, r2, r3, r4, r5, r6, r7⟩, ⟨s0, s1, s2, s3, s4, s5, s6, s7⟩, s8⟩ := obox8f HR.out
  have l2 : w3.cell? ⟨g, 2, none⟩ = some (.string x2) := by
    have := sts_at (HST.out.below HB.out) (j := 2) (by rw [HNW.out]; omega)
    rw [HX2.out] at this
    simpa using this
  go_upto_region 7 with fail
  have HCn := HC; have HFn := HF; have HRn := HR; have HBn := HB
  have HFn := Lib.hid (heap_far HFn.out (p := ⟨CB, 1, none⟩) hFC (.int .i64 0))
  have HRn := Lib.hid (heap_far HRn.out (p := ⟨CB, 1, none⟩) hRC (.int .i64 0))
  have HBn : Hid (Below w.heap.size w (w3.setCell ⟨CB, 1, none⟩ (.int .i64 0))) := Lib.hid (HBn.out.setCell (p := ⟨CB, 1, none⟩) hCB _)
  have HCn : Hid ((w3.setCell ⟨CB, 1, none⟩ (.int .i64 0)).heap[CB]? = some (.cells #[.string ⟨#[]⟩, .int .i64 0, .int .i64 0, .int .i64 0, .int .i64 0, .bool false, .int .u8 0, .bool nb] 51 (0, 0))) := Lib.hid (by have := heap_set HCn.out 1 (.int .i64 0); simpa using this)
  clear f0 f1 f2 f3 f4 f5 f6 f7 c0 c1 c2 c3 c4 c5 c6 c7 y0 y1 y2 y3 y4 y5 y6 y7 y8 r0 r1 r2 r3 r4 r5 r6 r7 s0 s1 s2 s3 s4 s5 s6 s7 s8
  clear l2
  clear HC HF HR HB
  generalize w3.setCell ⟨CB, 1, none⟩ (.int .i64 0) = w4 at HCn HFn HRn HBn ⊢
  have HC := HCn; have HF := HFn; have HR := HRn; have HB := HBn
  clear HCn HFn HRn HBn
  obtain ⟨⟨f0, f1, f2, f3, f4, f5, f6⟩, f7⟩ := obox7 HF.out
  obtain ⟨⟨c0, c1, c2, c3, c4, c5, c6, c7⟩, ⟨y0, y1, y2, y3, y4, y5, y6, y7⟩, y8⟩ := obox8f HC.out
  obtain ⟨⟨r0, r1, r2, r3, r4, r5, r6, r7⟩, ⟨s0, s1, s2, s3, s4, s5, s6, s7⟩, s8⟩ := obox8f HR.out
  have l2 : w4.cell? ⟨g, 2, none⟩ = some (.string x2) := by
    have := sts_at (HST.out.below HB.out) (j := 2) (by rw [HNW.out]; omega)
    rw [HX2.out] at this
    simpa using this
  go_wp2_with fail
  refine (HS2.out _).mono ?_
  rintro e w5 ⟨rfl, hbx⟩
  have HFn := Lib.hid (heap_below HF.out hbx); have HCn := Lib.hid (heap_below HC.out hbx); have HRn := Lib.hid (heap_below HR.out hbx); have HBn := Lib.hid (below_then hbx HB.out HB.out.size)
  have hbz := Lib.hid hbx
  clear f0 f1 f2 f3 f4 f5 f6 f7 c0 c1 c2 c3 c4 c5 c6 c7 y0 y1 y2 y3 y4 y5 y6 y7 y8 r0 r1 r2 r3 r4 r5 r6 r7 s0 s1 s2 s3 s4 s5 s6 s7 s8
  clear l2
  clear HF HC HR HB hbx
  have HF := HFn; have HC := HCn; have HR := HRn; have HB := HBn
  clear HFn HCn HRn HBn
  obtain ⟨⟨f0, f1, f2, f3, f4, f5, f6⟩, f7⟩ := obox7 HF.out
  obtain ⟨⟨c0, c1, c2, c3, c4, c5, c6, c7⟩, ⟨y0, y1, y2, y3, y4, y5, y6, y7⟩, y8⟩ := obox8f HC.out
  obtain ⟨⟨r0, r1, r2, r3, r4, r5, r6, r7⟩, ⟨s0, s1, s2, s3, s4, s5, s6, s7⟩, s8⟩ := obox8f HR.out
  have l1 : w5.cell? ⟨g, 1, none⟩ = some (.string x1) := by
    have := sts_at (HST.out.below HB.out) (j := 1) (by rw [HNW.out]; omega)
    rw [HX1.out] at this
    simpa using this
  go_upto_region 9 with fail
  have HCn := HC; have HFn := HF; have HRn := HR; have HBn := HB
  have HFn := Lib.hid (heap_far HFn.out (p := ⟨CB, 0, none⟩) hFC (.string x1))
  have HRn := Lib.hid (heap_far HRn.out (p := ⟨CB, 0, none⟩) hRC (.string x1))
  have HBn : Hid (Below w.heap.size w (w5.setCell ⟨CB, 0, none⟩ (.string x1))) := Lib.hid (HBn.out.setCell (p := ⟨CB, 0, none⟩) hCB _)
  have HCn : Hid ((w5.setCell ⟨CB, 0, none⟩ (.string x1)).heap[CB]? = some (.cells #[.string x1, .int .i64 0, .int .i64 0, .int .i64 0, .int .i64 0, .bool false, .int .u8 0, .bool nb] 51 (0, 0))) := Lib.hid (by have := heap_set HCn.out 0 (.string x1); simpa using this)
  have HFn := Lib.hid (heap_far HFn.out (p := ⟨CB, 2, none⟩) hFC (.int .i64 N2))
  have HRn := Lib.hid (heap_far HRn.out (p := ⟨CB, 2, none⟩) hRC (.int .i64 N2))
  have HBn : Hid (Below w.heap.size w ((w5.setCell ⟨CB, 0, none⟩ (.string x1)).setCell ⟨CB, 2, none⟩ (.int .i64 N2))) := Lib.hid (HBn.out.setCell (p := ⟨CB, 2, none⟩) hCB _)
  have HCn : Hid (((w5.setCell ⟨CB, 0, none⟩ (.string x1)).setCell ⟨CB, 2, none⟩ (.int .i64 N2)).heap[CB]? = some (.cells #[.string x1, .int .i64 0, .int .i64 N2, .int .i64 0, .int .i64 0, .bool false, .int .u8 0, .bool nb] 51 (0, 0))) := Lib.hid (by have := heap_set HCn.out 2 (.int .i64 N2); simpa using this)
  clear f0 f1 f2 f3 f4 f5 f6 f7 c0 c1 c2 c3 c4 c5 c6 c7 y0 y1 y2 y3 y4 y5 y6 y7 y8 r0 r1 r2 r3 r4 r5 r6 r7 s0 s1 s2 s3 s4 s5 s6 s7 s8
  clear l1
  clear HC HF HR HB
  generalize (w5.setCell ⟨CB, 0, none⟩ (.string x1)).setCell ⟨CB, 2, none⟩ (.int .i64 N2) = w6 at HCn HFn HRn HBn ⊢
  have HC := HCn; have HF := HFn; have HR := HRn; have HB := HBn
  clear HCn HFn HRn HBn
  obtain ⟨⟨f0, f1, f2, f3, f4, f5, f6⟩, f7⟩ := obox7 HF.out
  obtain ⟨⟨c0, c1, c2, c3, c4, c5, c6, c7⟩, ⟨y0, y1, y2, y3, y4, y5, y6, y7⟩, y8⟩ := obox8f HC.out
  obtain ⟨⟨r0, r1, r2, r3, r4, r5, r6, r7⟩, ⟨s0, s1, s2, s3, s4, s5, s6, s7⟩, s8⟩ := obox8f HR.out
  obtain ⟨v3, hr3⟩ : ∃ r, n - 3 = r := ⟨_, rfl⟩
  have HR3 := Lib.hid hr3
  go_cut [9] (fun v wx => ∃ A9 c9, v = .slice A9 v3 c9 ∧ v3 ≤ c9 ∧ c9 ≤ l + 1 ∧ Hid (Sts wx A9 ((W.take n).drop 3)) ∧ w6 = wx)
  case first =>
    subst hr3
    by_cases hc3 : l = 2
    · have hn3 : n = 3 := by omega
      subst hc3
      subst hn3
      go_wp2_with fail
      go_meet
      exact ⟨some ⟨g, 0, none⟩, 0, rfl, Nat.le_refl 0, by omega, Lib.hid (fun hh => absurd hh (by rw [List.length_drop, List.length_take]; omega)), rfl⟩
    · have i1 : (3 : Int) ≤ (n : Int) := by omega
      have i2 : 3 ≤ n := by omega
      have i3 : n ≤ l + 1 := hnl
      have i4 : ¬ l + 1 = 3 := by omega
      have hq1 : n - 3 ≤ l + 1 - 3 := by omega
      have hq2 : l + 1 - 3 ≤ l + 1 := by omega
      have HS9x : Hid (Sts w6 (some ⟨g, 3, none⟩) ((W.take n).drop 3)) := Lib.hid (by
        have := sts_dropk (sts_takek (HST.out.below HB.out) n) 3
        simpa using this)
      go_wp2_with fail
      go_meet
      exact ⟨some ⟨g, 3, none⟩, l + 1 - 3, by first | rfl | simp, hq1, hq2, HS9x, rfl⟩
  case rest =>
  obtain ⟨A9, c9, rfl, hc9, hc9l, HS9, rfl⟩ := hcut
  have HRL := Lib.hid (show ((W.take n).drop 3).length = v3 by rw [← hr3]; rw [List.length_drop, List.length_take, HNW.out]; omega)
  have hnr : n = v3 + 3 := by omega
  have HNR := Lib.hid hnr
  clear hr3 hnr
  go_upto_region 19 with fail
  go_cut [97] (fun v wx => v = .bool false ∧ w6 = wx)
  case first =>
    by_cases hm0 : m = 0
    · have e1 : (m == 0) = true := by simpa using hm0
      clear hm0
      go_wp2_with fail
      go_meet
      exact ⟨rfl, rfl⟩
    · have e1 : (m == 0) = false := by simpa using hm0
      clear hm0
      go_wp2_with fail
      go_meet
      exact ⟨rfl, rfl⟩
  case rest =>
  obtain ⟨rfl, rfl⟩ := hcut
  have HNG := Lib.hid (show ¬ (kindW (wd W 0) ≠ 0 ∧ colOk m (kindW (wd W 0)) W.tail = true) from HGD.out)
  cases O2 with
  | false =>
    repeat (first | go_skip | go_guarded | go_step | go_upon | go_values)
    clear f0 f1 f2 f3 f4 f5 f6 f7 c0 c1 c2 c3 c4 c5 c6 c7 y0 y1 y2 y3 y4 y5 y6 y7 y8 r0 r1 r2 r3 r4 r5 r6 r7 s0 s1 s2 s3 s4 s5 s6 s7 s8
    obtain ⟨⟨r0, r1, r2, r3, r4, r5, r6, r7⟩, -, -⟩ := obox8f (rb_set8 (a := .string x1) (b := .int .i64 0) (c := .int .i64 N2) (d := .int .i64 0) (e := .int .i64 0) (f := .bool false) (i := .int .u8 0) (j := .bool nb) HR.out)
    refine bodyPost_ret (v := .tuple #[.agg #[.string x1, .int .i64 0, .int .i64 N2, .int .i64 0, .int .i64 0, .bool false, .int .u8 0, .bool nb], .bool false]) (by simp [results, Tryz.results44, go_sem, r0, r1, r2, r3, r4, r5, r6, r7]) rfl ?_
    exact RetRC.no ⟨x1, 0, N2, 0, 0, false, 0, nb⟩ HNG.out HZ1.out (rb_below8 HB.out hRB)
  | true =>
    repeat (first | go_skip | go_guarded | go_step | go_upon | go_values)
    clear f0 f1 f2 f3 f4 f5 f6 f7 c0 c1 c2 c3 c4 c5 c6 c7 y0 y1 y2 y3 y4 y5 y6 y7 y8 r0 r1 r2 r3 r4 r5 r6 r7 s0 s1 s2 s3 s4 s5 s6 s7 s8
    obtain ⟨⟨r0, r1, r2, r3, r4, r5, r6, r7⟩, -, -⟩ := obox8f (rb_set8 (a := .string x1) (b := .int .i64 0) (c := .int .i64 N2) (d := .int .i64 0) (e := .int .i64 0) (f := .bool false) (i := .int .u8 0) (j := .bool nb) HR.out)
    refine bodyPost_ret (v := .tuple #[.agg #[.string x1, .int .i64 0, .int .i64 N2, .int .i64 0, .int .i64 0, .bool false, .int .u8 0, .bool nb], .bool false]) (by simp [results, Tryz.results44, go_sem, r0, r1, r2, r3, r4, r5, r6, r7]) rfl ?_
    exact RetRC.no ⟨x1, 0, N2, 0, 0, false, 0, nb⟩ HNG.out HZ1.out (rb_below8 HB.out hRB)
end Go.Proofs.YtfgnollclmimnaaGreatDoor
