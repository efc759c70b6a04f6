
/- The walk of the law FlatClosedIsRight. -/
import Derived.Test.YtlabejjgnnlalaaGreatDoorC9
import Derived.Test.YtlabejjgnnlalaaGreatDoorZ1
import Derived.Test.YtlabejjgnnlalaaGreatDoorUN
namespace Go.Proofs.YtlabejjgnnlalaaGreatDoor
open Go.RowKit Limb Nmb Work
set_option linter.unusedVariables false
set_option linter.unusedSimpArgs false
set_option maxHeartbeats 4000000 in
set_option maxRecDepth 100000 in
theorem law_closed (f : Fmt) (A : Option Addr) (cp : Nat) (FA : Nat → Option Addr) (FC : Nat → Nat) (L : Option Addr) (LC : Nat) (rs : List RowP) (RA : Nat → Option Addr) (RC : Nat → Nat) (m0 : Int) (w : World) (ho : Kinds w A f.kinds FA FC) (hl : RowsM w L rs RA RC) (hLC : rs.length ≤ LC) (hcp : f.kinds.length ≤ cp) (hm : 0 ≤ f.mark ∧ f.mark ≤ 255) (hq : 0 ≤ f.quote ∧ f.quote ≤ 255) (ht : Tab w) (hm0 : w.cell? ⟨2, 0, none⟩ = some (.int .i64 m0)) :
    Calls Tryz.prog 5 #[fmtG f A cp, .slice L rs.length LC] w fun e w' => e = .returned (.bool true) ∧ Below w.heap.size w w' := by
  have HCL := Lib.hid (fun w h h2 ht => Closed_c f A cp FA FC L LC rs RA RC w h h2 hLC hcp hm hq ht)
  have HC2 := Lib.hid (fun x X c RA' RC' w h h2 (h3 : x.length ≤ c) ht => Closed_c f A cp FA FC X c x RA' RC' w h h2 h3 hcp hm hq ht)
  have HOR := Lib.hid (fun x X c RA' RC' w h h2 (h3 : x.length ≤ c) (h4 : c ≤ 9223372036854775807) ht => CheckOrder_c f A cp FA FC X c x RA' RC' w h h2 h3 h4 hcp hm hq ht)
  have HTO := Lib.hid (fun x X c RA' RC' w h h2 (h3 : x.length ≤ c) (h4 : c ≤ 9223372036854775807) (h5 : x.length ≤ 2000) ht => CheckTotals_c f A cp FA FC X c x RA' RC' w h h2 h3 h4 h5 hcp hm hq ht)
  have HSA := Lib.hid (fun x X Y c d RA' RC' RB RD w h h2 => same_c X Y c d x RA' RB RC' RD w h h2)
  have HK := Lib.hid ho; have HRM := Lib.hid hl; have HT := Lib.hid ht; have HM := Lib.hid hm0
  have HP1 := Lib.hid (show (∃ e, e ≠ 0 ∧ closedR f rs = ([], e)) ∨ (∃ x, closedR f rs = (x, 0) ∧ closedR f x = (x, 0) ∧ x.length ≤ 2000 ∧ ((ordF f x).2 = 0 → totF f x = (0, 0))) by
    by_cases h : closedE f rs = 0
    · refine .inr ⟨closedL f rs, ?_, closed_again h, ?_, closed_tot h⟩
      · unfold closedR; exact if_neg (fun e => e h)
      · rw [closed_len]; exact (closedE_out h).many
    · exact .inl ⟨closedE f rs, h, if_pos h⟩)
  obtain ⟨CR, hCR⟩ : ∃ x, closedR f rs = x := ⟨_, rfl⟩
  rw [hCR] at HCL HP1
  unfold RetCD at HCL HC2
  unfold RetNF at HOR HTO
  unfold RetB at HSA
  clear hCR ho hl ht hm0
  obtain ⟨CRF, hCRF⟩ : ∃ x, closedR f = x := ⟨_, rfl⟩
  obtain ⟨ORF, hORF⟩ : ∃ x, ordF f = x := ⟨_, rfl⟩
  obtain ⟨TOF, hTOF⟩ : ∃ x, totF f = x := ⟨_, rfl⟩
  rw [hCRF] at HC2 HP1
  rw [hORF] at HOR HP1
  rw [hTOF] at HTO HP1
  clear hCRF hORF hTOF
  obtain ⟨m, q, ks, hd, tl, ct, sm⟩ := f
  unfold fmtG at HCL HC2 HOR HTO ⊢
  simp only at HCL HC2 HOR HTO HK hcp ⊢
  obtain ⟨nk, hnk⟩ : ∃ x, ks.length = x := ⟨_, rfl⟩
  obtain ⟨nr, hnr⟩ : ∃ x, rs.length = x := ⟨_, rfl⟩
  rw [hnk] at HCL HC2 HOR HTO hcp ⊢
  rw [hnr] at HCL ⊢
  clear hnk hnr
  have HP := Lib.hid (heap_new w (.cells #[.int .u8 m, .int .u8 q, .slice A nk cp, .string hd, .string tl, .string ct, .string sm] 24) rfl)
  have HB1 : Hid (Below w.heap.size w (w.alloc (.cells #[.int .u8 m, .int .u8 q, .slice A nk cp, .string hd, .string tl, .string ct, .string sm] 24))) := Lib.hid (by go_grown)
  go_enter Tryz.func5, Tryz.ntmps5
  go_upto_region 1 with fail
  generalize w.alloc (.cells #[.int .u8 m, .int .u8 q, .slice A nk cp, .string hd, .string tl, .string ct, .string sm] 24) = w1 at HP HB1 ⊢
  have HW := Lib.hid (show ∀ wx, Below w1.heap.size w1 wx → wx.heap[w.heap.size]? = some (.cells #[.int .u8 m, .int .u8 q, .slice A nk cp, .string hd, .string tl, .string ct, .string sm] 24 (0, 0)) ∧ Kinds wx A ks FA FC ∧ RowsM wx L rs RA RC ∧ Tab wx ∧ wx.cell? ⟨2, 0, none⟩ = some (.int .i64 m0) ∧ Below w.heap.size w wx from fun wx h => by
    have h2 := below_then h HB1.out HB1.out.size
    exact ⟨heap_below HP.out h, HK.out.below h2, HRM.out.below h2, HT.out.below h2, (h2.cell (p := ⟨2, 0, none⟩) (World.block_lt_of_cell? _ _ HM.out)).trans HM.out, h2⟩)
  clear HP HB1 HK HRM HT HM
  obtain ⟨q1, qk, ql, qt, -, -⟩ := HW.out _ (Below.refl _ _)
  obtain ⟨⟨f0, f1, f2, f3, f4, f5, f6⟩, -⟩ := obox7 q1
  go_wp2_with fail
  refine (HCL.out _ qk ql qt).mono ?_
  rintro _ w2 ⟨X, c, rfl, hrx, hcx, hb2⟩
  have HRX := Lib.hid hrx; have HCX := Lib.hid hcx; have HB2 := Lib.hid hb2
  clear q1 qk ql qt f0 f1 f2 f3 f4 f5 f6 hrx hcx hb2 HCL
  rcases HP1.out with ⟨e, he, rfl⟩ | ⟨x, rfl, hx1, hx2, hx3⟩
  · have hc2 : (e != 0) = true := by simpa using he
    obtain ⟨-, -, -, -, qm, -⟩ := HW.out _ HB2.out
    have QM := Lib.hid qm
    simp only [List.length_nil]
    clear he qm
    go_wp2_with fail
    refine (awake6_c m0 w2 QM.out).mono ?_
    rintro _ w3 ⟨rfl, hb3⟩
    have hB3 := (HW.out _ (below_then hb3 HB2.out HB2.out.size)).2.2.2.2.2
    go_wp2
    go_ret
    exact ⟨rfl, hB3⟩
  simp only at HRX HCX ⊢
  obtain ⟨RX, RY, hrm⟩ := HRX.out
  have HRM2 := Lib.hid hrm
  have HCX1 := HCX.out.1
  have HCX2 := HCX.out.2
  have HC3 := Lib.hid (fun w h h2 ht => HC2.out x X c RX RY w h h2 HCX1 ht)
  have HO3 := Lib.hid (fun w h h2 ht => HOR.out x X c RX RY w h h2 HCX1 HCX2 ht)
  have HT3 := Lib.hid (fun w h h2 ht => HTO.out x X c RX RY w h h2 HCX1 HCX2 hx2 ht)
  have HS3 := Lib.hid (fun Y d RB RD w h h2 => HSA.out x X Y c d RX RY RB RD w h h2)
  rw [hx1] at HC3
  simp only at HC3
  obtain ⟨OE, hOE⟩ : ∃ z, ORF x = z := ⟨_, rfl⟩
  obtain ⟨TE, hTE⟩ : ∃ z, TOF x = z := ⟨_, rfl⟩
  rw [hOE] at HO3 hx3
  rw [hTE] at HT3 hx3
  have HX3 := Lib.hid hx3
  obtain ⟨nx, hnx⟩ : ∃ z, x.length = z := ⟨_, rfl⟩
  rw [hnx] at HC3 HO3 HT3 HS3 ⊢
  clear hrm hx1 hx2 hx3 hOE hTE hnx HC2 HOR HTO HSA HRX HCX HCX1 HCX2 HP1
  obtain ⟨q1, qk, -, qt, -, -⟩ := HW.out _ HB2.out
  obtain ⟨⟨f0, f1, f2, f3, f4, f5, f6⟩, -⟩ := obox7 q1
  go_wp2_with fail
  refine (HC3.out _ qk HRM2.out qt).mono ?_
  rintro _ w3 ⟨Y, d, rfl, hry, -, hb3⟩
  obtain ⟨RB, RD, hry⟩ := hry
  have HRY := Lib.hid hry
  have HRM3 := Lib.hid (HRM2.out.below hb3)
  have HB3 := Lib.hid (below_then hb3 HB2.out HB2.out.size)
  clear q1 qk qt f0 f1 f2 f3 f4 f5 f6 hry hb3 HB2 HRM2 HC3
  go_wp2_with fail
  refine (HS3.out Y d RB RD _ HRM3.out HRY.out).mono ?_
  rintro _ w4 ⟨rfl, hb4⟩
  have HRM4 := Lib.hid (HRM3.out.below hb4)
  have HB4 := Lib.hid (below_then hb4 HB3.out HB3.out.size)
  obtain ⟨-, -, -, -, qm, -⟩ := HW.out _ HB4.out
  have QM := Lib.hid qm
  clear hb4 HB3 HRM3 HRY HS3 qm
  go_wp2_with fail
  refine (awake6_c m0 w4 QM.out).mono ?_
  rintro _ w5 ⟨rfl, hb5⟩
  have HRM5 := Lib.hid (HRM4.out.below hb5)
  have HB5 := Lib.hid (below_then hb5 HB4.out HB4.out.size)
  clear hb5 HB4 HRM4 QM
  obtain ⟨q1, qk, -, qt, -, -⟩ := HW.out _ HB5.out
  obtain ⟨⟨f0, f1, f2, f3, f4, f5, f6⟩, -⟩ := obox7 q1
  go_wp2_with fail
  refine (HO3.out _ qk HRM5.out qt).mono ?_
  rintro _ w6 ⟨rfl, hb6⟩
  have HRM6 := Lib.hid (HRM5.out.below hb6)
  have HB6 := Lib.hid (below_then hb6 HB5.out HB5.out.size)
  clear q1 qk qt f0 f1 f2 f3 f4 f5 f6 hb6 HB5 HRM5 HO3
  obtain ⟨q1, qk, -, qt, -, qb⟩ := HW.out _ HB6.out
  obtain ⟨OI, OC⟩ := OE
  simp only at HX3 ⊢
  by_cases ho : OC = 0
  case neg =>
    have hc2 : (OC != 0) = true := by simpa using ho
    clear ho q1 qk qt
    go_wp2
    go_ret
    exact ⟨rfl, qb⟩
  have hte := HX3.out ho
  subst ho hte
  simp only at HT3
  obtain ⟨⟨f0, f1, f2, f3, f4, f5, f6⟩, -⟩ := obox7 q1
  go_wp2_with fail
  refine (HT3.out _ qk HRM6.out qt).mono ?_
  rintro _ w7 ⟨rfl, hb7⟩
  have hB7 := (HW.out _ (below_then hb7 HB6.out HB6.out.size)).2.2.2.2.2
  clear q1 qk qt f0 f1 f2 f3 f4 f5 f6
  go_wp2
  go_ret
  exact ⟨rfl, hB7⟩
theorem law_closed_i (f : Fmt) (A : Option Addr) (cp : Nat) (FA : Nat → Option Addr) (FC : Nat → Nat) (L : Option Addr) (LC : Nat) (rs : List RowP) (RA : Nat → Option Addr) (RC : Nat → Nat) (w : World) (ho : Kinds w A f.kinds FA FC) (hl : RowsM w L rs RA RC) (hLC : rs.length ≤ LC) (hcp : f.kinds.length ≤ cp) (hm : 0 ≤ f.mark ∧ f.mark ≤ 255) (hq : 0 ≤ f.quote ∧ f.quote ≤ 255) (ht : Tab w) (hm0 : ∃ m, w.cell? ⟨2, 0, none⟩ = some (.int .i64 m)) :
    Calls Tryz.prog 5 #[fmtG f A cp, .slice L rs.length LC] w fun e w' => e = .returned (.bool true) ∧ Below w.heap.size w w' := by
  obtain ⟨m0, h⟩ := hm0
  exact law_closed f A cp FA FC L LC rs RA RC m0 w ho hl hLC hcp hm hq ht h
end Go.Proofs.YtlabejjgnnlalaaGreatDoor
