
/- The walk of the law FlatTurnedToItselfStays. -/
import Derived.Test.YtnnenokgjkpkiaaGreatDoorZA
import Derived.Test.YtnnenokgjkpkiaaGreatDoorZ1
import Derived.Test.YtnnenokgjkpkiaaGreatDoorUN
namespace Go.Proofs.YtnnenokgjkpkiaaGreatDoor
open Go.RowKit Limb Nmb Work
set_option linter.unusedVariables false
set_option linter.unusedSimpArgs false

theorem turnR_no {f : Fmt} {rs : List RowP} (hc : checkF f = 0) (h : askF f rs ≠ 0) : turnR f f rs = ([], 0, askF f rs) := by
  have e : turnE f f rs = askF f rs := by
    unfold turnE
    rw [if_neg (fun e => e hc), if_neg (fun e => e hc), if_pos h]
  unfold turnR
  rw [e, if_pos h]
set_option maxHeartbeats 1000000 in
set_option maxRecDepth 100000 in
theorem areright_c (f : Fmt) (A : Option Addr) (cp : Nat) (FA : Nat → Option Addr) (FC : Nat → Nat) (L : Option Addr) (LC : Nat) (rs : List RowP) (RA : Nat → Option Addr) (RC : Nat → Nat) (w : World) (ho : Kinds w A f.kinds FA FC) (hl : RowsM w L rs RA RC) (hcp : f.kinds.length ≤ cp) (hm : 0 ≤ f.mark ∧ f.mark ≤ 255) (hq : 0 ≤ f.quote ∧ f.quote ≤ 255) (ht : Tab w) :
    Calls Tryz.prog 21 #[fmtG f A cp, .slice L rs.length LC] w (RetB (decide (askF f rs = 0)) w) := by
  have HAS := Lib.hid (fun w h h2 ht => askrows_c f A cp FA FC L LC rs RA RC w h h2 hcp hm hq ht)
  have HK := Lib.hid ho; have HL := Lib.hid hl; have HT := Lib.hid ht
  obtain ⟨AK, hAK⟩ : ∃ x, askF f rs = x := ⟨_, rfl⟩
  rw [hAK] at HAS ⊢
  unfold RetI at HAS
  clear hAK ho hl ht
  obtain ⟨m, q, ks, hd, tl, ct, sm⟩ := f
  unfold fmtG at HAS ⊢
  simp only at HAS HK hcp ⊢
  obtain ⟨n, hn⟩ : ∃ x, ks.length = x := ⟨_, rfl⟩
  rw [hn] at HAS hcp ⊢
  clear hn
  have hF0 := heap_new w (.cells #[.int .u8 m, .int .u8 q, .slice A n cp, .string hd, .string tl, .string ct, .string sm] 24) rfl
  have HB0 : Hid (Below w.heap.size w (w.alloc (.cells #[.int .u8 m, .int .u8 q, .slice A n cp, .string hd, .string tl, .string ct, .string sm] 24))) := Lib.hid (by go_grown)
  go_enter Tryz.func21, Tryz.ntmps21
  obtain ⟨⟨f0, f1, f2, f3, f4, f5, f6⟩, f7⟩ := obox7 hF0
  go_wp2_with fail
  refine (HAS.out _ (HK.out.below HB0.out) (HL.out.below HB0.out) (HT.out.below HB0.out)).mono ?_
  rintro _ w2 ⟨rfl, hb2⟩
  have hB2 := below_then hb2 HB0.out HB0.out.size
  by_cases h : AK = 0
  · subst h
    go_wp2
    go_ret
    exact ⟨rfl, hB2⟩
  · have h2 : (AK == 0) = false := beq_eq_false_iff_ne.2 h
    have HE := Lib.hid (decide_eq_false h)
    clear h
    go_wp2
    go_ret
    exact ⟨by rw [HE.out]; rfl, hB2⟩

set_option maxHeartbeats 4000000 in
set_option maxRecDepth 100000 in
theorem law_stays (f : Fmt) (A : Option Addr) (cp : Nat) (FA : Nat → Option Addr) (FC : Nat → Nat) (L : Option Addr) (LC : Nat) (rs : List RowP) (RA : Nat → Option Addr) (RC : Nat → Nat) (m0 : Int) (w : World) (ho : Kinds w A f.kinds FA FC) (hl : RowsM w L rs RA RC) (hcp : f.kinds.length ≤ cp) (hm : 0 ≤ f.mark ∧ f.mark ≤ 255) (hq : 0 ≤ f.quote ∧ f.quote ≤ 255) (ht : Tab w) (hm0 : w.cell? ⟨0, 0, none⟩ = some (.int .i64 m0)) :
    Calls Tryz.prog 5 #[fmtG f A cp, .slice L rs.length LC] w fun e w' => e = .returned (.bool true) ∧ Below w.heap.size w w' := by
  have HFI := Lib.hid (fun w h => fits_c f f A A cp cp FA FA FC FC w h h hcp hcp hm hq hm hq)
  have HTU := Lib.hid (fun w h h2 ht => Turned_c f f A A cp cp FA FA FC FC L LC rs RA RC w h h h2 hcp hcp hm hq hm hq ht)
  have HAR := Lib.hid (fun w h h2 ht => areright_c f A cp FA FC L LC rs RA RC w h h2 hcp hm hq ht)
  have HSA := Lib.hid (fun X c RA' RC' w h h2 => same_c X L c LC rs RA' RA RC' RC w h h2)
  have HK := Lib.hid ho; have HRM := Lib.hid hl; have HT := Lib.hid ht; have HM := Lib.hid hm0
  have HS1 := Lib.hid (fun h => turnR_self (f := f) (rs := rs) h)
  have HS2 := Lib.hid (fun hc h => turnR_no (f := f) (rs := rs) hc h)
  rw [fitsR_self] at HFI
  obtain ⟨CF, hCF⟩ : ∃ x, checkF f = x := ⟨_, rfl⟩
  obtain ⟨AK, hAK⟩ : ∃ x, askF f rs = x := ⟨_, rfl⟩
  obtain ⟨TR, hTR⟩ : ∃ x, turnR f f rs = x := ⟨_, rfl⟩
  rw [hCF] at HFI HS2
  rw [hAK] at HAR HS1 HS2
  rw [hTR] at HTU HS1 HS2
  unfold RetFits at HFI
  unfold RetTd at HTU
  unfold RetB at HAR HSA
  clear hCF hAK hTR ho hl ht hm0
  obtain ⟨m, q, ks, hd, tl, ct, sm⟩ := f
  unfold fmtG at HFI HTU HAR ⊢
  simp only at HFI HTU HAR HK hcp ⊢
  obtain ⟨nk, hnk⟩ : ∃ x, ks.length = x := ⟨_, rfl⟩
  obtain ⟨nr, hnr⟩ : ∃ x, rs.length = x := ⟨_, rfl⟩
  have HNR := Lib.hid hnr
  rw [hnk] at HFI HTU HAR hcp ⊢
  rw [hnr] at HTU HAR HSA ⊢
  clear hnk hnr
  have HP := Lib.hid (heap_new w (.cells #[.int .u8 m, .int .u8 q, .slice A nk cp, .string hd, .string tl, .string ct, .string sm] 24) rfl)
  have HB1 : Hid (Below w.heap.size w (w.alloc (.cells #[.int .u8 m, .int .u8 q, .slice A nk cp, .string hd, .string tl, .string ct, .string sm] 24))) := Lib.hid (by go_grown)
  go_enter Tryz.func5, Tryz.ntmps5
  go_upto_region 1 with fail
  generalize w.alloc (.cells #[.int .u8 m, .int .u8 q, .slice A nk cp, .string hd, .string tl, .string ct, .string sm] 24) = w1 at HP HB1 ⊢
  obtain ⟨⟨f0, f1, f2, f3, f4, f5, f6⟩, f7⟩ := obox7 HP.out
  go_wp2_with fail
  refine (HFI.out _ (HK.out.below HB1.out)).mono ?_
  rintro _ w2 ⟨X2, c2, rfl, -, hb2⟩
  have HP2 := Lib.hid (heap_below HP.out hb2); have HB2 := Lib.hid (below_then hb2 HB1.out HB1.out.size)
  have HM2 := Lib.hid ((HB2.out.cell (p := ⟨0, 0, none⟩) (World.block_lt_of_cell? _ _ HM.out)).trans HM.out)
  clear f0 f1 f2 f3 f4 f5 f6 f7 HP HB1 hb2
  by_cases hc : CF = 0
  case neg =>
    have hc2 : (CF != 0) = true := by simpa using hc
    clear hc
    go_wp2_with fail
    refine (awake6_c m0 w2 HM2.out).mono ?_
    rintro _ w3 ⟨rfl, hb3⟩
    have hB3 := below_then hb3 HB2.out HB2.out.size
    go_wp2
    go_ret
    exact ⟨rfl, hB3⟩
  subst hc
  go_wp2_with fail
  refine (awake6_c m0 w2 HM2.out).mono ?_
  rintro _ w3 ⟨rfl, hb3⟩
  have HP3 := Lib.hid (heap_below HP2.out hb3); have HB3 := Lib.hid (below_then hb3 HB2.out HB2.out.size)
  clear HP2 HB2 HM2 hb3
  obtain ⟨⟨f0, f1, f2, f3, f4, f5, f6⟩, f7⟩ := obox7 HP3.out
  go_wp2_with fail
  refine (HTU.out _ (HK.out.below HB3.out) (HRM.out.below HB3.out) (HT.out.below HB3.out)).mono ?_
  rintro _ w4 ⟨X, c, rfl, hrm, hb4⟩
  have HRX := Lib.hid hrm
  have HP4 := Lib.hid (heap_below HP3.out hb4); have HB4 := Lib.hid (below_then hb4 HB3.out HB3.out.size)
  clear f0 f1 f2 f3 f4 f5 f6 f7 HP3 HB3 hrm hb4
  by_cases ha : AK = 0
  · have hE := HS1.out ha
    subst hE
    simp only at HRX ⊢
    obtain ⟨RA4, RC4, hrm⟩ := HRX.out
    have HRX4 := Lib.hid hrm
    rw [HNR.out]
    clear hrm HRX
    go_wp2_with fail
    refine (HSA.out X c RA4 RC4 _ HRX4.out (HRM.out.below HB4.out)).mono ?_
    rintro _ w5 ⟨rfl, hb5⟩
    have hB5 := below_then hb5 HB4.out HB4.out.size
    go_wp2
    go_ret
    exact ⟨rfl, hB5⟩
  · have hE := HS2.out trivial ha
    subst hE
    simp only
    have h1 : (AK == 0) = false := beq_eq_false_iff_ne.2 ha
    have h2 : (AK != 0) = true := by simpa using ha
    have h3 : decide (AK = 0) = false := decide_eq_false ha
    rw [h3] at HAR
    obtain ⟨⟨f0, f1, f2, f3, f4, f5, f6⟩, f7⟩ := obox7 HP4.out
    clear ha
    go_wp2_with fail
    refine (HAR.out _ (HK.out.below HB4.out) (HRM.out.below HB4.out) (HT.out.below HB4.out)).mono ?_
    rintro _ w5 ⟨rfl, hb5⟩
    have hB5 := below_then hb5 HB4.out HB4.out.size
    go_wp2
    go_ret
    exact ⟨rfl, hB5⟩
/-- The law at any world in which the variable holds a number. -/
theorem law_stays_i (f : Fmt) (A : Option Addr) (cp : Nat) (FA : Nat → Option Addr) (FC : Nat → Nat) (L : Option Addr) (LC : Nat) (rs : List RowP) (RA : Nat → Option Addr) (RC : Nat → Nat) (w : World) (ho : Kinds w A f.kinds FA FC) (hl : RowsM w L rs RA RC) (hcp : f.kinds.length ≤ cp) (hm : 0 ≤ f.mark ∧ f.mark ≤ 255) (hq : 0 ≤ f.quote ∧ f.quote ≤ 255) (ht : Tab w) (hm0 : ∃ m, w.cell? ⟨0, 0, none⟩ = some (.int .i64 m)) :
    Calls Tryz.prog 5 #[fmtG f A cp, .slice L rs.length LC] w fun e w' => e = .returned (.bool true) ∧ Below w.heap.size w w' := by
  obtain ⟨m0, h⟩ := hm0
  exact law_stays f A cp FA FC L LC rs RA RC m0 w ho hl hcp hm hq ht h
end Go.Proofs.YtnnenokgjkpkiaaGreatDoor
