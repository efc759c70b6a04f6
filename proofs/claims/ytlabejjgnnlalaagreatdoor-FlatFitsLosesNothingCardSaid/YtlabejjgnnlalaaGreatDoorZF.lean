
/- The walk of the law FlatFitsLosesNothing. (Draft, not built: wants a seat that holds row 26.) -/
import Derived.Test.YtlabejjgnnlalaaGreatDoorZB
import Derived.Test.YtlabejjgnnlalaaGreatDoorZE
namespace Go.Proofs.YtlabejjgnnlalaaGreatDoor
open Go.RowKit Limb Nmb Work
set_option linter.unusedVariables false
set_option linter.unusedSimpArgs false
theorem fitsR_cases (f g : Fmt) : (∃ e, e ≠ 0 ∧ fitsR f g = ([], e)) ∨ (checkF g = 0 ∧ fitsR f g = (fitsL f g, 0)) := by
  unfold fitsR
  by_cases h : fitsE f g = 0
  · right
    rw [if_neg (fun e => e h)]
    refine ⟨?_, rfl⟩
    unfold fitsE at h
    split at h
    · rename_i h2; exact absurd h h2
    · exact h
  · left
    rw [if_pos h]
    exact ⟨_, h, rfl⟩
set_option maxHeartbeats 4000000 in
set_option maxRecDepth 100000 in
theorem law_fits (f g : Fmt) (A B : Option Addr) (cp cq : Nat) (FA GA : Nat → Option Addr) (FC GC : Nat → Nat) (L : Option Addr) (LC : Nat) (rs : List RowP) (RA : Nat → Option Addr) (RC : Nat → Nat) (m0 : Int) (w : World) (ho : Kinds w A f.kinds FA FC) (hg : Kinds w B g.kinds GA GC) (hl : RowsM w L rs RA RC) (hcp : f.kinds.length ≤ cp) (hcq : g.kinds.length ≤ cq) (hm : 0 ≤ f.mark ∧ f.mark ≤ 255) (hq : 0 ≤ f.quote ∧ f.quote ≤ 255) (hm2 : 0 ≤ g.mark ∧ g.mark ≤ 255) (hq2 : 0 ≤ g.quote ∧ g.quote ≤ 255) (ht : Tab w) (hm0 : w.cell? ⟨2, 0, none⟩ = some (.int .i64 m0)) :
    Calls Tryz.prog 3 #[fmtG f A cp, fmtG g B cq, .slice L rs.length LC] w fun e w' => e = .returned (.bool true) ∧ Below w.heap.size w w' := by
  have HFI := Lib.hid (fun w h h2 => fits_c f g A B cp cq FA GA FC GC w h h2 hcp hcq hm hq hm2 hq2)
  have HTU := Lib.hid (fun w h h2 h3 ht => Turned_c f g A B cp cq FA GA FC GC L LC rs RA RC w h h2 h3 hcp hcq hm hq hm2 hq2 ht)
  have HAR := Lib.hid (fun w h h2 ht => areright_c f A cp FA FC L LC rs RA RC w h h2 hcp hm hq ht)
  have HK := Lib.hid ho; have HKG := Lib.hid hg; have HRM := Lib.hid hl; have HT := Lib.hid ht; have HM := Lib.hid hm0
  have HS1 := Lib.hid (fun hc h ha => turn_fit (f := f) (g := g) (rs := rs) hc hm hm2 h ha)
  have HFC := Lib.hid (fitsR_cases f g)
  obtain ⟨LS, hLS⟩ : ∃ x, fitsL f g = x := ⟨_, rfl⟩
  obtain ⟨FR, hFR⟩ : ∃ x, fitsR f g = x := ⟨_, rfl⟩
  obtain ⟨CG, hCG⟩ : ∃ x, checkF g = x := ⟨_, rfl⟩
  obtain ⟨AK, hAK⟩ : ∃ x, askF f rs = x := ⟨_, rfl⟩
  obtain ⟨TR, hTR⟩ : ∃ x, turnR f g rs = x := ⟨_, rfl⟩
  rw [hFR] at HFI
  rw [hFR, hCG, hLS] at HFC
  rw [hAK] at HAR
  rw [hCG, hLS, hAK, hTR] at HS1
  rw [hTR] at HTU
  unfold RetFits at HFI
  unfold RetTd at HTU
  unfold RetB at HAR
  clear hFR hCG hLS hAK hTR ho hg hl ht hm0
  obtain ⟨m, q, ks, hd, tl, ct, sm⟩ := f
  obtain ⟨mg, qg, kg, hdg, tlg, ctg, smg⟩ := g
  unfold fmtG at HFI HTU HAR ⊢
  simp only at HFI HTU HAR HK HKG hcp hcq ⊢
  obtain ⟨nk, hnk⟩ : ∃ x, ks.length = x := ⟨_, rfl⟩
  obtain ⟨ng, hng⟩ : ∃ x, kg.length = x := ⟨_, rfl⟩
  obtain ⟨nr, hnr⟩ : ∃ x, rs.length = x := ⟨_, rfl⟩
  have HNR := Lib.hid hnr
  rw [hnk, hng] at HFI HTU
  rw [hnk] at HAR hcp ⊢
  rw [hng] at hcq ⊢
  rw [hnr] at HTU HAR HS1 ⊢
  clear hnk hng hnr
  have HP := Lib.hid (heap_old (heap_new w (.cells #[.int .u8 m, .int .u8 q, .slice A nk cp, .string hd, .string tl, .string ct, .string sm] 24) rfl) (.cells #[.int .u8 mg, .int .u8 qg, .slice B ng cq, .string hdg, .string tlg, .string ctg, .string smg] 24))
  have HQ := Lib.hid (heap_new (w.alloc (.cells #[.int .u8 m, .int .u8 q, .slice A nk cp, .string hd, .string tl, .string ct, .string sm] 24)) (.cells #[.int .u8 mg, .int .u8 qg, .slice B ng cq, .string hdg, .string tlg, .string ctg, .string smg] 24) (g := w.heap.size + 1) (by simp))
  have HB1 : Hid (Below w.heap.size w ((w.alloc (.cells #[.int .u8 m, .int .u8 q, .slice A nk cp, .string hd, .string tl, .string ct, .string sm] 24)).alloc (.cells #[.int .u8 mg, .int .u8 qg, .slice B ng cq, .string hdg, .string tlg, .string ctg, .string smg] 24))) := Lib.hid (by go_grown)
  go_enter Tryz.func3, Tryz.ntmps3
  go_upto_region 1 with fail
  generalize (w.alloc (.cells #[.int .u8 m, .int .u8 q, .slice A nk cp, .string hd, .string tl, .string ct, .string sm] 24)).alloc (.cells #[.int .u8 mg, .int .u8 qg, .slice B ng cq, .string hdg, .string tlg, .string ctg, .string smg] 24) = w1 at HP HQ HB1 ⊢
  obtain ⟨⟨f0, f1, f2, f3, f4, f5, f6⟩, f7⟩ := obox7 HP.out
  obtain ⟨⟨x0, x1, x2, x3, x4, x5, x6⟩, x7⟩ := obox7 HQ.out
  go_wp2_with fail
  refine (HFI.out _ (HK.out.below HB1.out) (HKG.out.below HB1.out)).mono ?_
  rintro _ w2 ⟨X2, c2, rfl, -, hb2⟩
  have HP2 := Lib.hid (heap_below HP.out hb2); have HQ2 := Lib.hid (heap_below HQ.out hb2); have HB2 := Lib.hid (below_then hb2 HB1.out HB1.out.size)
  have HM2 := Lib.hid ((HB2.out.cell (p := ⟨2, 0, none⟩) (World.block_lt_of_cell? _ _ HM.out)).trans HM.out)
  clear f0 f1 f2 f3 f4 f5 f6 f7 x0 x1 x2 x3 x4 x5 x6 x7 HP HQ HB1 hb2
  rcases HFC.out with ⟨e, he, rfl⟩ | ⟨hcg, rfl⟩
  · have hc2 : (e != 0) = true := by simpa using he
    clear he
    simp only [List.length_nil]
    go_wp2_with fail
    refine (awake6_c m0 w2 HM2.out).mono ?_
    rintro _ w3 ⟨rfl, hb3⟩
    have hB3 := below_then hb3 HB2.out HB2.out.size
    go_wp2
    go_ret
    exact ⟨rfl, hB3⟩
  simp only
  by_cases hls : LS = []
  case neg =>
    obtain ⟨nl, hnl⟩ : ∃ x, LS.length = x := ⟨_, rfl⟩
    have hpos : (0 : Int) < (nl : Int) := by have h := List.length_pos_iff.2 hls; omega
    rw [hnl]
    clear hls hnl hcg HS1
    go_wp2_with fail
    refine (awake6_c m0 w2 HM2.out).mono ?_
    rintro _ w3 ⟨rfl, hb3⟩
    have hB3 := below_then hb3 HB2.out HB2.out.size
    go_wp2
    go_ret
    exact ⟨rfl, hB3⟩
  have HS2 := Lib.hid (HS1.out hcg hls)
  subst hls
  simp only [List.length_nil]
  clear hcg HS1 HFC
  obtain ⟨⟨f0, f1, f2, f3, f4, f5, f6⟩, f7⟩ := obox7 HP2.out
  go_wp2_with fail
  refine (HAR.out _ (HK.out.below HB2.out) (HRM.out.below HB2.out) (HT.out.below HB2.out)).mono ?_
  rintro _ w3 ⟨rfl, hb3⟩
  have HP3 := Lib.hid (heap_below HP2.out hb3); have HQ3 := Lib.hid (heap_below HQ2.out hb3); have HB3 := Lib.hid (below_then hb3 HB2.out HB2.out.size)
  have HM3 := Lib.hid ((HB3.out.cell (p := ⟨2, 0, none⟩) (World.block_lt_of_cell? _ _ HM.out)).trans HM.out)
  clear f0 f1 f2 f3 f4 f5 f6 f7 HP2 HQ2 HB2 HM2 hb3
  by_cases ha : AK = 0
  case neg =>
    rw [decide_eq_false ha]
    clear ha HS2
    go_wp2_with fail
    refine (awake6_c m0 w3 HM3.out).mono ?_
    rintro _ w4 ⟨rfl, hb4⟩
    have hB4 := below_then hb4 HB3.out HB3.out.size
    go_wp2
    go_ret
    exact ⟨rfl, hB4⟩
  obtain ⟨rs', htr, hlen⟩ := HS2.out ha
  subst htr
  simp only at HTU
  rw [hlen] at HTU
  rw [decide_eq_true ha]
  clear ha HS2 hlen
  obtain ⟨⟨f0, f1, f2, f3, f4, f5, f6⟩, f7⟩ := obox7 HP3.out
  obtain ⟨⟨x0, x1, x2, x3, x4, x5, x6⟩, x7⟩ := obox7 HQ3.out
  go_wp2_with fail
  refine (HTU.out _ (HK.out.below HB3.out) (HKG.out.below HB3.out) (HRM.out.below HB3.out) (HT.out.below HB3.out)).mono ?_
  rintro _ w4 ⟨X, c, rfl, -, hb4⟩
  have HB4 := Lib.hid (below_then hb4 HB3.out HB3.out.size)
  have HM4 := Lib.hid ((HB4.out.cell (p := ⟨2, 0, none⟩) (World.block_lt_of_cell? _ _ HM.out)).trans HM.out)
  clear f0 f1 f2 f3 f4 f5 f6 f7 x0 x1 x2 x3 x4 x5 x6 x7 HP3 HQ3 HB3 HM3 hb4
  go_wp2_with fail
  refine (awake6_c m0 w4 HM4.out).mono ?_
  rintro _ w5 ⟨rfl, hb5⟩
  have hB5 := below_then hb5 HB4.out HB4.out.size
  go_wp2
  go_ret
  exact ⟨rfl, hB5⟩
theorem law_fits_i (f g : Fmt) (A B : Option Addr) (cp cq : Nat) (FA GA : Nat → Option Addr) (FC GC : Nat → Nat) (L : Option Addr) (LC : Nat) (rs : List RowP) (RA : Nat → Option Addr) (RC : Nat → Nat) (w : World) (ho : Kinds w A f.kinds FA FC) (hg : Kinds w B g.kinds GA GC) (hl : RowsM w L rs RA RC) (hcp : f.kinds.length ≤ cp) (hcq : g.kinds.length ≤ cq) (hm : 0 ≤ f.mark ∧ f.mark ≤ 255) (hq : 0 ≤ f.quote ∧ f.quote ≤ 255) (hm2 : 0 ≤ g.mark ∧ g.mark ≤ 255) (hq2 : 0 ≤ g.quote ∧ g.quote ≤ 255) (ht : Tab w) (hm0 : ∃ m, w.cell? ⟨2, 0, none⟩ = some (.int .i64 m)) :
    Calls Tryz.prog 3 #[fmtG f A cp, fmtG g B cq, .slice L rs.length LC] w fun e w' => e = .returned (.bool true) ∧ Below w.heap.size w w' := by
  obtain ⟨m0, h⟩ := hm0
  exact law_fits f g A B cp cq FA GA FC GC L LC rs RA RC m0 w ho hg hl hcp hcq hm hq hm2 hq2 ht h
end Go.Proofs.YtlabejjgnnlalaaGreatDoor
