/- The walk of the reference's Column. (Printed by genY2.py.) The walk of the program's Fewest. (Printed by genY5.py.) The walks of package amount: marksFault, sign, pointed, grouped. The walks of amount.grouped and amount.Text. The walk of amount.Implied. The walk of amount.Grouped. -/
import Derived.Test.YtnnenokgjkpkiaaGreatDoorY3
import Derived.Test.YtnnenokgjkpkiaaGreatDoorRH
import Derived.Deep.AppendLies
import Derived.Test.YtnnenokgjkpkiaaGreatDoorA7
import Derived.Test.YtnnenokgjkpkiaaGreatDoorShelf
import Derived.Deep.QuietTactic
import Derived.BigQuiet
import Derived.IntWalk
import Derived.Lib.Repeat
import Derived.Test.YtnnenokgjkpkiaaGreatDoorT3
import Derived.Deep.RegionHeld3
-- merged: Y4 Y5 T1 T4 T5 T6
namespace Go.Proofs.YtnnenokgjkpkiaaGreatDoor
open Go.RowKit Limb Nmb Work
set_option linter.unusedVariables false
set_option linter.unusedSimpArgs false
set_option maxHeartbeats 4000000 in
set_option maxRecDepth 100000 in
theorem rColumn6_c (f : Fmt) (A : Option Addr) (cp : Nat) (FA : Nat → Option Addr) (FC : Nat → Nat) (L : Option Addr) (LC : Nat) (rs : List RowP) (RA : Nat → Option Addr) (RC : Nat → Nat) (tag name : ByteArray) (w : World) (ho : Kinds w A f.kinds FA FC) (hl : RowsM w L rs RA RC) (hcp : f.kinds.length ≤ cp) (hm : 0 ≤ f.mark ∧ f.mark ≤ 255) (hq : 0 ≤ f.quote ∧ f.quote ≤ 255) (ht : Tab w) :
    Calls Tryz.prog 10 #[fmtG f A cp, .slice L rs.length LC, .string tag, .string name] w (RetCol (columnR f rs tag name) w) := by
  have HAR := Lib.hid (fun w h h2 ht => askrows_c f A cp FA FC L LC rs RA RC w h h2 hcp hm hq ht)
  have HKA := Lib.hid (fun w h => rkindof_c f A cp FA FC tag w h)
  have HCS := Lib.hid (kat_cases f FA FC tag)
  have HOK := Lib.hid (fun h => askF_ok (f := f) (rs := rs) h)
  have HKI := Lib.hid ho; have HLM := Lib.hid hl; have HTB := Lib.hid ht
  obtain ⟨X, hX⟩ : ∃ x, askF f rs = x := ⟨_, rfl⟩
  obtain ⟨R, hR⟩ : ∃ x, columnR f rs tag name = x := ⟨_, rfl⟩
  have HR := Lib.hid (show (if X ≠ 0 then ([], X) else if katI f tag < 0 then ([], 5) else if ixF (nameIs name) (katK f tag).fields < 0 then ([], 5) else (valsC rs tag (ixF (nameIs name) (katK f tag).fields).toNat rs.length, (0 : Int))) = R by
    rw [← hR]
    unfold columnR colAtF
    rw [hX]
    by_cases h0 : X = 0 <;> by_cases h1 : katI f tag < 0 <;> by_cases h2 : ixF (nameIs name) (katK f tag).fields < 0 <;> simp [h0, h1, h2])
  rw [hX] at HAR HOK
  rw [hR]
  unfold RetI at HAR
  have hnk := ho.1.2
  clear ho hl ht hX hR
  obtain ⟨m, q, ks, hd, tl, ct, sm⟩ := f
  unfold fmtG at HAR HKA ⊢
  simp only at HAR HKA HCS HR HKI hcp hnk ⊢
  obtain ⟨n, hn⟩ : ∃ x, ks.length = x := ⟨_, rfl⟩
  have HN := Lib.hid hn
  rw [hn] at HAR HKA hcp hnk ⊢
  clear hn
  obtain ⟨nr, hnr⟩ : ∃ x, rs.length = x := ⟨_, rfl⟩
  have HNR := Lib.hid hnr
  rw [hnr] at HAR HR ⊢
  have hnrb : nr ≤ 9223372036854775807 := by rw [← hnr]; exact HLM.out.len
  clear hnr
  have hF0 := heap_new w (.cells #[.int .u8 m, .int .u8 q, .slice A n cp, .string hd, .string tl, .string ct, .string sm] 24) rfl
  have hB0 : Below w.heap.size w (w.alloc (.cells #[.int .u8 m, .int .u8 q, .slice A n cp, .string hd, .string tl, .string ct, .string sm] 24)) := by go_grown
  obtain ⟨i0, hi⟩ : ∃ i, Tryz.prog.info? 9 = some i := ⟨_, rfl⟩
  have hz0i : i0.zero = some (.string ⟨#[]⟩) := by obtain rfl := Option.some.inj (hi.symm.trans rfl); rfl
  have hz1i : i0.size = 1 := by obtain rfl := Option.some.inj (hi.symm.trans rfl); rfl
  have hz2i : i0.bytes = 16 := by obtain rfl := Option.some.inj (hi.symm.trans rfl); rfl
  have HI0 := Lib.hid hi; have HZ0 := Lib.hid hz0i; have HZ1 := Lib.hid hz1i; have HZ2 := Lib.hid hz2i
  clear hi hz0i hz1i hz2i
  go_enter Tryz.func10, Tryz.ntmps10
  obtain ⟨⟨f0, f1, f2, f3, f4, f5, f6⟩, f7⟩ := obox7 hF0
  go_wp2_with fail
  refine (HAR.out _ (HKI.out.below hB0) (HLM.out.below hB0) (HTB.out.below hB0)).mono ?_
  rintro _ w2 ⟨rfl, hb2⟩
  have HF2 := Lib.hid (heap_below hF0 hb2)
  have HB2 := Lib.hid (below_then hb2 hB0 hB0.size)
  clear hF0 hb2 f0 f1 f2 f3 f4 f5 f6 f7 hB0
  obtain ⟨⟨f0, f1, f2, f3, f4, f5, f6⟩, f7⟩ := obox7 HF2.out
  by_cases h0 : X = 0
  case neg =>
    have HE := Lib.hid (show R = ([], X) by rw [← HR.out, if_pos h0])
    have h0a : (X != 0) = true := by simpa using h0
    clear h0
    go_wp2
    go_ret2
    exact RetCol.no HE.out HB2.out
  subst h0
  obtain ⟨-, h2000, hROK⟩ := HOK.out rfl
  have HROK := Lib.hid hROK
  rw [HNR.out] at h2000
  clear hROK
  go_wp2_with fail
  refine (HKA.out _ (HKI.out.below HB2.out)).mono ?_
  rintro _ w3 ⟨rfl, hb3⟩
  have HF3 := Lib.hid (heap_below HF2.out hb3)
  have HB3 := Lib.hid (below_then hb3 HB2.out HB2.out.size)
  clear f0 f1 f2 f3 f4 f5 f6 f7 HF2 HB2 hb3
  have hz3 := HB3.out.size
  obtain ⟨⟨f0, f1, f2, f3, f4, f5, f6⟩, f7⟩ := obox7 HF3.out
  rcases HCS.out with ⟨h1, -, -, -⟩ | ⟨k, hk, h1, h2, -, -⟩
  · have HE := Lib.hid (show R = ([], 5) by
      have h := HR.out
      rw [if_neg (fun h : (0 : Int) ≠ 0 => h rfl), if_pos (by rw [h1]; decide)] at h
      exact h.symm)
    have h1' : ixF (tagIs tag) ks = -1 := h1
    rw [h1']
    clear h1 h1'
    go_wp2
    go_ret2
    exact RetCol.no HE.out HB3.out
  have hk0 : ¬ katI ⟨m, q, ks, hd, tl, ct, sm⟩ tag < 0 := by rw [h1]; omega
  have HCO := Lib.hid ((HKI.out).2.2 k hk)
  have HR2 := Lib.hid (show (if ixF (nameIs name) (kA ks k).fields < 0 then ([], 5) else (valsC rs tag (ixF (nameIs name) (kA ks k).fields).toNat nr, (0 : Int))) = R by
    have h := HR.out
    rw [if_neg (fun h : (0 : Int) ≠ 0 => h rfl), if_neg hk0, h2] at h
    exact h)
  have HMY := Lib.hid (show ∀ j, j < nr → (rA rs j).tag = tag → (rA rs j).vals.length = (kA ks k).fields.length from fun j hj ht => by
    have g4 := (HROK.out j (by rw [HNR.out]; exact hj)).many
    rw [ht, h2] at g4
    exact g4)
  have h1' : ixF (tagIs tag) ks = (k : Int) := h1
  rw [h1']
  have hkn : k < n := by rw [← HN.out]; exact hk
  obtain ⟨kb, ko, hA, hkb, kc0, kc1, kc2, kc3⟩ := HKI.out.cells hk
  subst hA
  have HCA := Lib.hid (fun w h => rcolof_c (kA ks k) (FA k) (FC k) name w h)
  have HIX := Lib.hid (ixF_spec (nameIs name) (kA ks k).fields)
  obtain ⟨K, hK⟩ : ∃ x, kA ks k = x := ⟨_, rfl⟩
  rw [hK] at HCO HR2 HCA HIX HMY kc0 kc1 kc2 kc3
  clear h1 h1' h2 hk0 hK HR
  obtain ⟨kt, fs, km, ku⟩ := K
  unfold kindG at HCA
  simp only at HCO HR2 HCA HIX HMY kc0 kc1 kc2 kc3
  obtain ⟨KA, hKA⟩ : ∃ x, FA k = x := ⟨_, rfl⟩
  obtain ⟨KC, hKC⟩ : ∃ x, FC k = x := ⟨_, rfl⟩
  obtain ⟨nf, hnf⟩ : ∃ x, fs.length = x := ⟨_, rfl⟩
  have HNF := Lib.hid hnf
  rw [hKA, hKC] at HCO HCA kc1
  rw [hnf] at HCO HCA HMY kc1
  clear hnf hKA hKC
  have HKC := Lib.hid (show ∀ wx, Below w.heap.size w wx → wx.cell? ⟨kb, ko + k * 4, none⟩ = some (.string kt) ∧ wx.cell? ⟨kb, ko + k * 4 + 1, none⟩ = some (.slice KA nf KC) ∧ wx.cell? ⟨kb, ko + k * 4 + 2, none⟩ = some (.int .i64 km) ∧ wx.cell? ⟨kb, ko + k * 4 + 3, none⟩ = some (.string ku) from fun wx h =>
    ⟨(h.cell (p := ⟨kb, ko + k * 4, none⟩) hkb).trans kc0, (h.cell (p := ⟨kb, ko + k * 4 + 1, none⟩) hkb).trans kc1, (h.cell (p := ⟨kb, ko + k * 4 + 2, none⟩) hkb).trans kc2, (h.cell (p := ⟨kb, ko + k * 4 + 3, none⟩) hkb).trans kc3⟩)
  obtain ⟨g0, g1, g2, g3⟩ := HKC.out _ HB3.out
  clear kc0 kc1 kc2 kc3
  go_wp2_with fail
  refine (HCA.out _ (HCO.out.1.below HB3.out)).mono ?_
  rintro _ w1 ⟨rfl, hb1⟩
  have HF1 := Lib.hid (heap_below HF3.out hb1)
  have HB1 := Lib.hid (below_then hb1 HB3.out HB3.out.size)
  clear f0 f1 f2 f3 f4 f5 f6 f7 g0 g1 g2 g3 HF3 HB3 hb1 hz3
  have hz1 := HB1.out.size
  rcases HIX.out with ⟨h1, -⟩ | ⟨ic, hi, h1, -, -⟩
  · have HE := Lib.hid (show R = ([], 5) by rw [← HR2.out, if_pos (by rw [h1]; decide)])
    rw [h1]
    clear h1
    go_wp2
    go_ret2
    exact RetCol.no HE.out HB1.out
  have hin : ic < nf := by rw [← HNF.out]; exact hi
  have HE := Lib.hid (show R = (valsC rs tag ic nr, (0 : Int)) by rw [← HR2.out, if_neg (by rw [h1]; omega), h1]; rfl)
  rw [h1]
  have HIX := Lib.hid h1
  clear h1 hi
  go_wp2_with fail
  go_loopw [12, 38] (fun o i wr => ∃ (j : Nat) (OA : Option Addr) (OC on : Nat), j ≤ nr ∧ o = .slice OA on OC ∧ i = .int .i64 j ∧ Hid ((valsC rs tag ic j).length = on) ∧ Hid (wr.ownsRow w1.heap.size 9 1 (.slice OA on OC) on (ystrV (valsC rs tag ic j))) ∧ Hid (Below w1.heap.size w1 wr)) (fun _ i _ => nr - (intOf i).toNat)
  case atStart => exact ⟨0, none, 0, 0, Nat.zero_le _, rfl, rfl, Lib.hid rfl, Lib.hid (World.ownsRow_nil _ _ _ _), Lib.hid (Below.refl _ _)⟩
  case round =>
    obtain ⟨j, OA, OC, on, hj, rfl, rfl, HON, HO, HB⟩ := hrel
    have HBW := Lib.hid (below_then HB.out HB1.out hz1)
    have hzr := HB.out.size
    rcases Nat.lt_or_ge j nr with hlt | hge
    · obtain ⟨b, off, rfl, hbw, c0, c1⟩ := (HLM.out.below HBW.out).cells (j := j) (by rw [HNR.out]; exact hlt)
      have HRJ := Lib.hid ((HLM.out.below HBW.out).each j (by rw [HNR.out]; exact hlt))
      have HIJ := Lib.hid (HMY.out j hlt)
      have HSC := Lib.hid (valsC_succ (rs := rs) (tag := tag) (i := ic) (j := j) (by rw [HNR.out]; exact hlt))
      have hlen := valsC_len rs tag ic j
      rw [HON.out] at hlen
      obtain ⟨r, hr⟩ : ∃ x, rA rs j = x := ⟨_, rfl⟩
      obtain ⟨RJ, hRJ⟩ : ∃ x, RA j = x := ⟨_, rfl⟩
      obtain ⟨CJ, hCJ⟩ : ∃ x, RC j = x := ⟨_, rfl⟩
      rw [hr, hRJ, hCJ] at HRJ
      rw [hr] at c0 HIJ HSC
      rw [hr, hRJ, hCJ] at c1
      clear hr hRJ hCJ
      obtain ⟨rt, vs⟩ := r
      simp only at HIJ HSC c0 c1
      obtain ⟨nv, hnv⟩ : ∃ x, vs.length = x := ⟨_, rfl⟩
      have HNV := Lib.hid hnv
      rw [hnv] at c1 HIJ
      have hnvc : nv ≤ CJ := by rw [← hnv]; exact HRJ.out.len.1
      have hnvb := HRJ.out.len.2
      clear hnv
      obtain ⟨OL, hOL⟩ : ∃ x, valsC rs tag ic j = x := ⟨_, rfl⟩
      rw [hOL] at HO HON HSC
      clear hOL
      have hR5 := heap_new wr (.cells #[.string rt, .slice RJ nv CJ] 49) rfl
      have hb5 : Below wr.heap.size wr (wr.alloc (.cells #[.string rt, .slice RJ nv CJ] 49)) := by go_grown
      have HO5 := Lib.hid (HO.out.alloc (.cells #[.string rt, .slice RJ nv CJ] 49))
      go_upto_region 11 with fail
      obtain ⟨rn, hrn⟩ : ∃ x, wr.heap.size = x := ⟨_, rfl⟩
      rw [hrn] at hR5 ⊢
      have HB5 := Lib.hid (below_then hb5 HB.out hzr)
      have HBW5 := Lib.hid (below_then hb5 HBW.out HBW.out.size)
      generalize wr.alloc (.cells #[.string rt, .slice RJ nv CJ] 49) = w5 at hR5 hb5 HO5 HB5 HBW5 ⊢
      obtain ⟨r0, r1, -, -, r2⟩ := box2 hR5
      have HR5 := Lib.hid hR5
      have HRJ5 := Lib.hid (HRJ.out.below hb5)
      have hz5 := HB5.out.size
      have hbd := bytes_dec rt tag
      clear c0 c1 hR5 hrn hbw hb5
      by_cases ht : rt = tag
      · have HS2 := Lib.hid (show valsC rs tag ic (j + 1) = OL ++ [wd vs ic] by rw [HSC.out, if_pos ht])
        have hiv := HIJ.out ht
        have hicv : ic < nv := by omega
        rw [decide_eq_true ht] at hbd
        obtain ⟨b2, off2, rfl, hbw2, hcs⟩ := HRJ5.out.vals.cells (by show 0 < vs.length; rw [HNV.out]; omega)
        have s0 := hcs ic (by show ic < vs.length; rw [HNV.out]; exact hicv)
        simp only at s0
        obtain ⟨s, hs⟩ : ∃ x, wd vs ic = x := ⟨_, rfl⟩
        rw [hs] at s0 HS2
        have HS0 := Lib.hid s0
        have HF5 := Lib.hid (heap_below HF1.out HB5.out)
        have HCW5 := Lib.hid (HCO.out.1.below HBW5.out)
        have HSB := Lib.hid (show ∀ wx, Below w5.heap.size w5 wx → (fun w' : World => w'.cell? ⟨w.heap.size, 2, none⟩ = some (.slice (some ⟨kb, ko, none⟩) n cp) ∧ w'.cell? ⟨kb, ko + k * 4, none⟩ = some (.string kt) ∧ w'.cell? ⟨kb, ko + k * 4 + 1, none⟩ = some (.slice KA nf KC) ∧ w'.cell? ⟨kb, ko + k * 4 + 2, none⟩ = some (.int .i64 km) ∧ w'.cell? ⟨kb, ko + k * 4 + 3, none⟩ = some (.string ku) ∧ w'.cell? ⟨rn, 1, none⟩ = some (.slice (some ⟨b2, off2, none⟩) nv CJ) ∧ w'.cell? ⟨b2, off2 + ic, none⟩ = some (.string s)) wx from fun wx h => by
          obtain ⟨⟨f0, f1, f2, f3, f4, f5, f6⟩, f7⟩ := obox7 (heap_below HF5.out h)
          obtain ⟨r0, r1, -, -, r2⟩ := box2 (heap_below HR5.out h)
          obtain ⟨g0, g1, g2, g3⟩ := HKC.out _ (below_then h HBW5.out HBW5.out.size)
          exact ⟨f2, g0, g1, g2, g3, r1, (h.cell (p := ⟨b2, off2 + ic, none⟩) hbw2).trans HS0.out⟩)
        have hT : (fun w' : World => w'.cell? ⟨w.heap.size, 2, none⟩ = some (.slice (some ⟨kb, ko, none⟩) n cp) ∧ w'.cell? ⟨kb, ko + k * 4, none⟩ = some (.string kt) ∧ w'.cell? ⟨kb, ko + k * 4 + 1, none⟩ = some (.slice KA nf KC) ∧ w'.cell? ⟨kb, ko + k * 4 + 2, none⟩ = some (.int .i64 km) ∧ w'.cell? ⟨kb, ko + k * 4 + 3, none⟩ = some (.string ku) ∧ w'.cell? ⟨rn, 1, none⟩ = some (.slice (some ⟨b2, off2, none⟩) nv CJ) ∧ w'.cell? ⟨b2, off2 + ic, none⟩ = some (.string s)) w5.drew := HSB.out _ ((Below.refl _ _).drew)
        clear hs hcs ht hiv s0
        go_upto_region 12 with fail
        clear r0 r1 r2
        refine region_till 13 (fun w' : World => w'.cell? ⟨w.heap.size, 2, none⟩ = some (.slice (some ⟨kb, ko, none⟩) n cp) ∧ w'.cell? ⟨kb, ko + k * 4, none⟩ = some (.string kt) ∧ w'.cell? ⟨kb, ko + k * 4 + 1, none⟩ = some (.slice KA nf KC) ∧ w'.cell? ⟨kb, ko + k * 4 + 2, none⟩ = some (.int .i64 km) ∧ w'.cell? ⟨kb, ko + k * 4 + 3, none⟩ = some (.string ku) ∧ w'.cell? ⟨rn, 1, none⟩ = some (.slice (some ⟨b2, off2, none⟩) nv CJ) ∧ w'.cell? ⟨b2, off2 + ic, none⟩ = some (.string s)) (by kernel_rfl) ?_
        refine Till.take (i := 0) (v := ?_) rfl (by kernel_rfl) (by kernel_rfl) (by kernel_rfl) [] (by kernel_rfl) (by decide) (by kernel_rfl) (by kernel_rfl) (fun _ _ _ h => h) hT (Or.inl ⟨by rfl, ?_⟩) ?_
        rotate_left
        · (intro w' hw'; obtain ⟨u1, u2, u3, u4, u5, u6, u7⟩ := hw'; go_simp; try with_reducible rfl)
        (try simp only [Act.put, List.setIfInBounds_toArray, List.set_cons_zero, List.set_cons_succ])
        refine Till.take (i := 1) (v := ?_) rfl (by kernel_rfl) (by kernel_rfl) (by kernel_rfl) [2, 10, 11, 12] (by kernel_rfl) (by decide) (by kernel_rfl) (by kernel_rfl) (fun _ _ _ h => h) hT (Or.inl ⟨by rfl, ?_⟩) ?_
        rotate_left
        · (intro w' hw'; obtain ⟨u1, u2, u3, u4, u5, u6, u7⟩ := hw'; go_simp; try with_reducible rfl)
        (try simp only [Act.put, List.setIfInBounds_toArray, List.set_cons_zero, List.set_cons_succ])
        refine Till.take (i := 2) (v := ?_) rfl (by kernel_rfl) (by kernel_rfl) (by kernel_rfl) [10, 11, 12] (by kernel_rfl) (by decide) (by kernel_rfl) (by kernel_rfl) (fun _ _ _ h => h) hT (Or.inl ⟨by rfl, ?_⟩) ?_
        rotate_left
        · (intro w' hw'; obtain ⟨u1, u2, u3, u4, u5, u6, u7⟩ := hw'; go_simp; try with_reducible rfl)
        (try simp only [Act.put, List.setIfInBounds_toArray, List.set_cons_zero, List.set_cons_succ])
        refine Till.take (i := 3) (v := ?_) rfl (by kernel_rfl) (by kernel_rfl) (by kernel_rfl) [4, 6, 7, 9, 10, 11, 12] (by kernel_rfl) (by decide) (by kernel_rfl) (by kernel_rfl) (fun _ _ _ h => h) hT (Or.inl ⟨by rfl, ?_⟩) ?_
        rotate_left
        · (intro w' hw'; obtain ⟨u1, u2, u3, u4, u5, u6, u7⟩ := hw'; go_simp; try with_reducible rfl)
        (try simp only [Act.put, List.setIfInBounds_toArray, List.set_cons_zero, List.set_cons_succ])
        refine Till.take (i := 4) (v := ?_) rfl (by kernel_rfl) (by kernel_rfl) (by kernel_rfl) [6, 7, 9, 10, 11, 12] (by kernel_rfl) (by decide) (by kernel_rfl) (by kernel_rfl) (fun _ _ _ h => h) hT (Or.inl ⟨by rfl, ?_⟩) ?_
        rotate_left
        · (intro w' hw'; obtain ⟨u1, u2, u3, u4, u5, u6, u7⟩ := hw'; go_simp; try with_reducible rfl)
        (try simp only [Act.put, List.setIfInBounds_toArray, List.set_cons_zero, List.set_cons_succ])
        refine Till.take (i := 5) (v := ?_) rfl (by kernel_rfl) (by kernel_rfl) (by kernel_rfl) [6, 7, 9, 10, 11, 12] (by kernel_rfl) (by decide) (by kernel_rfl) (by kernel_rfl) (fun _ _ _ h => h) hT (Or.inl ⟨by rfl, ?_⟩) ?_
        rotate_left
        · (intro w' hw'; obtain ⟨u1, u2, u3, u4, u5, u6, u7⟩ := hw'; go_simp; try with_reducible rfl)
        (try simp only [Act.put, List.setIfInBounds_toArray, List.set_cons_zero, List.set_cons_succ])
        refine Till.take (i := 6) (v := ?_) rfl (by kernel_rfl) (by kernel_rfl) (by kernel_rfl) [7, 9, 10, 11, 12] (by kernel_rfl) (by decide) (by kernel_rfl) (by kernel_rfl) (fun _ _ _ h => h) hT (Or.inl ⟨by rfl, ?_⟩) ?_
        rotate_left
        · (intro w' hw'; obtain ⟨u1, u2, u3, u4, u5, u6, u7⟩ := hw'; go_simp; try with_reducible rfl)
        (try simp only [Act.put, List.setIfInBounds_toArray, List.set_cons_zero, List.set_cons_succ])
        refine Till.take (i := 7) (v := ?_) rfl (by kernel_rfl) (by kernel_rfl) (by kernel_rfl) [9, 10, 11, 12] (by kernel_rfl) (by decide) (by kernel_rfl) (by kernel_rfl) (fun _ _ _ h => h) hT (Or.inl ⟨by rfl, ?_⟩) ?_
        rotate_left
        · (intro w' hw'; obtain ⟨u1, u2, u3, u4, u5, u6, u7⟩ := hw'; go_simp; try with_reducible rfl)
        (try simp only [Act.put, List.setIfInBounds_toArray, List.set_cons_zero, List.set_cons_succ])
        refine Till.take (i := 8) (v := ?_) rfl (by kernel_rfl) (by kernel_rfl) (by kernel_rfl) [9, 10, 11, 12] (by kernel_rfl) (by decide) (by kernel_rfl) (by kernel_rfl) (fun _ _ _ h => h) hT (Or.inl ⟨by rfl, ?_⟩) ?_
        rotate_left
        · (intro w' hw'; obtain ⟨u1, u2, u3, u4, u5, u6, u7⟩ := hw'; go_simp; try with_reducible rfl)
        (try simp only [Act.put, List.setIfInBounds_toArray, List.set_cons_zero, List.set_cons_succ])
        refine Till.step (i := 9) (by kernel_rfl) rfl ?_
        intro K hK
        go_simp
        (go_at_call 33; refine (HCA.out _ (by exact HCW5.out)).mono ?_; rintro e w6 ⟨rfl, hb6⟩; (have T6 : Below w5.heap.size w5 w6 := by exact ⟨hb6.os, hb6.tape, hb6.output, hb6.size, hb6.block⟩))
        rw [HIX.out]
        have hT : (fun w' : World => w'.cell? ⟨w.heap.size, 2, none⟩ = some (.slice (some ⟨kb, ko, none⟩) n cp) ∧ w'.cell? ⟨kb, ko + k * 4, none⟩ = some (.string kt) ∧ w'.cell? ⟨kb, ko + k * 4 + 1, none⟩ = some (.slice KA nf KC) ∧ w'.cell? ⟨kb, ko + k * 4 + 2, none⟩ = some (.int .i64 km) ∧ w'.cell? ⟨kb, ko + k * 4 + 3, none⟩ = some (.string ku) ∧ w'.cell? ⟨rn, 1, none⟩ = some (.slice (some ⟨b2, off2, none⟩) nv CJ) ∧ w'.cell? ⟨b2, off2 + ic, none⟩ = some (.string s)) w6 := HSB.out _ T6
        refine hK.out _ _ (fun _ => hT) ?_
        clear hK K
        (try simp only [Act.put, List.setIfInBounds_toArray, List.set_cons_zero, List.set_cons_succ])
        refine Till.take (i := 10) (v := ?_) rfl (by kernel_rfl) (by kernel_rfl) (by kernel_rfl) [11, 12] (by kernel_rfl) (by decide) (by kernel_rfl) (by kernel_rfl) (fun _ _ _ h => h) hT (Or.inl ⟨by rfl, ?_⟩) ?_
        rotate_left
        · (intro w' hw'; obtain ⟨u1, u2, u3, u4, u5, u6, u7⟩ := hw'; go_simp; try with_reducible rfl)
        (try simp only [Act.put, List.setIfInBounds_toArray, List.set_cons_zero, List.set_cons_succ])
        refine Till.take (i := 11) (v := ?_) rfl (by kernel_rfl) (by kernel_rfl) (by kernel_rfl) [12] (by kernel_rfl) (by decide) (by kernel_rfl) (by kernel_rfl) (fun _ _ _ h => h) hT (Or.inl ⟨by rfl, ?_⟩) ?_
        rotate_left
        · (intro w' hw'; obtain ⟨u1, u2, u3, u4, u5, u6, u7⟩ := hw'; go_simp; try with_reducible rfl)
        (try simp only [Act.put, List.setIfInBounds_toArray, List.set_cons_zero, List.set_cons_succ])
        refine Till.step (i := 12) (by kernel_rfl) rfl ?_
        intro K hK
        go_simp
        have hT : (fun w' : World => w'.cell? ⟨w.heap.size, 2, none⟩ = some (.slice (some ⟨kb, ko, none⟩) n cp) ∧ w'.cell? ⟨kb, ko + k * 4, none⟩ = some (.string kt) ∧ w'.cell? ⟨kb, ko + k * 4 + 1, none⟩ = some (.slice KA nf KC) ∧ w'.cell? ⟨kb, ko + k * 4 + 2, none⟩ = some (.int .i64 km) ∧ w'.cell? ⟨kb, ko + k * 4 + 3, none⟩ = some (.string ku) ∧ w'.cell? ⟨rn, 1, none⟩ = some (.slice (some ⟨b2, off2, none⟩) nv CJ) ∧ w'.cell? ⟨b2, off2 + ic, none⟩ = some (.string s)) (w6.alloc (.cells #[.string s] 9)) := HSB.out _ (T6.alloc T6.size _)
        refine hK.out _ _ (fun _ => hT) ?_
        clear hK K
        (try simp only [Act.put, List.setIfInBounds_toArray, List.set_cons_zero, List.set_cons_succ])
        refine Till.step (i := 13) (by kernel_rfl) rfl ?_
        intro K hK
        have HO6 := own_keepT HO5.out (fun g cs hh => heap_below hh T6)
        have hz6 : w1.heap.size ≤ w6.heap.size := Nat.le_trans hz5 T6.size
        refine step_append_lies _ rfl (.tmp 46) (.tmp 58) 26 rfl w1.heap.size 9 i0 (.string ⟨#[]⟩) 1 16 Tryz.underlying26 HI0.out HZ0.out HZ1.out HZ2.out rfl (by decide) (.slice OA on OC) on (ystrV OL) rfl (by exact HO6.alloc (.cells #[.string s] 9)) ⟨w6.heap.size, 0, none⟩ 1 1 [.string s] rfl rfl (by exact k_cellsF w6 [.string s] 9) (by intro u hu; simp at hu; subst hu; rfl) (by decide) (by unfold maxLen; omega) (by omega) (by simp; omega) _ rfl ?_
        intro A7 k7 w7 hown7 hg7 hat7 hlt7
        have hg7 := grown_alloc hg7
        refine hK.out _ _ (fun h => absurd h (by decide)) ?_
        clear hK K
        (try simp only [Act.put, List.setIfInBounds_toArray, List.set_cons_zero, List.set_cons_succ])
        refine Till.step (i := 14) (by kernel_rfl) rfl ?_
        intro K hK
        go_simp
        refine hK.out _ _ (fun h => absurd h (by decide)) ?_
        clear hK K
        (try simp only [Act.put, List.setIfInBounds_toArray, List.set_cons_zero, List.set_cons_succ])
        refine Till.done (by kernel_rfl) ?_ _
        have hg75 : w6.grownBy w7 (Value.slice OA on OC).ownBlock := hg7
        have HBN := Lib.hid ((below_then T6 HB5.out hz5).grown hg75 hz6 (town_ge2 HO6))
        have HOL := Lib.hid (show (valsC rs tag ic (j + 1)).length = on + 1 by rw [HS2.out, List.length_append, HON.out]; rfl)
        have HON2 := Lib.hid (show w7.ownsRow w1.heap.size 9 1 (.slice (some ⟨A7, 0, none⟩) (on + 1) k7) (on + 1) (ystrV (valsC rs tag ic (j + 1))) by rw [HS2.out, ← ystrV_app]; exact hown7)
        go_wp2
        go_roundw
        case rel => exact ⟨j + 1, some ⟨A7, 0, none⟩, k7, on + 1, by omega, rfl, by go_num, HOL, HON2, HBN⟩
        case measure => simp [intOf]; omega
      · have HS2 := Lib.hid (show valsC rs tag ic (j + 1) = OL by rw [HSC.out, if_neg ht, List.append_nil])
        rw [decide_eq_false ht] at hbd
        have HOL := Lib.hid (show (valsC rs tag ic (j + 1)).length = on by rw [HS2.out, HON.out])
        have HON2 := Lib.hid (show w5.ownsRow w1.heap.size 9 1 (.slice OA on OC) on (ystrV (valsC rs tag ic (j + 1))) by rw [HS2.out]; exact HO5.out)
        clear ht
        go_wp2
        go_roundw
        case rel => exact ⟨j + 1, OA, OC, on, by omega, rfl, by go_num, HOL, HON2, HB5⟩
        case measure => simp [intOf]; omega
    · obtain rfl : j = nr := by omega
      go_wp2
      go_ret2
      exact RetCol.own HE.out HON.out HO.out HBW.out
def fewF (z : Int) : Nat → Int × Int × Int
  | 0 => made z 0
  | p + 1 => if z % 10 = 0 then fewF (z / 10) p else made z ((p + 1 : Nat) : Int)
theorem few_step {z : Int} {p : Nat} (h : z % 10 = 0) : fewF z (p + 1) = fewF (z / 10) p := if_pos h
theorem few_stop {z : Int} {p : Nat} (h : ¬ z % 10 = 0) : fewF z (p + 1) = made z ((p + 1 : Nat) : Int) := if_neg h
theorem mod_abs (z : Int) : ((z.natAbs % 10 : Nat) : Int) = 0 ↔ z % 10 = 0 := by omega
theorem div_abs {z : Int} (h : z % 10 = 0) : (z < 0 → -((z.natAbs / 10 : Nat) : Int) = z / 10) ∧ (¬ z < 0 → ((z.natAbs / 10 : Nat) : Int) = z / 10) := by omega
theorem sgn_nat (n : Nat) : ((n : Int).sign = 0 ↔ n = 0) := by rw [Int.sign_eq_zero_iff_zero]; omega
set_option maxHeartbeats 4000000 in
set_option maxRecDepth 100000 in
theorem fewest_c (w : World) {s : Bool} {A : Option Addr} {n c : Nat} {z : Int} (p : Nat) (hp : p ≤ 9) (h : Big .u32 155 B32 w s A n c z) (hz : -10000000000000000000000000000000 ≤ z ∧ z ≤ 10000000000000000000000000000000) :
    Calls Tryz.prog 68 #[.agg #[.bool s, .slice A n c], .int .i64 (p : Int)] w (RetD (fewF z p) w) := by
  obtain ⟨R, hR⟩ : ∃ x, fewF z p = x := ⟨_, rfl⟩
  have HR := Lib.hid hR
  rw [hR]
  have HZ := Lib.hid hz
  have HG := Lib.hid h
  clear hR h hz
  have hN0 := heap_old (heap_new w (.cells #[.bool s, .slice A n c] 108) rfl) (.cells #[.int .i64 0, .int .i64 0] 32)
  have hR0 := heap_new (w.alloc (.cells #[.bool s, .slice A n c] 108)) (.cells #[.int .i64 0, .int .i64 0] 32) (g := w.heap.size + 1) (by simp)
  have hB0 : Below w.heap.size w ((w.alloc (.cells #[.bool s, .slice A n c] 108)).alloc (.cells #[.int .i64 0, .int .i64 0] 32)) := by go_grown
  go_enter Tryz.func68, Tryz.ntmps68
  obtain ⟨N, hN⟩ : ∃ N, w.heap.size = N := ⟨_, rfl⟩
  go_wp2_with fail
  refine (of_c 10 _ (by decide) (by decide)).mono ?_
  rintro _ w2 ⟨s1, A1, n1, c1, rfl, hten, hb2⟩
  have HN2 := Lib.hid (heap_old (heap_below hN0 hb2) (.cells #[.bool s1, .slice A1 n1 c1] 108))
  have HR2 := Lib.hid (heap_old (heap_below hR0 hb2) (.cells #[.bool s1, .slice A1 n1 c1] 108))
  have HT2 := Lib.hid (heap_new w2 (.cells #[.bool s1, .slice A1 n1 c1] 108) rfl)
  have hB2 := below_then hb2 hB0 hB0.size
  have HB2 : Hid (Below w.heap.size w (w2.alloc (.cells #[.bool s1, .slice A1 n1 c1] 108))) := Lib.hid (hB2.alloc hB2.size _)
  have HG2 := Lib.hid ((HG.out.below hB2).alloc (.cells #[.bool s1, .slice A1 n1 c1] 108))
  have HTB := Lib.hid (hten.alloc (.cells #[.bool s1, .slice A1 n1 c1] 108))
  have hNT : w.heap.size + 1 < w2.heap.size := lt_heap (heap_below hR0 hb2)
  clear hN0 hR0 hB0 hten hb2 hB2
  go_upto_region 2 with fail
  obtain ⟨TT, hTT⟩ : ∃ x, w2.heap.size = x := ⟨_, rfl⟩
  rw [hTT] at HT2 hNT
  try rw [hTT]
  rw [hN] at HN2 HR2 hNT
  try rw [hN]
  generalize w2.alloc (.cells #[.bool s1, .slice A1 n1 c1] 108) = w3 at HN2 HR2 HT2 HB2 HG2 HTB ⊢
  have hwN : w.heap.size ≤ N := by omega
  have hBN : Hid (Below N w w3) := Lib.hid (by rw [← hN]; exact HB2.out)
  have HNN := Lib.hid hN
  clear hTT HB2 hN
  go_loopw [1] (fun pl wr => ∃ (k : Nat) (v : Int) (s : Bool) (A : Option Addr) (n c : Nat), k ≤ 9 ∧ pl = .int .i64 (k : Int) ∧ Hid (fewF v k = R) ∧ Hid (Big .u32 155 B32 wr s A n c v) ∧ Hid (-10000000000000000000000000000000 ≤ v ∧ v ≤ 10000000000000000000000000000000) ∧ Hid (wr.heap[N]? = some (.cells #[.bool s, .slice A n c] 108 (0, 0))) ∧ Hid (wr.heap[N + 1]? = some (.cells #[.int .i64 0, .int .i64 0] 32 (0, 0))) ∧ Hid (wr.heap[TT]? = some (.cells #[.bool s1, .slice A1 n1 c1] 108 (0, 0))) ∧ Hid (Big .u32 155 B32 wr s1 A1 n1 c1 10) ∧ Hid (Below N w wr)) (fun pl _ => (intOf pl).toNat)
  case atStart => exact ⟨p, z, s, A, n, c, hp, rfl, HR, HG2, HZ, HN2, HR2, HT2, HTB, hBN⟩
  case round =>
    clear HN2 HR2 HT2 HG2 HTB hBN HG HR HZ
    obtain ⟨k, v, s, A, n, c, hk, rfl, HR, HG, HZ, HN, HRZ, HT, HTB, HB⟩ := hrel
    have hzr : N ≤ wr.heap.size := Nat.le_of_lt (lt_heap HN.out)
    have hsm : Small v := small_of_le (by have := HZ.out; omega) (by have := HZ.out; omega)
    have HS := Lib.hid hsm
    have HST := Lib.hid (small_of_le (z := 10) (by decide) (by decide))
    clear hsm
    obtain ⟨a0, a1, a2, a3, a5⟩ := box2 HN.out
    obtain ⟨t0, t1, -, -, t5⟩ := box2 HT.out
    rcases k with _ | k
    · have HE := Lib.hid (show made v 0 = R from HR.out)
      obtain ⟨z0, z1, z2, z3, z5⟩ := box2 HRZ.out
      go_wp2_with fail
      refine (mk_c _ 0 HG.out).mono ?_
      rw [HE.out]
      rintro _ w4 ⟨rfl, hb4⟩
      have hR4 := heap_below HRZ.out hb4
      have hB4 := below_then hb4 HB.out hzr
      clear a0 a1 a2 a3 a5 t0 t1 t5 z0 z1 z2 z3 z5
      obtain ⟨z0, z1, z2, z3, z5⟩ := box2 hR4
      go_wp2
      have hz9 : ((w4.setCell ⟨N + 1, 0, none⟩ (.int .i64 R.1)).setCell ⟨N + 1, 1, none⟩ (.int .i64 R.2.1)).heap[N + 1]? = some (.cells #[.int .i64 R.1, .int .i64 R.2.1] 32 (0, 0)) := heap_set (heap_set hR4 0 _) 1 _
      obtain ⟨r0, r1, -, -, -⟩ := box2 hz9
      refine bodyPost_ret (v := .tuple #[.agg #[.int .i64 R.1, .int .i64 R.2.1], .int .i64 R.2.2]) (by simp [results, Tryz.results68, go_sem, r0, r1]) rfl ⟨rfl, ?_⟩
      rw [← HNN.out] at hB4 ⊢
      exact (hB4.setCell (p := ⟨w.heap.size + 1, 0, none⟩) (by show w.heap.size ≤ w.heap.size + 1; omega) _).setCell (p := ⟨w.heap.size + 1, 1, none⟩) (by show w.heap.size ≤ w.heap.size + 1; omega) _
    · go_wp2_with fail
      refine (by_c _ HG.out HTB.out HS.out HST.out (by decide)).mono ?_
      rintro _ w4 ⟨s4, A4, n4, c4, s5, A5, n5, c5, rfl, hq, hr, hb4⟩
      have hz4 := hb4.size
      have h5 := Lib.hid (show Below wr.heap.size wr ((w4.alloc (.cells #[.bool s4, .slice A4 n4 c4] 108)).alloc (.cells #[.bool s5, .slice A5 n5 c5] 108)) from (hb4.alloc hz4 _).alloc (by simp; omega) _)
      have HN5 := Lib.hid (heap_below HN.out h5.out); have HR5 := Lib.hid (heap_below HRZ.out h5.out); have HT5 := Lib.hid (heap_below HT.out h5.out)
      have HTB5 := Lib.hid (HTB.out.below h5.out); have HG5 := Lib.hid (HG.out.below h5.out)
      have HB5 := Lib.hid (below_then h5.out HB.out hzr)
      have HQ5 := Lib.hid (heap_old (heap_new w4 (.cells #[.bool s4, .slice A4 n4 c4] 108) rfl) (.cells #[.bool s5, .slice A5 n5 c5] 108))
      have HX5 := Lib.hid (heap_new (w4.alloc (.cells #[.bool s4, .slice A4 n4 c4] 108)) (.cells #[.bool s5, .slice A5 n5 c5] 108) (g := w4.heap.size + 1) (by simp))
      have hq5 := Lib.hid ((hq.alloc (.cells #[.bool s4, .slice A4 n4 c4] 108)).alloc (.cells #[.bool s5, .slice A5 n5 c5] 108))
      have hr5 := Lib.hid ((hr.alloc (.cells #[.bool s4, .slice A4 n4 c4] 108)).alloc (.cells #[.bool s5, .slice A5 n5 c5] 108))
      have hqN : TT < w4.heap.size := Nat.lt_of_lt_of_le t5 hb4.size
      clear a0 a1 a2 a3 a5 t0 t1 t5 hq hr hb4
      go_upto_region 4 with fail
      obtain ⟨QQ, hQQ⟩ : ∃ x, w4.heap.size = x := ⟨_, rfl⟩
      rw [hQQ] at HQ5 HX5 hqN
      try rw [hQQ]
      generalize (w4.alloc (.cells #[.bool s4, .slice A4 n4 c4] 108)).alloc (.cells #[.bool s5, .slice A5 n5 c5] 108) = w5 at h5 HN5 HR5 HT5 HTB5 HG5 HB5 HQ5 HX5 hq5 hr5 ⊢
      clear hQQ h5
      obtain ⟨x0, x1, -, -, x5⟩ := box2 HX5.out
      have h10 : (10 : Int).natAbs = 10 := rfl
      have hq6 := hq5.out; have hr6 := hr5.out
      rw [h10] at hq6 hr6
      go_wp2_with fail
      refine (sign_c _ hr6).mono ?_
      rintro _ w6 ⟨rfl, hb6⟩
      have HN6 := Lib.hid (heap_below HN5.out hb6); have HR6 := Lib.hid (heap_below HR5.out hb6); have HT6 := Lib.hid (heap_below HT5.out hb6)
      have HTB6 := Lib.hid (HTB5.out.below hb6); have HG6 := Lib.hid (HG5.out.below hb6); have HQ6 := Lib.hid (heap_below HQ5.out hb6)
      have HB6 := Lib.hid (below_then hb6 HB5.out (Nat.le_of_lt (lt_heap HN5.out)))
      have hQB := Lib.hid (hq6.below hb6)
      have hzr6 : N ≤ w6.heap.size := Nat.le_of_lt (lt_heap HN6.out)
      clear HN5 HR5 HT5 HTB5 HG5 HB5 HQ5 HX5 hq5 hr5 hq6 hr6 x0 x1 x5 hb6 h10
      obtain ⟨a0, a1, a2, a3, a5⟩ := box2 HN6.out
      by_cases hm : v % 10 = 0
      case neg =>
        have HE := Lib.hid (show made v ((k + 1 : Nat) : Int) = R by rw [← HR.out, few_stop hm])
        have hsg : ((v.natAbs % 10 : Nat) : Int).sign ≠ 0 := fun e => hm ((mod_abs v).1 (by rw [(sgn_nat _).1 e]; rfl))
        obtain ⟨sg, hsge⟩ : ∃ x, ((v.natAbs % 10 : Nat) : Int).sign = x := ⟨_, rfl⟩
        rw [hsge] at hsg ⊢
        have hsgb : (sg != 0) = true := by simpa using hsg
        clear hm hsg hsge
        go_wp2_with fail
        refine (mk_c _ ((k + 1 : Nat) : Int) HG6.out).mono ?_
        rw [HE.out]
        rintro _ w9 ⟨rfl, hb9⟩
        have hR9 := heap_below HR6.out hb9
        have hB9 := below_then hb9 HB6.out (by omega)
        obtain ⟨z0, z1, z2, z3, z5⟩ := box2 hR9
        go_wp2
        have hz9 : ((w9.setCell ⟨N + 1, 0, none⟩ (.int .i64 R.1)).setCell ⟨N + 1, 1, none⟩ (.int .i64 R.2.1)).heap[N + 1]? = some (.cells #[.int .i64 R.1, .int .i64 R.2.1] 32 (0, 0)) := heap_set (heap_set hR9 0 _) 1 _
        obtain ⟨r0, r1, -, -, -⟩ := box2 hz9
        refine bodyPost_ret (v := .tuple #[.agg #[.int .i64 R.1, .int .i64 R.2.1], .int .i64 R.2.2]) (by simp [results, Tryz.results68, go_sem, r0, r1]) rfl ⟨rfl, ?_⟩
        rw [← HNN.out] at hB9 ⊢
        exact (hB9.setCell (p := ⟨w.heap.size + 1, 0, none⟩) (by show w.heap.size ≤ w.heap.size + 1; omega) _).setCell (p := ⟨w.heap.size + 1, 1, none⟩) (by show w.heap.size ≤ w.heap.size + 1; omega) _
      have hsg : ((v.natAbs % 10 : Nat) : Int).sign = 0 := by rw [(mod_abs v).2 hm]; rfl
      rw [hsg]
      obtain ⟨hd1, hd2⟩ := div_abs hm
      have HF := Lib.hid (show fewF (v / 10) k = R by rw [← HR.out, few_step hm])
      have HZ2 := Lib.hid (show -10000000000000000000000000000000 ≤ v / 10 ∧ v / 10 ≤ 10000000000000000000000000000000 by have := HZ.out; omega)
      obtain ⟨q0, q1, q2, q3, q5⟩ := box2 HQ6.out
      go_wp2_with fail
      refine (sign_c _ HG6.out).mono ?_
      rintro _ w7 ⟨rfl, hb7⟩
      have HN7 := Lib.hid (heap_below HN6.out hb7); have HR7 := Lib.hid (heap_below HR6.out hb7); have HT7 := Lib.hid (heap_below HT6.out hb7)
      have HTB7 := Lib.hid (HTB6.out.below hb7); have HQ7 := Lib.hid (heap_below HQ6.out hb7)
      have HB7 := Lib.hid (below_then hb7 HB6.out hzr6)
      have hQB7 := Lib.hid (hQB.out.below hb7)
      clear HN6 HR6 HT6 HTB6 HG6 HB6 HQ6 hQB hb7 a0 a1 a2 a3 a5 q0 q1 q2 q3 q5 hsg hzr6
      have hzr7 : N ≤ w7.heap.size := Nat.le_of_lt (lt_heap HN7.out)
      obtain ⟨q0, q1, q2, q3, q5⟩ := box2 HQ7.out
      obtain ⟨a0, a1, a2, a3, a5⟩ := box2 HN7.out
      by_cases hv : v < 0
      · have hsv : v.sign < 0 := by rw [Int.sign_eq_neg_one_of_neg hv]; decide
        have hd := hd1 hv
        generalize v.sign = sv at hsv
        clear hv hd1 hd2 hm
        go_wp2_with fail
        refine (minus_c _ hQB7.out).mono ?_
        rw [hd]
        rintro _ w8 ⟨s8, A8, n8, c8, rfl, hv8, hb8⟩
        have HQ8 := Lib.hid (heap_below HQ7.out hb8)
        have HN8 := Lib.hid (heap_below HN7.out hb8); have HR8 := Lib.hid (heap_below HR7.out hb8); have HT8 := Lib.hid (heap_below HT7.out hb8)
        have HTB8 := Lib.hid (HTB7.out.below hb8)
        have HB8 := Lib.hid (below_then hb8 HB7.out hzr7)
        have HV8 := Lib.hid hv8
        clear HN7 HR7 HT7 HTB7 HB7 HQ7 hQB7 hb8 hv8 q0 q1 q2 q3 q5 a0 a1 a2 a3 a5 hd
        obtain ⟨q0, q1, q2, q3, q5⟩ := box2 HQ8.out
        obtain ⟨a0, a1, a2, a3, a5⟩ := box2 HN8.out
        have hQN : QQ ≠ N := by omega
        have HN9 := Lib.hid (show ((w8.setCell ⟨QQ, 0, none⟩ (.bool s8)).setCell ⟨QQ, 1, none⟩ (.slice A8 n8 c8)).heap[N]? = some (.cells #[.bool s, .slice A n c] 108 (0, 0)) from heap_far (heap_far HN8.out (p := ⟨QQ, 0, none⟩) (Ne.symm hQN) _) (p := ⟨QQ, 1, none⟩) (Ne.symm hQN) _)
        have HR9 := Lib.hid (show ((w8.setCell ⟨QQ, 0, none⟩ (.bool s8)).setCell ⟨QQ, 1, none⟩ (.slice A8 n8 c8)).heap[N + 1]? = some (.cells #[.int .i64 0, .int .i64 0] 32 (0, 0)) from heap_far (heap_far HR8.out (p := ⟨QQ, 0, none⟩) (by show N + 1 ≠ QQ; omega) _) (p := ⟨QQ, 1, none⟩) (by show N + 1 ≠ QQ; omega) _)
        have HT9 := Lib.hid (show ((w8.setCell ⟨QQ, 0, none⟩ (.bool s8)).setCell ⟨QQ, 1, none⟩ (.slice A8 n8 c8)).heap[TT]? = some (.cells #[.bool s1, .slice A1 n1 c1] 108 (0, 0)) from heap_far (heap_far HT8.out (p := ⟨QQ, 0, none⟩) (by show TT ≠ QQ; omega) _) (p := ⟨QQ, 1, none⟩) (by show TT ≠ QQ; omega) _)
        have HTB9 := Lib.hid (HTB8.out.box2 HQ8.out (by decide) (.bool s8) (.slice A8 n8 c8))
        have HV9 := Lib.hid (HV8.out.box2 HQ8.out (by decide) (.bool s8) (.slice A8 n8 c8))
        have HB9 := Lib.hid ((HB8.out.setCell (p := ⟨QQ, 0, none⟩) (by show N ≤ QQ; omega) (.bool s8)).setCell (p := ⟨QQ, 1, none⟩) (by show N ≤ QQ; omega) (.slice A8 n8 c8))
        clear HN8 HR8 HT8 HTB8 HV8 HB8
        go_wp2_with fail
        go_roundw
        case rel =>
          refine ⟨k, v / 10, s8, A8, n8, c8, by omega, by go_num, HF, Lib.hid (HV9.out.box2 HN9.out (by decide) _ _), HZ2, Lib.hid (heap_set (heap_set HN9.out 0 _) 1 _), ?_, ?_, Lib.hid (HTB9.out.box2 HN9.out (by decide) _ _), Lib.hid ((HB9.out.setCell (p := ⟨N, 0, none⟩) (Nat.le_refl _) _).setCell (p := ⟨N, 1, none⟩) (Nat.le_refl _) _)⟩
          · exact Lib.hid (heap_far (heap_far HR9.out (p := ⟨N, 0, none⟩) (by show N + 1 ≠ N; omega) _) (p := ⟨N, 1, none⟩) (by show N + 1 ≠ N; omega) _)
          · exact Lib.hid (heap_far (heap_far HT9.out (p := ⟨N, 0, none⟩) (by show TT ≠ N; omega) _) (p := ⟨N, 1, none⟩) (by show TT ≠ N; omega) _)
        case measure => simp [intOf]
      · have hsv : ¬ v.sign < 0 := by rcases Int.lt_or_eq_of_le (Int.not_lt.1 hv) with h | h; rw [Int.sign_eq_one_of_pos h]; decide; rw [← h]; decide
        have hd := hd2 (by omega)
        have HQB := Lib.hid (hd ▸ hQB7.out)
        generalize v.sign = sv at hsv
        clear hv hd1 hd2 hm hQB7 hd
        have HW := Lib.hid (show ((w7.setCell ⟨N, 0, none⟩ (.bool s4)).setCell ⟨N, 1, none⟩ (.slice A4 n4 c4)).heap[N]? = some (.cells #[.bool s4, .slice A4 n4 c4] 108 (0, 0)) from heap_set (heap_set HN7.out 0 _) 1 _)
        go_wp2_with fail
        go_roundw
        case rel =>
          refine ⟨k, v / 10, s4, A4, n4, c4, by omega, by go_num, HF, Lib.hid (HQB.out.box2 HN7.out (by decide) _ _), HZ2, HW, ?_, ?_, Lib.hid (HTB7.out.box2 HN7.out (by decide) _ _), Lib.hid ((HB7.out.setCell (p := ⟨N, 0, none⟩) (Nat.le_refl _) _).setCell (p := ⟨N, 1, none⟩) (Nat.le_refl _) _)⟩
          · exact Lib.hid (heap_far (heap_far HR7.out (p := ⟨N, 0, none⟩) (by show N + 1 ≠ N; omega) _) (p := ⟨N, 1, none⟩) (by show N + 1 ≠ N; omega) _)
          · exact Lib.hid (heap_far (heap_far HT7.out (p := ⟨N, 0, none⟩) (by show TT ≠ N; omega) _) (p := ⟨N, 1, none⟩) (by show TT ≠ N; omega) _)
        case measure => simp [intOf]
end Go.Proofs.YtnnenokgjkpkiaaGreatDoor
namespace Go.Proofs.YtnnenokgjkpkiaaGreatDoor
open Go.RowKit Limb
set_option linter.unusedVariables false
set_option linter.unusedSimpArgs false
theorem repeat_one (c : UInt8) : ∀ n, Lib.repeatL [c] n = List.replicate n c
  | 0 => rfl
  | n + 1 => by rw [Lib.repeatL, repeat_one c n, List.replicate_succ]; rfl
def padL (l : List UInt8) (p : Nat) : List UInt8 := List.replicate (p + 1 - l.length) 48 ++ l
theorem padL_len (l : List UInt8) (p : Nat) : (padL l p).length = max (p + 1) l.length := by unfold padL; simp; omega
def sgL (u : Int) : List UInt8 := if u < 0 then [45] else []
def digL (u : Int) : List UInt8 := Lib.decDigits u.natAbs
def befL (u : Int) (p : Nat) : List UInt8 := (padL (digL u) p).take ((padL (digL u) p).length - p)
def behL (u : Int) (p : Nat) : List UInt8 := (padL (digL u) p).drop ((padL (digL u) p).length - p)
def textL (u : Int) (p : Nat) : List UInt8 := sgL u ++ befL u p ++ (if p = 0 then [] else 46 :: behL u p)
theorem digL_len {u : Int} (h : u.natAbs < 10 ^ 30) : 1 ≤ (digL u).length ∧ (digL u).length ≤ 30 := by
  unfold digL
  rcases Nat.eq_zero_or_pos u.natAbs with h0 | h0
  · rw [h0, Lib.decDigits_one (by decide)]; simp
  · rw [← tail_pos h0]
    refine ⟨?_, tail_len 30 _ h⟩
    rw [tail_step h0]; simp
def RetST (l : List UInt8) (f : Int) (w : World) (e : Ending) (w' : World) : Prop := ∃ s : ByteArray, e = .returned (.tuple #[.string s, .int .i64 f]) ∧ s.data.toList = l ∧ Below w.heap.size w w'
def textR (u p : Int) : List UInt8 := if decB u p = true then textL u p.toNat else []
def decF (u p : Int) : Int := if decB u p = true then 0 else 1
theorem bef_len {u : Int} {p : Nat} (hp : p ≤ 9) (hu : u.natAbs < 10 ^ 30) : (befL u p).length ≤ 40 ∧ (behL u p).length ≤ 40 := by
  have h1 := padL_len (digL u) p
  have h2 := digL_len hu
  unfold befL behL
  rw [List.length_take, List.length_drop]
  omega
theorem nat_pow200 {u : Int} (h : -1000000000000000 ≤ u ∧ u ≤ 1000000000000000) : u.natAbs < 10 ^ 200 ∧ u.natAbs < 10 ^ 30 := by
  have h1 : u.natAbs ≤ 1000000000000000 := by omega
  exact ⟨Nat.lt_of_le_of_lt h1 (by decide), Nat.lt_of_le_of_lt h1 (by decide)⟩
theorem RetST.of {l l' : List UInt8} {f f' : Int} {w w' : World} {e : Ending} (h : RetST l f w e w') (hl : l = l') (hf : f = f') : RetST l' f' w e w' := by subst hl; subst hf; exact h
end Go.Proofs.YtnnenokgjkpkiaaGreatDoor
