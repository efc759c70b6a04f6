/- The walks of the reference's checkRow and CheckRow. -/
import Derived.Test.YtaiabjiehpcaoaaGreatDoorJ1
import Derived.Test.YtaiabjiehpcaoaaGreatDoorG5
import Derived.Lib.SplitLaws
import Derived.Test.YtaiabjiehpcaoaaGreatDoorU1
-- merged: V6 V7 VB VL Y0 Y1
namespace Go.Proofs.YtaiabjiehpcaoaaGreatDoor
open Go.RowKit Limb Nmb Work
set_option linter.unusedVariables false
set_option linter.unusedSimpArgs false
theorem pos_size {s : ByteArray} (h : s ≠ ⟨#[]⟩) : 0 < s.size := by
 rcases Nat.eq_zero_or_pos s.size with h1 | h1
 ·exact absurd (ByteArray.ext (Array.eq_empty_of_size_eq_zero h1)) h
 ·exact h1
set_option maxHeartbeats 8000000 in
set_option maxRecDepth 100000 in
theorem rcheckrow_c (f : Fmt) (A : Option Addr) (cp : Nat) (FA : Nat -> Option Addr) (FC : Nat -> Nat) (r : RowP) (RA : Option Addr) (RC : Nat) (w : World) (ho : Kinds w A f.kinds FA FC) (hr : RowM w r RA RC) (hcp : f.kinds.length <= cp) (hf : checkF f = 0) (hm : 0 <= f.mark /\ f.mark <= 255) (ht : Tab w) :
  Calls Tryz.prog 50 #[fmtG f A cp, rowG r RA RC] w (RetNF (rowF f r).1 (rowF f r).2 w) := by
 have HKA := Lib.hid (fun w h => rkindof_c f A cp FA FC r.tag w h)
 have HFK := Lib.hid (checkF_ok hf)
 have HVO := Lib.hid (fun c s w (h0 : s ≠ ⟨#[]⟩) hs => isof_c c s w (pos_size h0) hs)
 have HWR := Lib.hid (fun c s w hs hv hk ht => rwritten_c f A f.kinds.length cp c s w hs hv hk ht)
 have HIX := Lib.hid (fun s w => ixbyte_c s f.mark w hm)
 have HCS := Lib.hid (kat_cases f FA FC r.tag)
 have HKI := Lib.hid ho; have HRM := Lib.hid hr; have HTB := Lib.hid ht
 obtain ⟨R, hR⟩ : ∃ x, rowF f r = x := ⟨_, rfl⟩
 have HR := Lib.hid hR
 rw [hR]
 have hnk := ho.1.2
 clear ho hr ht hf hR
 obtain ⟨m, q, ks, hd, tl, ct, sm⟩ := f
 obtain ⟨tg, vs⟩ := r
 unfold fmtG at HKA ⊢
 unfold rowG
 simp only at HKA HWR HIX HCS HKI hm hcp hnk ⊢
 obtain ⟨n, hn⟩ : ∃ x, ks.length = x := ⟨_, rfl⟩
 have HN := Lib.hid hn
 obtain ⟨nv, hnv⟩ : ∃ x, vs.length = x := ⟨_, rfl⟩
 have HNV := Lib.hid hnv
 have hnvb : nv <= RC := by rw [<- hnv]; exact HRM.out.len.1
 have hrcb := HRM.out.len.2
 rw [hn] at HKA HWR hcp hnk ⊢
 rw [hnv]
 clear hn hnv
 have hF0 := heap_old (heap_new w (.cells #[.int .u8 m, .int .u8 q, .slice A n cp, .string hd, .string tl, .string ct, .string sm] 24) rfl) (.cells #[.string tg, .slice RA nv RC] 49)
 have hR0 := heap_new (w.alloc (.cells #[.int .u8 m, .int .u8 q, .slice A n cp, .string hd, .string tl, .string ct, .string sm] 24)) (.cells #[.string tg, .slice RA nv RC] 49) (g := w.heap.size + 1) (by simp)
 have hB0 : Below w.heap.size w ((w.alloc (.cells #[.int .u8 m, .int .u8 q, .slice A n cp, .string hd, .string tl, .string ct, .string sm] 24)).alloc (.cells #[.string tg, .slice RA nv RC] 49)) := by go_grown
 go_enter Tryz.func50, Tryz.ntmps50
 obtain ⟨⟨f0, f1, f2, f3, f4, f5, f6⟩, f7⟩ := obox7 hF0
 obtain ⟨r0, r1, -, -, r2⟩ := box2 hR0
 have HKW := Lib.hid (HKI.out.below hB0)
 go_wp2_with fail
 refine (HKA.out _ HKW.out).mono ?_
 rintro e w2 ⟨rfl, hb2⟩
 have hF2 := heap_below hF0 hb2
 have hR2 := heap_below hR0 hb2
 have hB2 := below_then hb2 hB0 hB0.size
 have hz2 := hB2.size
 clear hF0 hR0 hb2 f0 f1 f2 f3 f4 f5 f6 f7 r0 r1 r2 HKW hB0
 obtain ⟨⟨f0, f1, f2, f3, f4, f5, f6⟩, f7⟩ := obox7 hF2
 obtain ⟨r0, r1, -, -, r2⟩ := box2 hR2
 rcases HCS.out with ⟨h1, -, -, -⟩ | ⟨k, hk, h1, h2, -, -⟩
 ·have HE := Lib.hid (show R = (0, 9) by rw [<- HR.out]; unfold rowF; rw [if_pos (by rw [h1]; decide)])
  have h1' : ixF (tagIs tg) ks = -1 := h1
  rw [h1']
  clear h1 h1'
  go_wp2
  go_ret2
  exact ⟨by rw [HE.out]; rfl, hB2⟩
 ·have hi0 : ¬ katI ⟨m, q, ks, hd, tl, ct, sm⟩ tg < 0 := by rw [h1]; omega
  have HRR := Lib.hid (show R = if vs.length ≠ (kA ks k).fields.length then (0, 3) else frF (fun j => valF m q (cA (kA ks k).fields j) (wd vs j)) (kA ks k).fields.length by rw [<- HR.out]; unfold rowF; rw [if_neg hi0, h2])
  have h1' : ixF (tagIs tg) ks = (k : Int) := h1
  rw [h1']
  clear h1'
  have hkn : k < n := by rw [<- HN.out]; exact hk
  have HKK := Lib.hid (HFK.out.kinds k hk)
  have HCO := Lib.hid ((HKI.out).2.2 k hk)
  simp only at HKK
  obtain ⟨kb, ko, hA, hkb, kc⟩ := (HKI.out).2.1.get hk
  subst hA
  have kc1 : w.cell? ⟨kb, ko + k * 4 + 1, none⟩ = some (.slice (FA k) (kA ks k).fields.length (FC k)) := kc 1 (by decide)
  have hk2 := (hB2.cell (p := ⟨kb, ko + k * 4 + 1, none⟩) hkb).trans kc1
  obtain ⟨K, hK⟩ : ∃ x, kA ks k = x := ⟨_, rfl⟩
  have HKc := Lib.hid (fun j (hj : j < K.fields.length) => (show ColK m (cA K.fields j) by rw [<- hK] at hj ⊢; exact HKK.out.cols j hj))
  rw [hK] at HRR HCO hk2
  clear h1 h2 hi0 hK kc kc1
  obtain ⟨kt, fs, km, ku⟩ := K
  simp only at HRR HCO HKc hk2 ⊢
  obtain ⟨nf, hnf⟩ : ∃ x, fs.length = x := ⟨_, rfl⟩
  obtain ⟨KA, hKA⟩ : ∃ x, FA k = x := ⟨_, rfl⟩
  obtain ⟨KC, hKC⟩ : ∃ x, FC k = x := ⟨_, rfl⟩
  have HNF := Lib.hid hnf
  rw [hnf, hKA, hKC] at HCO hk2
  rw [hnf] at HRR HKc
  have hnfb : nf <= 9223372036854775807 := by rw [<- hnf]; exact HCO.out.1.1.2
  have hnfc : nf <= KC := HCO.out.2
  clear hnf hKA hKC HKK
  by_cases hlen : nv = nf
  case neg =>
   have HE := Lib.hid (show R = (0, 3) by rw [HRR.out, HNV.out, if_pos hlen])
   have hne : ((nv : Int) != (nf : Int)) = true := by
    have : ¬ (nv : Int) = (nf : Int) := by omega
    simpa using this
   clear hlen
   go_wp2
   go_quiet (fail)
   go_wp2
   go_ret2
   exact ⟨by rw [HE.out]; rfl, below_drewN hB2 _⟩
  subst hlen
  have HRF := Lib.hid (show R = frF (fun j => valF m q (cA fs j) (wd vs j)) nv by rw [HRR.out, HNV.out, if_neg (fun h => h rfl)])
  have HF2 := Lib.hid hF2; have HR2 := Lib.hid hR2
  clear hF2 hR2 HRR
  go_wp2
  go_quiet (fail)
  go_wp2_with fail
  have HB2 := Lib.hid hB2
  go_loopw [30] (fun i wr => ∃ j : Nat, j <= nv /\ i = .int .i64 j /\ Below w2.heap.size w2 wr /\ Hid (∀ t, t < j -> valF m q (cA fs t) (wd vs t) = 0)) (fun i _ => nv - (intOf i).toNat)
  case atStart => exact ⟨0, Nat.zero_le _, rfl, below_drewN (Below.refl _ _) _, Lib.hid (fun t h => absurd h (Nat.not_lt_zero _))⟩
  case round =>
   have hkb2 : kb < w2.heap.size := Nat.lt_of_lt_of_le hkb hz2
   have HK2 := Lib.hid hk2
   clear f0 f1 f2 f3 f4 f5 f6 f7 r0 r1 r2 hB2 hk2
   obtain ⟨j, hj, rfl, hb, HJ⟩ := hrel
   have hF := heap_below HF2.out hb
   have hR := heap_below HR2.out hb
   have hkc := (hb.cell (p := ⟨kb, ko + k * 4 + 1, none⟩) hkb2).trans HK2.out
   obtain ⟨⟨f0, f1, f2, f3, f4, f5, f6⟩, f7⟩ := obox7 hF
   obtain ⟨r0, r1, -, -, r2⟩ := box2 hR
   have HBw := Lib.hid (below_then hb HB2.out HB2.out.size)
   have hzr := hb.size
   rcases Nat.lt_or_ge j nv with hlt | hge
   ·obtain ⟨b, off, rfl, hbw, c0, c1, c2, c3, c4, c5, c6, c7⟩ := (HCO.out.1.below HBw.out).cells (j := j) (by rw [HNF.out]; exact hlt)
    obtain ⟨b2, off2, rfl, hbw2, hcs⟩ := (HRM.out.vals.below HBw.out).cells (by rw [HNV.out]; omega)
    have s0 := hcs j (by rw [HNV.out]; exact hlt)
    have hsz := wd_size HRM.out.size j
    have HCJ := Lib.hid (HKc.out j hlt)
    simp only at s0 hsz
    obtain ⟨s, hs⟩ : ∃ x, wd vs j = x := ⟨_, rfl⟩
    obtain ⟨co, hco⟩ : ∃ x, cA fs j = x := ⟨_, rfl⟩
    have HX := Lib.hid (show valF m q (cA fs j) (wd vs j) = valF m q co s by rw [hs, hco])
    rw [hco] at HCJ
    rw [hs] at s0 hsz
    rw [hco] at c0 c1 c2 c3 c4 c5 c6 c7
    clear hs hco hcs
    have HO2 := Lib.hid (fun w h0 => HVO.out co s w h0 hsz)
    have HW2 := Lib.hid (fun w hv ht => HWR.out co s w hsz hv HCJ.out ht)
    obtain ⟨nm, kd, wi, pl, fm, rt, fl, nd⟩ := co
    unfold colG at HO2 HW2
    simp only at HO2 HW2 c0 c1 c2 c3 c4 c5 c6 c7
    have hF4 := heap_old hF (.cells #[.string nm, .int .i64 kd, .int .i64 wi, .int .i64 pl, .int .i64 fm, .bool rt, .int .u8 fl, .bool nd] 60)
    have hC4 := heap_new wr (.cells #[.string nm, .int .i64 kd, .int .i64 wi, .int .i64 pl, .int .i64 fm, .bool rt, .int .u8 fl, .bool nd] 60) rfl
    have hb4 : Below wr.heap.size wr (wr.alloc (.cells #[.string nm, .int .i64 kd, .int .i64 wi, .int .i64 pl, .int .i64 fm, .bool rt, .int .u8 fl, .bool nd] 60)) := by go_grown
    go_upto_region 10 with fail
    obtain ⟨c0n, hc0n⟩ : ∃ x, wr.heap.size = x := ⟨_, rfl⟩
    rw [hc0n] at hC4 ⊢
    generalize wr.alloc (.cells #[.string nm, .int .i64 kd, .int .i64 wi, .int .i64 pl, .int .i64 fm, .bool rt, .int .u8 fl, .bool nd] 60) = w4 at hF4 hC4 hb4 ⊢
    have hb24 := below_then hb4 hb hzr
    have HT4 := Lib.hid ((HTB.out.below HBw.out).below hb4)
    clear f0 f1 f2 f3 f4 f5 f6 f7 r0 r1 r2 c0 c1 c2 c3 c4 c5 c6 c7 s0 hF hR hkc hbw hbw2 hb4
    obtain ⟨⟨f0, f1, f2, f3, f4, f5, f6⟩, f7⟩ := obox7 hF4
    obtain ⟨⟨x0, x1, x2, x3, x4, x5, x6, x7⟩, x8⟩ := obox8 hC4
    have hz4 := hb24.size
    have g1 := emp_dec s
    by_cases h0 : s = ⟨#[]⟩
    ·rw [decide_eq_true h0] at g1
     cases nd with
     | true =>
      have HE := Lib.hid (show valF m q ⟨nm, kd, wi, pl, fm, rt, fl, true⟩ s = 13 by unfold valF; rw [if_pos h0, if_pos rfl])
      clear h0
      have HER := Lib.hid (show R = ((j : Int), 13) by rw [HRF.out, frF_hit (j := j) HJ.out (by show valF m q _ _ ≠ 0; rw [HX.out, HE.out]; decide) hlt]; exact congrArg _ (HX.out.trans HE.out))
      have hbn := below_then (hb24) HB2.out HB2.out.size
      go_wp2
      go_ret2
      exact ⟨by rw [HER.out]; rfl, hbn⟩
     | false =>
      have HE := Lib.hid (show valF m q ⟨nm, kd, wi, pl, fm, rt, fl, false⟩ s = 0 by unfold valF; rw [if_pos h0, if_neg (by simp)])
      clear h0
      have HJ2 := Lib.hid (show ∀ t, t < j + 1 -> valF m q (cA fs t) (wd vs t) = 0 from fun t ht => by
       rcases Nat.lt_or_ge t j with h | h
       ·exact HJ.out t h
       ·obtain rfl : t = j := by omega
        exact HX.out.trans HE.out)
      have hbn := hb24
      go_wp2
      go_roundw
      case rel => exact ⟨j + 1, by omega, by go_num, hbn, HJ2⟩
      case measure => simp [intOf]; omega
    rw [decide_eq_false h0] at g1
    have HN0 := Lib.hid h0
    have HO3 := Lib.hid (fun w => HO2.out w h0)
    obtain ⟨V, hV⟩ : ∃ x, valOk ⟨nm, kd, wi, pl, fm, rt, fl, nd⟩ s.data.toList = x := ⟨_, rfl⟩
    have HVV := Lib.hid hV
    rw [hV] at HO3 HW2
    obtain ⟨W, hW⟩ : ∃ x, wrS m ⟨nm, kd, wi, pl, fm, rt, fl, nd⟩ s = x := ⟨_, rfl⟩
    have HWW := Lib.hid hW
    rw [hW] at HW2
    clear h0 hV hW HO2
    have HF4 := Lib.hid hF4; have HC4 := Lib.hid hC4
    go_wp2_with fail
    refine (HO3.out _).mono ?_
    rintro e w5 ⟨rfl, hb5⟩
    have hb25 := below_then hb5 hb24 hz4
    clear f0 f1 f2 f3 f4 f5 f6 f7 x0 x1 x2 x3 x4 x5 x6 x7 x8 hF4 hC4
    cases V with
    | false =>
     have HE := Lib.hid (show valF m q ⟨nm, kd, wi, pl, fm, rt, fl, nd⟩ s = 6 by unfold valF; rw [if_neg HN0.out, if_pos HVV.out])
     have HER := Lib.hid (show R = ((j : Int), 6) by rw [HRF.out, frF_hit (j := j) HJ.out (by show valF m q _ _ ≠ 0; rw [HX.out, HE.out]; decide) hlt]; exact congrArg _ (HX.out.trans HE.out))
     have hbn := below_then (hb25) HB2.out HB2.out.size
     go_wp2
     go_ret2
     exact ⟨by rw [HER.out]; rfl, hbn⟩
    | true =>
    have HF5 := Lib.hid (heap_below HF4.out hb5); have HC5 := Lib.hid (heap_below HC4.out hb5)
    have HT5 := Lib.hid (HT4.out.below hb5)
    have HSB := Lib.hid (show ∀ wx, Below w5.heap.size w5 wx -> (fun w' : World => w'.cell? ⟨w.heap.size, 0, none⟩ = some (.int .u8 m) /\ w'.cell? ⟨w.heap.size, 1, none⟩ = some (.int .u8 q) /\ w'.cell? ⟨w.heap.size, 2, none⟩ = some (.slice (some ⟨kb, ko, none⟩) n cp) /\ w'.cell? ⟨w.heap.size, 3, none⟩ = some (.string hd) /\ w'.cell? ⟨w.heap.size, 4, none⟩ = some (.string tl) /\ w'.cell? ⟨w.heap.size, 5, none⟩ = some (.string ct) /\ w'.cell? ⟨w.heap.size, 6, none⟩ = some (.string sm) /\ w'.cell? ⟨c0n, 0, none⟩ = some (.string nm) /\ w'.cell? ⟨c0n, 1, none⟩ = some (.int .i64 kd) /\ w'.cell? ⟨c0n, 2, none⟩ = some (.int .i64 wi) /\ w'.cell? ⟨c0n, 3, none⟩ = some (.int .i64 pl) /\ w'.cell? ⟨c0n, 4, none⟩ = some (.int .i64 fm) /\ w'.cell? ⟨c0n, 5, none⟩ = some (.bool rt) /\ w'.cell? ⟨c0n, 6, none⟩ = some (.int .u8 fl) /\ w'.cell? ⟨c0n, 7, none⟩ = some (.bool nd)) wx from fun wx h => by
     obtain ⟨⟨f0, f1, f2, f3, f4, f5, f6⟩, f7⟩ := obox7 (heap_below HF5.out h)
     obtain ⟨⟨x0, x1, x2, x3, x4, x5, x6, x7⟩, x8⟩ := obox8 (heap_below HC5.out h)
     exact ⟨f0, f1, f2, f3, f4, f5, f6, x0, x1, x2, x3, x4, x5, x6, x7⟩)
    have T1 : Below w5.heap.size w5 w5 := Below.refl _ _
    clear hb5
    go_wp2_with fail
    go_region_held3 (fun w' : World => w'.cell? ⟨w.heap.size, 0, none⟩ = some (.int .u8 m) /\ w'.cell? ⟨w.heap.size, 1, none⟩ = some (.int .u8 q) /\ w'.cell? ⟨w.heap.size, 2, none⟩ = some (.slice (some ⟨kb, ko, none⟩) n cp) /\ w'.cell? ⟨w.heap.size, 3, none⟩ = some (.string hd) /\ w'.cell? ⟨w.heap.size, 4, none⟩ = some (.string tl) /\ w'.cell? ⟨w.heap.size, 5, none⟩ = some (.string ct) /\ w'.cell? ⟨w.heap.size, 6, none⟩ = some (.string sm) /\ w'.cell? ⟨c0n, 0, none⟩ = some (.string nm) /\ w'.cell? ⟨c0n, 1, none⟩ = some (.int .i64 kd) /\ w'.cell? ⟨c0n, 2, none⟩ = some (.int .i64 wi) /\ w'.cell? ⟨c0n, 3, none⟩ = some (.int .i64 pl) /\ w'.cell? ⟨c0n, 4, none⟩ = some (.int .i64 fm) /\ w'.cell? ⟨c0n, 5, none⟩ = some (.bool rt) /\ w'.cell? ⟨c0n, 6, none⟩ = some (.int .u8 fl) /\ w'.cell? ⟨c0n, 7, none⟩ = some (.bool nd))
     (first | (with_reducible exact HSB.out _ T2) | (refine HSB.out _ ?_; go_grown))
     (first | (go_at_call 89; refine (HW2.out _ (fun _ => trivial) (by exact HT5.out)).mono ?_; rintro e w6 ⟨rfl, hb6'⟩; (have T2 : Below w5.heap.size w5 w6 := by exact ⟨hb6'.os, hb6'.tape, hb6'.output, hb6'.size, hb6'.block⟩)))
    have hb26 := below_then T2 hb25 hb25.size
    obtain ⟨f0, f1, f2, f3, f4, f5, f6, x0, x1, x2, x3, x4, x5, x6, x7⟩ := HSB.out _ T2
    clear T1 T2
    by_cases hl : wi < (W.size : Int)
    ·have HE := Lib.hid (show valF m q ⟨nm, kd, wi, pl, fm, rt, fl, nd⟩ s = 16 by unfold valF; rw [if_neg HN0.out, if_neg (by rw [HVV.out]; decide), HWW.out, if_pos hl])
     have HER := Lib.hid (show R = ((j : Int), 16) by rw [HRF.out, frF_hit (j := j) HJ.out (by show valF m q _ _ ≠ 0; rw [HX.out, HE.out]; decide) hlt]; exact congrArg _ (HX.out.trans HE.out))
     have hbn := below_then (hb26) HB2.out HB2.out.size
     go_wp2
     go_ret2
     exact ⟨by rw [HER.out]; rfl, hbn⟩
    have HG := Lib.hid (show valF m q ⟨nm, kd, wi, pl, fm, rt, fl, nd⟩ s = if m ≠ 0 /\ q = 0 /\ 0 <= Lib.indexByte s.data.toList (UInt8.ofNat m.toNat) then 12 else 0 by unfold valF; rw [if_neg HN0.out, if_neg (by rw [HVV.out]; decide), HWW.out, if_neg hl])
    by_cases h1 : m = 0
    ·have HE := Lib.hid (show valF m q ⟨nm, kd, wi, pl, fm, rt, fl, nd⟩ s = 0 by rw [HG.out, if_neg (fun h => h.1 h1)])
     have k1 : (m != 0) = false := by simpa using h1
     clear h1
     have HJ2 := Lib.hid (show ∀ t, t < j + 1 -> valF m q (cA fs t) (wd vs t) = 0 from fun t ht => by
      rcases Nat.lt_or_ge t j with h | h
      ·exact HJ.out t h
      ·obtain rfl : t = j := by omega
       exact HX.out.trans HE.out)
     have hbn := hb26
     go_wp2
     go_roundw
     case rel => exact ⟨j + 1, by omega, by go_num, hbn, HJ2⟩
     case measure => simp [intOf]; omega
    have k1 : (m != 0) = true := by simpa using h1
    by_cases h2 : q = 0
    case neg =>
     have HE := Lib.hid (show valF m q ⟨nm, kd, wi, pl, fm, rt, fl, nd⟩ s = 0 by rw [HG.out, if_neg (fun h => h2 h.2.1)])
     have k2 : (q == 0) = false := beq_eq_false_iff_ne.2 h2
     clear h1 h2
     have HJ2 := Lib.hid (show ∀ t, t < j + 1 -> valF m q (cA fs t) (wd vs t) = 0 from fun t ht => by
      rcases Nat.lt_or_ge t j with h | h
      ·exact HJ.out t h
      ·obtain rfl : t = j := by omega
       exact HX.out.trans HE.out)
     have hbn := hb26
     go_wp2
     go_roundw
     case rel => exact ⟨j + 1, by omega, by go_num, hbn, HJ2⟩
     case measure => simp [intOf]; omega
    have k2 : (q == 0) = true := by simpa using h2
    have HI := Lib.hid (fun w => HIX.out s w)
    by_cases h3 : 0 <= Lib.indexByte s.data.toList (UInt8.ofNat m.toNat)
    ·have HE := Lib.hid (show valF m q ⟨nm, kd, wi, pl, fm, rt, fl, nd⟩ s = 12 by rw [HG.out, if_pos ⟨h1, h2, h3⟩])
     generalize Lib.indexByte s.data.toList (UInt8.ofNat m.toNat) = I at HI h3
     clear h1 h2
     go_wp2_with fail
     refine (HI.out _).mono ?_
     rintro e w7 ⟨rfl, rfl⟩
     have HER := Lib.hid (show R = ((j : Int), 12) by rw [HRF.out, frF_hit (j := j) HJ.out (by show valF m q _ _ ≠ 0; rw [HX.out, HE.out]; decide) hlt]; exact congrArg _ (HX.out.trans HE.out))
     have hbn := below_then (hb26) HB2.out HB2.out.size
     go_wp2
     go_ret2
     exact ⟨by rw [HER.out]; rfl, hbn⟩
    ·have HE := Lib.hid (show valF m q ⟨nm, kd, wi, pl, fm, rt, fl, nd⟩ s = 0 by rw [HG.out, if_neg (fun h => h3 h.2.2)])
     generalize Lib.indexByte s.data.toList (UInt8.ofNat m.toNat) = I at HI h3
     clear h1 h2
     go_wp2_with fail
     refine (HI.out _).mono ?_
     rintro e w7 ⟨rfl, rfl⟩
     have HJ2 := Lib.hid (show ∀ t, t < j + 1 -> valF m q (cA fs t) (wd vs t) = 0 from fun t ht => by
      rcases Nat.lt_or_ge t j with h | h
      ·exact HJ.out t h
      ·obtain rfl : t = j := by omega
       exact HX.out.trans HE.out)
     have hbn := hb26
     go_wp2
     go_roundw
     case rel => exact ⟨j + 1, by omega, by go_num, hbn, HJ2⟩
     case measure => simp [intOf]; omega
   ·obtain rfl : j = nv := by omega
    have HE := Lib.hid (show R = (0, 0) by rw [HRF.out]; exact frF_no HJ.out)
    have hbn := HBw.out
    go_wp2
    go_ret2
    exact ⟨by rw [HE.out]; rfl, hbn⟩
theorem dayS_size {form day : Int} (hf : formW form ≠ 0) (hd : 1 <= day /\ day <= 3652059) : ((dayS form day).size : Int) = formW form := by
 obtain ⟨⟨y1, y2⟩, ⟨m1, m2⟩, ⟨d1, d2⟩, -, -, -⟩ := (dateC_is hd).facts
 have hZ := dateC_is (thu_bd hd.1 hd.2)
 obtain ⟨⟨z1, z2⟩, -, -, -, b1, b2⟩ := hZ.facts
 have hw := wk_bd b1 b2
 unfold dayS dtS
 generalize (dateC day).1 = y at *
 generalize (dateC day).2.1 = m at *
 generalize (dateC day).2.2 = d at *
 generalize (dateC (thu day)).1 = z at *
 have s0 : (padS y 4).size = 4 := padS_size (by omega) (by omega)
 have s1 : (padS m 2).size = 2 := padS_size (by omega) (by omega)
 have s2 : (padS d 2).size = 2 := padS_size (by omega) (by omega)
 have s3 : (padS z 4).size = 4 := padS_size (by omega) (by omega)
 have s4 : (padS (wk day z) 2).size = 2 := padS_size (by omega) (by omega)
 have s5 : (padS ((day - 1) % 7 + 1) 1).size = 1 := padS_size (by omega) (by omega)
 have s6 : (⟨#[45]⟩ : ByteArray).size = 1 := rfl
 unfold formW at hf ⊢
 have : form = 1 ∨ form = 3 ∨ form = 4 ∨ form = 5 := by
  split at hf
  ·omega
  ·split at hf
   ·omega
   ·split at hf
    ·omega
    ·exact absurd rfl hf
 rcases this with rfl | rfl | rfl | rfl <;> simp [ByteArray.size_append, s0, s1, s2, s3, s4, s5, s6]
theorem run_rune6 (x : Int) (w : World) (h : 0 <= x /\ x < 128) : (convert 5 21 (.int .u8 x)).run Tryz.prog w = .ok (.int .i32 x) w := by
 go_simp
 exact IntWalk.i32_in _ (by omega)
theorem run_enc6 {x : Int} {r : ByteArray} (h : Utf8.encode x = r) (w : World) : (convert 21 9 (.int .i32 x)).run Tryz.prog w = .ok (.string r) w := by
 rw [<- h]; exact run_convert_int_string _ _ _ _ _ (by kernel_rfl) (by kernel_rfl)
theorem rep_bs (b : UInt8) (k : Nat) : (⟨(Lib.repeatL (⟨#[b]⟩ : ByteArray).data.toList k).toArray⟩ : ByteArray) = bs (List.replicate k b) := by
 show (⟨(Lib.repeatL [b] k).toArray⟩ : ByteArray) = _
 rw [rep_one]
 rfl
theorem repeat_c (b : UInt8) (k : Nat) (w : World) (hk : k <= 1000) : Calls Tryz.prog 104 #[.string ⟨#[b]⟩, .int .i64 (k : Int)] w fun e w' => e = .returned (.string (bs (List.replicate k b))) /\ Below w.heap.size w w' := by
 refine (Tryz.strings_Repeat ⟨#[b]⟩ k w (by omega) (by show 1 * k <= _; omega)).mono ?_
 rintro e w' ⟨rfl, hb⟩
 exact ⟨by rw [rep_bs], hb⟩
theorem bs_cat (x y : ByteArray) (l l' : List UInt8) (hx : x.data.toList = l) (hy : y.data.toList = l') : x ++ y = bs (l ++ l') := by
 refine (bs_self _).symm.trans (congrArg bs ?_)
 rw [ByteArray.data_append, Array.toList_append, hx, hy]
theorem frF_zero {g : Nat -> Int} : ∀ {n : Nat}, (frF g n).2 = 0 -> ∀ j, j < n -> g j = 0
 | 0, _, j, hj => absurd hj (Nat.not_lt_zero _)
 | n + 1, h, j, hj => by
  unfold frF at h
  split at h
  ·rename_i h2
   split at h
   ·rename_i h3
    rcases Nat.lt_or_ge j n with h4 | h4
    ·exact frF_zero h2 j h4
    ·obtain rfl : j = n := by omega
     exact h3
   ·rename_i h3; exact absurd h h3
  ·rename_i h2; exact absurd h h2
structure RowK (f : Fmt) (r : RowP) : Prop where
 kind : 0 <= katI f r.tag
 many : r.vals.length = (katK f r.tag).fields.length
 vals : ∀ j, j < (katK f r.tag).fields.length -> valF f.mark f.quote (cA (katK f r.tag).fields j) (wd r.vals j) = 0
theorem rowF_ok {f : Fmt} {r : RowP} (h : (rowF f r).2 = 0) : RowK f r := by
 unfold rowF at h
 split at h
 ·cases h
 rename_i h1
 split at h
 ·cases h
 rename_i h2
 exact ⟨by omega, Classical.byContradiction h2, frF_zero h⟩
theorem valF_ok {m q : Int} {c : Col} {s : ByteArray} (hw : 0 <= c.width) (h : valF m q c s = 0) : (s ≠ ⟨#[]⟩ -> valOk c s.data.toList = true) /\ ((wrS m c s).size : Int) <= c.width := by
 unfold valF at h
 split at h
 ·rename_i h0
  refine ⟨fun k => absurd h0 k, ?_⟩
  unfold wrS
  rw [if_pos h0]
  exact hw
 split at h
 ·cases h
 rename_i h1
 split at h
 ·cases h
 rename_i h2
 exact ⟨fun _ => by cases hv : valOk c s.data.toList with | true => rfl | false => exact absurd hv h1, by omega⟩
theorem bs_size2 (l : List UInt8) : (bs l).size = l.length := by show l.toArray.size = _; simp
theorem data_len (x : ByteArray) : x.data.toList.length = x.size := by simp
theorem keep_heap {B : Nat} {w w' : World} {g : Nat} {o : Obj} (h : w.heap[g]? = some o) (hb : Below B w w') (hg : g < B) : w'.heap[g]? = some o := (hb.block g hg).trans h
def row0 : RowP := ⟨⟨#[]⟩, []⟩
def rA (rs : List RowP) (j : Nat) : RowP := rs.getD j row0
theorem rA_get {rs : List RowP} {j : Nat} (h : j < rs.length) : rs[j] = rA rs j := by simp [rA, List.getD_eq_getElem?_getD, h]
noncomputable def rowsF (f : Fmt) (rs : List RowP) : Int × Int := frF (fun j => (rowF f (rA rs j)).2) rs.length
noncomputable def askF (f : Fmt) (rs : List RowP) : Int := if checkF f ≠ 0 then checkF f else if 2000 < rs.length then 2 else (rowsF f rs).2
theorem askF_ok {f : Fmt} {rs : List RowP} (h : askF f rs = 0) : checkF f = 0 /\ rs.length <= 2000 /\ ∀ j, j < rs.length -> RowK f (rA rs j) := by
 unfold askF at h
 split at h
 ·rename_i h1; exact absurd h h1
 rename_i h1
 split at h
 ·cases h
 rename_i h2
 exact ⟨Classical.byContradiction h1, by omega, fun j hj => rowF_ok (frF_zero (g := fun j => (rowF f (rA rs j)).2) h j hj)⟩
def rowV (rs : List RowP) (RA : Nat -> Option Addr) (RC : Nat -> Nat) (j i : Nat) : Value :=
 match i with
 | 0 => .string (rA rs j).tag
 | _ => .slice (RA j) (rA rs j).vals.length (RC j)
structure RowsM (w : World) (L : Option Addr) (rs : List RowP) (RA : Nat -> Option Addr) (RC : Nat -> Nat) : Prop where
 rows : Rws w L 2 rs.length (rowV rs RA RC)
 each : ∀ j, j < rs.length -> RowM w (rA rs j) (RA j) (RC j)
 len : rs.length <= 9223372036854775807
theorem RowsM.below {w w' : World} {L : Option Addr} {rs : List RowP} {RA : Nat -> Option Addr} {RC : Nat -> Nat} (h : RowsM w L rs RA RC) (hb : Below w.heap.size w w') : RowsM w' L rs RA RC :=
 ⟨h.rows.below hb, fun j hj => (h.each j hj).below hb, h.len⟩
theorem RowsM.cells {w : World} {L : Option Addr} {rs : List RowP} {RA : Nat -> Option Addr} {RC : Nat -> Nat} (h : RowsM w L rs RA RC) {j : Nat} (hj : j < rs.length) :
  ∃ b off, L = some ⟨b, off, none⟩ /\ b < w.heap.size /\ w.cell? ⟨b, off + j * 2, none⟩ = some (.string (rA rs j).tag) /\ w.cell? ⟨b, off + j * 2 + 1, none⟩ = some (.slice (RA j) (rA rs j).vals.length (RC j)) := by
 obtain ⟨b, off, e, hb, hc⟩ := h.rows.get hj
 exact ⟨b, off, e, hb, hc 0 (by decide), hc 1 (by decide)⟩
set_option maxHeartbeats 4000000 in
set_option maxRecDepth 100000 in
theorem chkrows_c (f : Fmt) (A : Option Addr) (cp : Nat) (FA : Nat -> Option Addr) (FC : Nat -> Nat) (L : Option Addr) (LC : Nat) (rs : List RowP) (RA : Nat -> Option Addr) (RC : Nat -> Nat) (w : World) (ho : Kinds w A f.kinds FA FC) (hl : RowsM w L rs RA RC) (hcp : f.kinds.length <= cp) (hf : checkF f = 0) (hm : 0 <= f.mark /\ f.mark <= 255) (ht : Tab w) :
  Calls Tryz.prog 23 #[fmtG f A cp, .slice L rs.length LC] w (RetNF (rowsF f rs).1 (rowsF f rs).2 w) := by
 have HCR := Lib.hid (fun j w h h2 ht => checkrow_c f A cp FA FC (rA rs j) (RA j) (RC j) w h h2 hf hm ht)
 have HKI := Lib.hid ho; have HLM := Lib.hid hl; have HTB := Lib.hid ht
 obtain ⟨R, hR⟩ : ∃ x, rowsF f rs = x := ⟨_, rfl⟩
 have HR := Lib.hid (show frF (fun j => (rowF f (rA rs j)).2) rs.length = R from hR)
 rw [hR]
 have hnr := hl.len
 clear ho hl ht hf hR
 obtain ⟨m, q, ks, hd, tl, ct, sm⟩ := f
 unfold fmtG at HCR ⊢
 simp only at HCR HKI hcp ⊢
 obtain ⟨n, hn⟩ : ∃ x, ks.length = x := ⟨_, rfl⟩
 rw [hn] at HCR hcp ⊢
 clear hn
 have hF0 := heap_new w (.cells #[.int .u8 m, .int .u8 q, .slice A n cp, .string hd, .string tl, .string ct, .string sm] 24) rfl
 have hB0 : Below w.heap.size w (w.alloc (.cells #[.int .u8 m, .int .u8 q, .slice A n cp, .string hd, .string tl, .string ct, .string sm] 24)) := by go_grown
 obtain ⟨nr, hnr2⟩ : ∃ x, rs.length = x := ⟨_, rfl⟩
 have HNR := Lib.hid hnr2
 rw [hnr2] at HR hnr ⊢
 clear hnr2
 go_enter Tryz.func23, Tryz.ntmps23
 obtain ⟨⟨f0, f1, f2, f3, f4, f5, f6⟩, f7⟩ := obox7 hF0
 have HF0 := Lib.hid hF0; have HB0 := Lib.hid hB0
 go_upto_region 1 with fail
 generalize w.alloc (.cells #[.int .u8 m, .int .u8 q, .slice A n cp, .string hd, .string tl, .string ct, .string sm] 24) = w1 at f0 f1 f2 f3 f4 f5 f6 f7 HF0 HB0 hB0 hF0 ⊢
 have hz1 := hB0.size
 clear f0 f1 f2 f3 f4 f5 f6 f7 hF0 hB0
 go_wp2_with fail
 go_loopw [12] (fun i wr => ∃ j : Nat, j <= nr /\ i = .int .i64 j /\ Hid (Below w1.heap.size w1 wr) /\ Hid (∀ t, t < j -> (rowF ⟨m, q, ks, hd, tl, ct, sm⟩ (rA rs t)).2 = 0)) (fun i _ => nr - (intOf i).toNat)
 case atStart => exact ⟨0, Nat.zero_le _, rfl, Lib.hid (Below.refl _ _), Lib.hid (fun t h => absurd h (Nat.not_lt_zero _))⟩
 case round =>
  obtain ⟨j, hj, rfl, HB, HJ⟩ := hrel
  have HBW := Lib.hid (below_then HB.out HB0.out hz1)
  have hzr := HB.out.size
  rcases Nat.lt_or_ge j nr with hlt | hge
  ·obtain ⟨b, off, rfl, hbw, c0, c1⟩ := (HLM.out.below HBW.out).cells (j := j) (by rw [HNR.out]; exact hlt)
   have HRJ := Lib.hid ((HLM.out.below HBW.out).each j (by rw [HNR.out]; exact hlt))
   have HCJ := Lib.hid (fun w h h2 ht => HCR.out j w h h2 ht)
   obtain ⟨r, hr⟩ : ∃ x, rA rs j = x := ⟨_, rfl⟩
   obtain ⟨RJ, hRJ⟩ : ∃ x, RA j = x := ⟨_, rfl⟩
   obtain ⟨CJ, hCJ⟩ : ∃ x, RC j = x := ⟨_, rfl⟩
   obtain ⟨⟨x, e⟩, hX⟩ : ∃ y, rowF ⟨m, q, ks, hd, tl, ct, sm⟩ r = y := ⟨_, rfl⟩
   have HX := Lib.hid (show (rowF ⟨m, q, ks, hd, tl, ct, sm⟩ (rA rs j)).2 = e by rw [hr, hX])
   rw [hr, hRJ, hCJ] at HCJ HRJ
   rw [hr] at c0
   rw [hr, hRJ, hCJ] at c1
   rw [hX] at HCJ
   unfold RetNF at HCJ
   clear hr hRJ hCJ hX
   obtain ⟨tg, vs⟩ := r
   unfold rowG at HCJ
   simp only at HCJ c0 c1
   obtain ⟨nv, hnv⟩ : ∃ x, vs.length = x := ⟨_, rfl⟩
   rw [hnv] at HCJ c1
   clear hnv
   have hF5 := heap_old (keep_heap HF0.out HB.out (lt_heap HF0.out)) (.cells #[.string tg, .slice RJ nv CJ] 49)
   have hR5 := heap_new wr (.cells #[.string tg, .slice RJ nv CJ] 49) rfl
   have hb5 : Below wr.heap.size wr (wr.alloc (.cells #[.string tg, .slice RJ nv CJ] 49)) := by go_grown
   go_upto_region 4 with fail
   obtain ⟨rn, hrn⟩ : ∃ x, wr.heap.size = x := ⟨_, rfl⟩
   rw [hrn] at hR5 ⊢
   have hb15 := below_then hb5 HB.out hzr
   generalize wr.alloc (.cells #[.string tg, .slice RJ nv CJ] 49) = w5 at hF5 hR5 hb5 hb15 ⊢
   have HBW5 := Lib.hid (below_then hb5 HBW.out HBW.out.size)
   obtain ⟨⟨f0, f1, f2, f3, f4, f5, f6⟩, f7⟩ := obox7 hF5
   obtain ⟨r0, r1, -, -, r2⟩ := box2 hR5
   have HRJ5 := Lib.hid (HRJ.out.below hb5)
   clear c0 c1 hF5 hR5 hrn hbw hb5
   go_wp2_with fail
   refine (HCJ.out _ (HKI.out.below HBW5.out) HRJ5.out (HTB.out.below HBW5.out)).mono ?_
   rintro _ w6 ⟨rfl, hb6⟩
   have HB6 := Lib.hid (below_then hb6 hb15 hb15.size)
   clear f0 f1 f2 f3 f4 f5 f6 f7 r0 r1 r2 hb6 hb15
   by_cases h0 : e = 0
   ·subst h0
    have HJ2 := Lib.hid (show ∀ t, t < j + 1 -> (rowF ⟨m, q, ks, hd, tl, ct, sm⟩ (rA rs t)).2 = 0 from fun t ht => by
     rcases Nat.lt_or_ge t j with h | h
     ·exact HJ.out t h
     ·obtain rfl : t = j := by omega
      exact HX.out)
    go_wp2
    go_roundw
    case rel => exact ⟨j + 1, by omega, by go_num, HB6, HJ2⟩
    case measure => simp [intOf]; omega
   ·have HE := Lib.hid (show R = ((j : Int), e) by rw [<- HR.out, frF_hit (j := j) HJ.out (by show (rowF _ _).2 ≠ 0; rw [HX.out]; exact h0) hlt]; exact congrArg _ HX.out)
    have h0a : (e != 0) = true := by simpa using h0
    have hbn := below_then HB6.out HB0.out hz1
    clear h0
    go_wp2
    go_ret2
    exact ⟨by rw [HE.out]; rfl, hbn⟩
  ·obtain rfl : j = nr := by omega
   have HE := Lib.hid (show R = (0, 0) by rw [<- HR.out]; exact frF_no HJ.out)
   have hbn := HBW.out
   go_wp2
   go_ret2
   exact ⟨by rw [HE.out]; rfl, hbn⟩
set_option maxHeartbeats 4000000 in
set_option maxRecDepth 100000 in
theorem rchkrows_c (f : Fmt) (A : Option Addr) (cp : Nat) (FA : Nat -> Option Addr) (FC : Nat -> Nat) (L : Option Addr) (LC : Nat) (rs : List RowP) (RA : Nat -> Option Addr) (RC : Nat -> Nat) (w : World) (ho : Kinds w A f.kinds FA FC) (hl : RowsM w L rs RA RC) (hcp : f.kinds.length <= cp) (hf : checkF f = 0) (hm : 0 <= f.mark /\ f.mark <= 255) (ht : Tab w) :
  Calls Tryz.prog 29 #[fmtG f A cp, .slice L rs.length LC] w (RetNF (rowsF f rs).1 (rowsF f rs).2 w) := by
 have HCR := Lib.hid (fun j w h h2 ht => rcheckrow_c f A cp FA FC (rA rs j) (RA j) (RC j) w h h2 hcp hf hm ht)
 have HKI := Lib.hid ho; have HLM := Lib.hid hl; have HTB := Lib.hid ht
 obtain ⟨R, hR⟩ : ∃ x, rowsF f rs = x := ⟨_, rfl⟩
 have HR := Lib.hid (show frF (fun j => (rowF f (rA rs j)).2) rs.length = R from hR)
 rw [hR]
 have hnr := hl.len
 clear ho hl ht hf hR
 obtain ⟨m, q, ks, hd, tl, ct, sm⟩ := f
 unfold fmtG at HCR ⊢
 simp only at HCR HKI hcp ⊢
 obtain ⟨n, hn⟩ : ∃ x, ks.length = x := ⟨_, rfl⟩
 rw [hn] at HCR hcp ⊢
 clear hn
 have hF0 := heap_new w (.cells #[.int .u8 m, .int .u8 q, .slice A n cp, .string hd, .string tl, .string ct, .string sm] 24) rfl
 have hB0 : Below w.heap.size w (w.alloc (.cells #[.int .u8 m, .int .u8 q, .slice A n cp, .string hd, .string tl, .string ct, .string sm] 24)) := by go_grown
 obtain ⟨nr, hnr2⟩ : ∃ x, rs.length = x := ⟨_, rfl⟩
 have HNR := Lib.hid hnr2
 rw [hnr2] at HR hnr ⊢
 clear hnr2
 go_enter Tryz.func29, Tryz.ntmps29
 obtain ⟨⟨f0, f1, f2, f3, f4, f5, f6⟩, f7⟩ := obox7 hF0
 have HF0 := Lib.hid hF0; have HB0 := Lib.hid hB0
 go_upto_region 1 with fail
 generalize w.alloc (.cells #[.int .u8 m, .int .u8 q, .slice A n cp, .string hd, .string tl, .string ct, .string sm] 24) = w1 at f0 f1 f2 f3 f4 f5 f6 f7 HF0 HB0 hB0 hF0 ⊢
 have hz1 := hB0.size
 clear f0 f1 f2 f3 f4 f5 f6 f7 hF0 hB0
 go_wp2_with fail
 go_loopw [12] (fun i wr => ∃ j : Nat, j <= nr /\ i = .int .i64 j /\ Hid (Below w1.heap.size w1 wr) /\ Hid (∀ t, t < j -> (rowF ⟨m, q, ks, hd, tl, ct, sm⟩ (rA rs t)).2 = 0)) (fun i _ => nr - (intOf i).toNat)
 case atStart => exact ⟨0, Nat.zero_le _, rfl, Lib.hid (Below.refl _ _), Lib.hid (fun t h => absurd h (Nat.not_lt_zero _))⟩
 case round =>
  obtain ⟨j, hj, rfl, HB, HJ⟩ := hrel
  have HBW := Lib.hid (below_then HB.out HB0.out hz1)
  have hzr := HB.out.size
  rcases Nat.lt_or_ge j nr with hlt | hge
  ·obtain ⟨b, off, rfl, hbw, c0, c1⟩ := (HLM.out.below HBW.out).cells (j := j) (by rw [HNR.out]; exact hlt)
   have HRJ := Lib.hid ((HLM.out.below HBW.out).each j (by rw [HNR.out]; exact hlt))
   have HCJ := Lib.hid (fun w h h2 ht => HCR.out j w h h2 ht)
   obtain ⟨r, hr⟩ : ∃ x, rA rs j = x := ⟨_, rfl⟩
   obtain ⟨RJ, hRJ⟩ : ∃ x, RA j = x := ⟨_, rfl⟩
   obtain ⟨CJ, hCJ⟩ : ∃ x, RC j = x := ⟨_, rfl⟩
   obtain ⟨⟨x, e⟩, hX⟩ : ∃ y, rowF ⟨m, q, ks, hd, tl, ct, sm⟩ r = y := ⟨_, rfl⟩
   have HX := Lib.hid (show (rowF ⟨m, q, ks, hd, tl, ct, sm⟩ (rA rs j)).2 = e by rw [hr, hX])
   rw [hr, hRJ, hCJ] at HCJ HRJ
   rw [hr] at c0
   rw [hr, hRJ, hCJ] at c1
   rw [hX] at HCJ
   unfold RetNF at HCJ
   clear hr hRJ hCJ hX
   obtain ⟨tg, vs⟩ := r
   unfold rowG at HCJ
   simp only at HCJ c0 c1
   obtain ⟨nv, hnv⟩ : ∃ x, vs.length = x := ⟨_, rfl⟩
   rw [hnv] at HCJ c1
   clear hnv
   have hF5 := heap_old (keep_heap HF0.out HB.out (lt_heap HF0.out)) (.cells #[.string tg, .slice RJ nv CJ] 49)
   have hR5 := heap_new wr (.cells #[.string tg, .slice RJ nv CJ] 49) rfl
   have hb5 : Below wr.heap.size wr (wr.alloc (.cells #[.string tg, .slice RJ nv CJ] 49)) := by go_grown
   go_upto_region 4 with fail
   obtain ⟨rn, hrn⟩ : ∃ x, wr.heap.size = x := ⟨_, rfl⟩
   rw [hrn] at hR5 ⊢
   have hb15 := below_then hb5 HB.out hzr
   generalize wr.alloc (.cells #[.string tg, .slice RJ nv CJ] 49) = w5 at hF5 hR5 hb5 hb15 ⊢
   have HBW5 := Lib.hid (below_then hb5 HBW.out HBW.out.size)
   obtain ⟨⟨f0, f1, f2, f3, f4, f5, f6⟩, f7⟩ := obox7 hF5
   obtain ⟨r0, r1, -, -, r2⟩ := box2 hR5
   have HRJ5 := Lib.hid (HRJ.out.below hb5)
   clear c0 c1 hF5 hR5 hrn hbw hb5
   go_wp2_with fail
   refine (HCJ.out _ (HKI.out.below HBW5.out) HRJ5.out (HTB.out.below HBW5.out)).mono ?_
   rintro _ w6 ⟨rfl, hb6⟩
   have HB6 := Lib.hid (below_then hb6 hb15 hb15.size)
   clear f0 f1 f2 f3 f4 f5 f6 f7 r0 r1 r2 hb6 hb15
   by_cases h0 : e = 0
   ·subst h0
    have HJ2 := Lib.hid (show ∀ t, t < j + 1 -> (rowF ⟨m, q, ks, hd, tl, ct, sm⟩ (rA rs t)).2 = 0 from fun t ht => by
     rcases Nat.lt_or_ge t j with h | h
     ·exact HJ.out t h
     ·obtain rfl : t = j := by omega
      exact HX.out)
    go_wp2
    go_roundw
    case rel => exact ⟨j + 1, by omega, by go_num, HB6, HJ2⟩
    case measure => simp [intOf]; omega
   ·have HE := Lib.hid (show R = ((j : Int), e) by rw [<- HR.out, frF_hit (j := j) HJ.out (by show (rowF _ _).2 ≠ 0; rw [HX.out]; exact h0) hlt]; exact congrArg _ HX.out)
    have h0a : (e != 0) = true := by simpa using h0
    have hbn := below_then HB6.out HB0.out hz1
    clear h0
    go_wp2
    go_ret2
    exact ⟨by rw [HE.out]; rfl, hbn⟩
  ·obtain rfl : j = nr := by omega
   have HE := Lib.hid (show R = (0, 0) by rw [<- HR.out]; exact frF_no HJ.out)
   have hbn := HBW.out
   go_wp2
   go_ret2
   exact ⟨by rw [HE.out]; rfl, hbn⟩
set_option maxHeartbeats 2000000 in
set_option maxRecDepth 100000 in
theorem rowsfault_c (f : Fmt) (A : Option Addr) (cp : Nat) (FA : Nat -> Option Addr) (FC : Nat -> Nat) (L : Option Addr) (LC : Nat) (rs : List RowP) (RA : Nat -> Option Addr) (RC : Nat -> Nat) (w : World) (ho : Kinds w A f.kinds FA FC) (hl : RowsM w L rs RA RC) (hcp : f.kinds.length <= cp) (hm : 0 <= f.mark /\ f.mark <= 255) (hq : 0 <= f.quote /\ f.quote <= 255) (ht : Tab w) :
  Calls Tryz.prog 19 #[fmtG f A cp, .slice L rs.length LC] w (RetI (askF f rs) w) := by
 have HCH := Lib.hid (fun w h => check_c f A cp FA FC w h hcp hm hq)
 have HCR := Lib.hid (fun hf w h h2 ht => chkrows_c f A cp FA FC L LC rs RA RC w h h2 hcp hf hm ht)
 have HKI := Lib.hid ho; have HLM := Lib.hid hl; have HTB := Lib.hid ht
 obtain ⟨X, hX⟩ : ∃ x, checkF f = x := ⟨_, rfl⟩
 obtain ⟨⟨i, e⟩, hY⟩ : ∃ x, rowsF f rs = x := ⟨_, rfl⟩
 obtain ⟨R, hR⟩ : ∃ x, askF f rs = x := ⟨_, rfl⟩
 have HR := Lib.hid (show (if X ≠ 0 then X else if 2000 < rs.length then 2 else e) = R by rw [<- hR]; unfold askF; rw [hX, hY])
 rw [hX] at HCH HCR
 rw [hY] at HCR
 rw [hR]
 unfold RetNF at HCR
 unfold RetI at HCH
 simp only at HCR
 have hnr := hl.len
 clear ho hl ht hX hY hR
 obtain ⟨m, q, ks, hd, tl, ct, sm⟩ := f
 unfold fmtG at HCH HCR ⊢
 simp only at HCH HCR HKI hcp ⊢
 obtain ⟨n, hn⟩ : ∃ x, ks.length = x := ⟨_, rfl⟩
 rw [hn] at HCH HCR hcp ⊢
 clear hn
 have hF0 := heap_new w (.cells #[.int .u8 m, .int .u8 q, .slice A n cp, .string hd, .string tl, .string ct, .string sm] 24) rfl
 have hB0 : Below w.heap.size w (w.alloc (.cells #[.int .u8 m, .int .u8 q, .slice A n cp, .string hd, .string tl, .string ct, .string sm] 24)) := by go_grown
 obtain ⟨nr, hnr2⟩ : ∃ x, rs.length = x := ⟨_, rfl⟩
 rw [hnr2] at HCR HR hnr ⊢
 clear hnr2
 go_enter Tryz.func19, Tryz.ntmps19
 obtain ⟨⟨f0, f1, f2, f3, f4, f5, f6⟩, f7⟩ := obox7 hF0
 go_wp2_with fail
 refine (HCH.out _ (HKI.out.below hB0)).mono ?_
 rintro _ w2 ⟨rfl, hb2⟩
 have hF2 := heap_below hF0 hb2
 have hB2 := below_then hb2 hB0 hB0.size
 clear hF0 hb2 f0 f1 f2 f3 f4 f5 f6 f7 hB0
 obtain ⟨⟨f0, f1, f2, f3, f4, f5, f6⟩, f7⟩ := obox7 hF2
 by_cases h0 : X = 0
 ·subst h0
  by_cases h1 : 2000 < nr
  ·have HE := Lib.hid (show R = 2 by rw [<- HR.out, if_neg (by simp), if_pos h1])
   have h1a : (2000 : Int) < (nr : Int) := by omega
   clear h1
   go_wp2
   go_ret
   exact ⟨by rw [HE.out]; rfl, hB2⟩
  ·have HE := Lib.hid (show R = e by rw [<- HR.out, if_neg (by simp), if_neg h1])
   have h1a : ¬ (2000 : Int) < (nr : Int) := by omega
   clear h1
   go_wp2_with fail
   refine (HCR.out trivial _ (HKI.out.below hB2) (HLM.out.below hB2) (HTB.out.below hB2)).mono ?_
   rintro _ w3 ⟨rfl, hb3⟩
   have hB3 := below_then hb3 hB2 hB2.size
   go_wp2
   go_ret
   exact ⟨by rw [HE.out]; rfl, hB3⟩
 ·have HE := Lib.hid (show R = X by rw [<- HR.out, if_pos h0])
  have h0a : (X != 0) = true := by simpa using h0
  clear h0
  go_wp2
  go_ret
  exact ⟨by rw [HE.out]; rfl, hB2⟩
set_option maxHeartbeats 2000000 in
set_option maxRecDepth 100000 in
theorem askrows_c (f : Fmt) (A : Option Addr) (cp : Nat) (FA : Nat -> Option Addr) (FC : Nat -> Nat) (L : Option Addr) (LC : Nat) (rs : List RowP) (RA : Nat -> Option Addr) (RC : Nat -> Nat) (w : World) (ho : Kinds w A f.kinds FA FC) (hl : RowsM w L rs RA RC) (hcp : f.kinds.length <= cp) (hm : 0 <= f.mark /\ f.mark <= 255) (hq : 0 <= f.quote /\ f.quote <= 255) (ht : Tab w) :
  Calls Tryz.prog 25 #[fmtG f A cp, .slice L rs.length LC] w (RetI (askF f rs) w) := by
 have HCH := Lib.hid (fun w h => rcheck_c f A cp FA FC w h hcp hm hq)
 have HCR := Lib.hid (fun hf w h h2 ht => rchkrows_c f A cp FA FC L LC rs RA RC w h h2 hcp hf hm ht)
 have HKI := Lib.hid ho; have HLM := Lib.hid hl; have HTB := Lib.hid ht
 obtain ⟨X, hX⟩ : ∃ x, checkF f = x := ⟨_, rfl⟩
 obtain ⟨⟨i, e⟩, hY⟩ : ∃ x, rowsF f rs = x := ⟨_, rfl⟩
 obtain ⟨R, hR⟩ : ∃ x, askF f rs = x := ⟨_, rfl⟩
 have HR := Lib.hid (show (if X ≠ 0 then X else if 2000 < rs.length then 2 else e) = R by rw [<- hR]; unfold askF; rw [hX, hY])
 rw [hX] at HCH HCR
 rw [hY] at HCR
 rw [hR]
 unfold RetNF at HCR
 unfold RetI at HCH
 simp only at HCR
 have hnr := hl.len
 clear ho hl ht hX hY hR
 obtain ⟨m, q, ks, hd, tl, ct, sm⟩ := f
 unfold fmtG at HCH HCR ⊢
 simp only at HCH HCR HKI hcp ⊢
 obtain ⟨n, hn⟩ : ∃ x, ks.length = x := ⟨_, rfl⟩
 rw [hn] at HCH HCR hcp ⊢
 clear hn
 have hF0 := heap_new w (.cells #[.int .u8 m, .int .u8 q, .slice A n cp, .string hd, .string tl, .string ct, .string sm] 24) rfl
 have hB0 : Below w.heap.size w (w.alloc (.cells #[.int .u8 m, .int .u8 q, .slice A n cp, .string hd, .string tl, .string ct, .string sm] 24)) := by go_grown
 obtain ⟨nr, hnr2⟩ : ∃ x, rs.length = x := ⟨_, rfl⟩
 rw [hnr2] at HCR HR hnr ⊢
 clear hnr2
 go_enter Tryz.func25, Tryz.ntmps25
 obtain ⟨⟨f0, f1, f2, f3, f4, f5, f6⟩, f7⟩ := obox7 hF0
 go_wp2_with fail
 refine (HCH.out _ (HKI.out.below hB0)).mono ?_
 rintro _ w2 ⟨rfl, hb2⟩
 have hF2 := heap_below hF0 hb2
 have hB2 := below_then hb2 hB0 hB0.size
 clear hF0 hb2 f0 f1 f2 f3 f4 f5 f6 f7 hB0
 obtain ⟨⟨f0, f1, f2, f3, f4, f5, f6⟩, f7⟩ := obox7 hF2
 by_cases h0 : X = 0
 ·subst h0
  by_cases h1 : 2000 < nr
  ·have HE := Lib.hid (show R = 2 by rw [<- HR.out, if_neg (by simp), if_pos h1])
   have h1a : (2000 : Int) < (nr : Int) := by omega
   clear h1
   go_wp2
   go_ret
   exact ⟨by rw [HE.out]; rfl, hB2⟩
  ·have HE := Lib.hid (show R = e by rw [<- HR.out, if_neg (by simp), if_neg h1])
   have h1a : ¬ (2000 : Int) < (nr : Int) := by omega
   clear h1
   go_wp2_with fail
   refine (HCR.out trivial _ (HKI.out.below hB2) (HLM.out.below hB2) (HTB.out.below hB2)).mono ?_
   rintro _ w3 ⟨rfl, hb3⟩
   have hB3 := below_then hb3 hB2 hB2.size
   go_wp2
   go_ret
   exact ⟨by rw [HE.out]; rfl, hB3⟩
 ·have HE := Lib.hid (show R = X by rw [<- HR.out, if_pos h0])
  have h0a : (X != 0) = true := by simpa using h0
  clear h0
  go_wp2
  go_ret
  exact ⟨by rw [HE.out]; rfl, hB2⟩
end Go.Proofs.YtaiabjiehpcaoaaGreatDoor
