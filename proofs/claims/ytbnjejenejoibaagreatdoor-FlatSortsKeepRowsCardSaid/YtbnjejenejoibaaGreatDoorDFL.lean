
/- The walk of byKey: rows by tag and key, in a map of its own. -/
import Derived.Test.YtbnjejenejoibaaGreatDoorDFP
import Derived.Test.YtbnjejenejoibaaGreatDoorDFM
import Derived.Test.YtbnjejenejoibaaGreatDoorSQU
namespace Go.Proofs.YtbnjejenejoibaaGreatDoor
open Go.RowKit Limb Nmb Work Go.Maps
set_option linter.unusedVariables false
set_option linter.unusedSimpArgs false
theorem MapK.below {P : Program} {T : TypeId} {w w' : World} {b n : Nat} {m : List (KeyP × Value)} (h : MapK P T w b n m) (hb : Below w.heap.size w w') : MapK P T w' b n m := by
 obtain ⟨D, h1, h2⟩ := h
 have hl := h1.lt
 obtain ⟨es, clock, hh, Ft, hs, hD⟩ := h1
 exact ⟨D, ⟨es, clock, (hb.block b hl).trans hh, Ft, hs, hD⟩, h2⟩
def RetBy (f : Fmt) (name : ByteArray) (rs : List RowP) (RA : Nat -> Option Addr) (RC : Nat -> Nat) (w : World) (e : Ending) (w' : World) : Prop :=
 Below w.heap.size w w' /\ ((oneB (idsF f name rs) = true /\ ∃ b n, e = .returned (.tuple #[.map (some b), .bool true]) /\ w.heap.size <= b /\ n <= rs.length /\ MapK Tryz.prog 73 w' b n (mapI rs RA RC (idxI f name rs rs.length)))
  ∨ (oneB (idsF f name rs) = false /\ e = .returned (.tuple #[.map none, .bool false])))
theorem idR_bad {f : Fmt} {name : ByteArray} {r : RowP} {K : RKd} (hK : katK f r.tag = K) (h : ixF (nameIs name) K.fields < 0 ∨ wd r.vals (ixF (nameIs name) K.fields).toNat = ⟨#[]⟩) : idR f name r = none := by
 unfold idR
 rw [hK, if_pos h]
theorem idR_ok {f : Fmt} {name : ByteArray} {r : RowP} {K : RKd} {ic : Nat} (hK : katK f r.tag = K) (h1 : ixF (nameIs name) K.fields = (ic : Int)) (h : wd r.vals ic ≠ ⟨#[]⟩) : idR f name r = some ⟨r.tag, wd r.vals ic⟩ := by
 unfold idR
 rw [hK, h1, Int.toNat_natCast, if_neg (by rintro (k | k); omega; exact h k)]
set_option maxHeartbeats 8000000 in
set_option maxRecDepth 100000 in
theorem bykey_c (f : Fmt) (A : Option Addr) (cp : Nat) (FA : Nat -> Option Addr) (FC : Nat -> Nat) (L : Option Addr) (LC : Nat) (rs : List RowP) (RA : Nat -> Option Addr) (RC : Nat -> Nat) (name : ByteArray) (w : World) (ho : Kinds w A f.kinds FA FC) (hl : RowsM w L rs RA RC) (hrk : ∀ j, j < rs.length -> RowK f (rA rs j)) (h2000 : rs.length <= 2000) :
  Calls Tryz.prog 30 #[fmtG f A cp, .slice L rs.length LC, .string name] w (RetBy f name rs RA RC w) := by
 have HKA := Lib.hid (fun t w h => kindat_c f A cp FA FC t w h)
 have HCC := Lib.hid (fun t => kat_cases f FA FC t)
 have HKI := Lib.hid ho; have HLM := Lib.hid hl; have HRK := Lib.hid hrk
 have HN0 := Lib.hid (fun j (h : idR f name (rA rs j) = none) => idxI_none h)
 have HS0 := Lib.hid (fun j k (h : idR f name (rA rs j) = some k) => idxI_some h)
 have HT0 := Lib.hid (fun j k (hj : j < rs.length) (h : idR f name (rA rs j) = some k) hm => idxI_twice hj h hm)
 have HO0 := Lib.hid (fun h => idxI_once (f := f) (name := name) (rs := rs) h)
 have HL0 := Lib.hid (fun j => idxI_len f name rs j)
 have HB0 := Lib.hid (fun K r h => idR_bad (f := f) (name := name) (r := r) (K := K) h)
 have HG0 := Lib.hid (fun K r ic h => idR_ok (f := f) (name := name) (r := r) (K := K) (ic := ic) h)
 unfold RetBy
 obtain ⟨O, hO⟩ : ∃ x, oneB (idsF f name rs) = x := ⟨_, rfl⟩
 obtain ⟨IX, hIX⟩ : ∃ x, idxI f name rs = x := ⟨_, rfl⟩
 obtain ⟨ID, hID⟩ : ∃ x, idR f name = x := ⟨_, rfl⟩
 have HIZ := Lib.hid (show IX 0 = [] by rw [<- hIX]; rfl)
 rw [hIX, hID] at HN0 HS0
 rw [hIX, hID, hO] at HT0
 rw [hIX, hO] at HO0
 rw [hIX] at HL0
 rw [hID] at HB0 HG0
 rw [hO, hIX]
 clear ho hl hrk hO hIX hID
 obtain ⟨m, q, ks, hd, tl, ct, sm⟩ := f
 unfold fmtG at HKA ⊢
 simp only at HKA HCC HKI HB0 HG0 ⊢
 obtain ⟨n, hn⟩ : ∃ x, ks.length = x := ⟨_, rfl⟩
 rw [hn] at HKA ⊢
 clear hn
 obtain ⟨nr, hnr⟩ : ∃ x, rs.length = x := ⟨_, rfl⟩
 have HNR := Lib.hid hnr
 rw [hnr] at HT0 HO0 h2000 ⊢
 clear hnr
 have HKK := Lib.hid keysK
 have hmm := @run_makeMap Tryz.prog
 have hF0 := heap_new w (.cells #[.int .u8 m, .int .u8 q, .slice A n cp, .string hd, .string tl, .string ct, .string sm] 24) rfl
 have hB0 : Below w.heap.size w (w.alloc (.cells #[.int .u8 m, .int .u8 q, .slice A n cp, .string hd, .string tl, .string ct, .string sm] 24)) := by go_grown
 go_enter Tryz.func30, Tryz.ntmps30
 go_upto_region 1 with fail
 have hs1 : (w.alloc (.cells #[.int .u8 m, .int .u8 q, .slice A n cp, .string hd, .string tl, .string ct, .string sm] 24)).heap.size = w.heap.size + 1 := by simp
 generalize w.alloc (.cells #[.int .u8 m, .int .u8 q, .slice A n cp, .string hd, .string tl, .string ct, .string sm] 24) = w1 at hF0 hB0 hs1 ⊢
 have HM2 := Lib.hid (MapK.made Tryz.prog 73 w1)
 have HF2 := Lib.hid (heap_old hF0 (.map #[] 0))
 have HB2 : Hid (Below w.heap.size w (w1.alloc (.map #[] 0))) := Lib.hid (hB0.alloc hB0.size _)
 clear hF0 hB0
 go_upto_region 2 with fail
 rw [hs1] at HM2
 try rw [hs1]
 clear hs1 hmm
 generalize w1.alloc (.map #[] 0) = w2 at HM2 HF2 HB2 ⊢
 go_wp2_with fail
 go_loopw [20] (fun i wr => ∃ (j c : Nat), j <= nr /\ i = .int .i64 j /\ c <= j /\ Hid (MapK Tryz.prog 73 wr (w.heap.size + 1) c (mapI rs RA RC (IX j))) /\ Hid (((IX j).map (·.1)).Nodup) /\ Hid (wr.heap[w.heap.size]? = some (.cells #[.int .u8 m, .int .u8 q, .slice A n cp, .string hd, .string tl, .string ct, .string sm] 24 (0, 0))) /\ Hid (Below w.heap.size w wr)) (fun i _ => nr - (intOf i).toNat)
 case atStart => exact ⟨0, 0, Nat.zero_le _, rfl, Nat.le_refl _, by rw [HIZ.out]; exact HM2, by rw [HIZ.out]; exact Lib.hid List.nodup_nil, HF2, HB2⟩
 case round =>
  clear HF2 HM2 HB2
  obtain ⟨j, c, hj, rfl, hc, HM, HND, HF, HB⟩ := hrel
  have hzr := HB.out.size
  rcases Nat.lt_or_ge j nr with hlt | hge
  ·obtain ⟨b, off, rfl, hbw, c0, c1⟩ := (HLM.out.below HB.out).cells (j := j) (by rw [HNR.out]; exact hlt)
   have HRJ := Lib.hid ((HLM.out.below HB.out).each j (by rw [HNR.out]; exact hlt))
   have HRO := Lib.hid (HRK.out j (by rw [HNR.out]; exact hlt))
   have HNJ := Lib.hid (HN0.out j)
   have HSJ := Lib.hid (HS0.out j)
   have HTJ := Lib.hid (fun k => HT0.out j k hlt)
   have HTT := Lib.hid (show rowT rs RA RC j = ((rA rs j).tag, RA j, (rA rs j).vals.length, RC j) from rfl)
   obtain ⟨r, hr⟩ : ∃ x, rA rs j = x := ⟨_, rfl⟩
   obtain ⟨RJ, hRJ⟩ : ∃ x, RA j = x := ⟨_, rfl⟩
   obtain ⟨CJ, hCJ⟩ : ∃ x, RC j = x := ⟨_, rfl⟩
   rw [hr, hRJ, hCJ] at HRJ HTT
   rw [hr] at c0 HRO HNJ HSJ HTJ
   rw [hr, hRJ, hCJ] at c1
   clear hr hRJ hCJ
   have HBJ := Lib.hid (fun K => HB0.out K r)
   have HGJ := Lib.hid (fun K ic => HG0.out K r ic)
   obtain ⟨rt, vs⟩ := r
   have HKJ := Lib.hid (fun w h => HKA.out rt w h)
   have HCJ := Lib.hid (HCC.out rt)
   have hmany := HRO.out.many
   have hkind := HRO.out.kind
   simp only at hmany hkind c0 c1 HBJ HGJ HTT
   obtain ⟨nv, hnv⟩ : ∃ x, vs.length = x := ⟨_, rfl⟩
   have HNV := Lib.hid hnv
   rw [hnv] at c1 hmany HTT
   have HMN := Lib.hid hmany
   clear hmany
   have hnvc : nv <= CJ := by rw [<- hnv]; exact HRJ.out.len.1
   have hnvb := HRJ.out.len.2
   clear hnv
   have hF5 := heap_old HF.out (.cells #[.string rt, .slice RJ nv CJ] 51)
   have hR5 := heap_new wr (.cells #[.string rt, .slice RJ nv CJ] 51) rfl
   have hb5 : Below wr.heap.size wr (wr.alloc (.cells #[.string rt, .slice RJ nv CJ] 51)) := by go_grown
   have HM5 := Lib.hid (HM.out.below hb5)
   go_upto_region 5 with fail
   obtain ⟨rn, hrn⟩ : ∃ x, wr.heap.size = x := ⟨_, rfl⟩
   rw [hrn] at hR5
   try rw [hrn]
   have HB5 := Lib.hid (below_then hb5 HB.out hzr)
   generalize wr.alloc (.cells #[.string rt, .slice RJ nv CJ] 51) = w5 at hF5 hR5 hb5 HM5 HB5 ⊢
   have HF5 := Lib.hid hF5; have HR5 := Lib.hid hR5
   have HRJ5 := Lib.hid (HRJ.out.below hb5)
   obtain ⟨⟨f0, f1, f2, f3, f4, f5, f6⟩, f7⟩ := obox7 hF5
   obtain ⟨r0, r1, -, -, r2⟩ := box2 hR5
   clear c0 c1 hF5 hR5 hrn hbw hb5 HM HF HB HRJ
   go_wp2_with fail
   refine (HKJ.out _ (HKI.out.below HB5.out)).mono ?_
   rintro _ w6 ⟨rfl, hb6⟩
   rcases HCJ.out with ⟨h1, -, -, -⟩ | ⟨k, hk, h1, h2, h3, h4⟩
   ·omega
   have hdec : decide ((0 : Int) <= (k : Int)) = true := decide_eq_true (by omega)
   rw [h1, h2, h3, h4, hdec]
   have hmany := HMN.out
   rw [h2] at hmany
   have HCO := Lib.hid ((HKI.out).2.2 k hk)
   have HCA := Lib.hid (fun w h => colat_c (kA ks k) (FA k) (FC k) name w h)
   have HIX := Lib.hid (ixF_spec (nameIs name) (kA ks k).fields)
   have HBK := Lib.hid (HBJ.out _ h2)
   have HGK := Lib.hid (fun ic => HGJ.out _ ic h2)
   obtain ⟨K, hK⟩ : ∃ x, kA ks k = x := ⟨_, rfl⟩
   rw [hK] at HCO HCA HIX HBK HGK hmany ⊢
   clear h1 h2 h3 h4 hdec hK hk hkind
   obtain ⟨kt, fs, km, ku⟩ := K
   unfold kindG at HCA ⊢
   simp only at HCO HCA HIX HBK HGK hmany ⊢
   obtain ⟨KA, hKA⟩ : ∃ x, FA k = x := ⟨_, rfl⟩
   obtain ⟨KC, hKC⟩ : ∃ x, FC k = x := ⟨_, rfl⟩
   have hnf : fs.length = nv := hmany.symm
   have HNF := Lib.hid hnf
   rw [hKA, hKC] at HCO HCA ⊢
   rw [hnf] at HCO HCA ⊢
   clear hKA hKC hmany hnf
   have HF7 := Lib.hid (heap_old (heap_below HF5.out hb6) (.cells #[.string kt, .slice KA nv KC, .int .i64 km, .string ku] 46))
   have HR7 := Lib.hid (heap_old (heap_below HR5.out hb6) (.cells #[.string kt, .slice KA nv KC, .int .i64 km, .string ku] 46))
   have HK7 := Lib.hid (heap_new w6 (.cells #[.string kt, .slice KA nv KC, .int .i64 km, .string ku] 46) rfl)
   have hb67 : Below w5.heap.size w5 (w6.alloc (.cells #[.string kt, .slice KA nv KC, .int .i64 km, .string ku] 46)) := hb6.alloc hb6.size _
   have HM7 := Lib.hid (HM5.out.below hb67)
   have HRJ7 := Lib.hid (HRJ5.out.below hb67)
   have HB7 := Lib.hid (below_then hb67 HB5.out HB5.out.size)
   clear f0 f1 f2 f3 f4 f5 f6 f7 r0 r1 r2 HF5 HR5 HM5 HB5 HRJ5 hb6 hb67
   go_upto_region 6 with fail
   obtain ⟨k0, hk0⟩ : ∃ x, w6.heap.size = x := ⟨_, rfl⟩
   rw [hk0] at HK7
   try rw [hk0]
   generalize w6.alloc (.cells #[.string kt, .slice KA nv KC, .int .i64 km, .string ku] 46) = w7 at HF7 HR7 HK7 HM7 HRJ7 HB7 ⊢
   clear hk0
   obtain ⟨⟨y0, y1, y2, y3⟩, -, y4⟩ := obox4 HK7.out
   go_wp2_with fail
   refine (HCA.out _ (HCO.out.1.below HB7.out)).mono ?_
   rintro _ w8 ⟨rfl, hb8⟩
   have HF8 := Lib.hid (heap_below HF7.out hb8); have HR8 := Lib.hid (heap_below HR7.out hb8)
   have HM8 := Lib.hid (HM7.out.below hb8); have HRJ8 := Lib.hid (HRJ7.out.below hb8)
   have HB8 := Lib.hid (below_then hb8 HB7.out HB7.out.size)
   clear y0 y1 y2 y3 y4 HF7 HR7 HK7 HM7 HRJ7 HB7 hb8
   obtain ⟨r0, r1, -, -, r2⟩ := box2 HR8.out
   rcases HIX.out with ⟨h1, -⟩ | ⟨ic, hi, h1, -, -⟩
   ·have HIN := Lib.hid (HNJ.out (HBK.out (.inl (by rw [h1]; decide))))
    rw [h1]
    clear h1
    have HM9 := Lib.hid (show MapK Tryz.prog 73 w8 (w.heap.size + 1) c (mapI rs RA RC (IX (j + 1))) by rw [HIN.out]; exact HM8.out)
    have HND9 := Lib.hid (show ((IX (j + 1)).map (·.1)).Nodup by rw [HIN.out]; exact HND.out)
    go_wp2
    go_roundw
    case rel => exact ⟨j + 1, c, by omega, by go_num, by omega, HM9, HND9, HF8, HB8⟩
    case measure => simp [intOf]; omega
   ·have hicv : ic < nv := by rw [<- HNF.out]; exact hi
    obtain ⟨b2, off2, rfl, hbw2, hcs⟩ := HRJ8.out.vals.cells (by show 0 < vs.length; rw [HNV.out]; omega)
    have s0 := hcs ic (by show ic < vs.length; rw [HNV.out]; exact hicv)
    simp only at s0
    have hsz := wd_size HRJ8.out.size ic
    have htz := HRJ8.out.tag
    simp only at hsz htz
    have HBL := Lib.hid (fun (h : wd vs ic = ⟨#[]⟩) => HBK.out (.inr (by rw [h1, Int.toNat_natCast]; exact h)))
    have HGL := Lib.hid (HGK.out ic h1)
    obtain ⟨sv, hs⟩ : ∃ x, wd vs ic = x := ⟨_, rfl⟩
    rw [hs] at s0 hsz HBL HGL
    rw [h1]
    clear h1 hs hcs hi
    have hsv := emp_dec sv
    by_cases h0 : sv = ⟨#[]⟩
    ·have HIN := Lib.hid (HNJ.out (HBL.out h0))
     rw [decide_eq_true h0] at hsv
     clear h0
     have HM9 := Lib.hid (show MapK Tryz.prog 73 w8 (w.heap.size + 1) c (mapI rs RA RC (IX (j + 1))) by rw [HIN.out]; exact HM8.out)
     have HND9 := Lib.hid (show ((IX (j + 1)).map (·.1)).Nodup by rw [HIN.out]; exact HND.out)
     go_wp2
     go_roundw
     case rel => exact ⟨j + 1, c, by omega, by go_num, by omega, HM9, HND9, HF8, HB8⟩
     case measure => simp [intOf]; omega
    rw [decide_eq_false h0] at hsv
    have HIN := Lib.hid (HSJ.out _ (HGL.out h0))
    have HTK := Lib.hid (fun hm => HTJ.out _ (HGL.out h0) hm)
    clear h0
    have HKZ := Lib.hid (show KeyZ ⟨rt, sv⟩ from ⟨htz, hsz⟩)
    go_upto_region 8 with fail
    have HX9 := Lib.hid (show (w8.alloc (.cells #[.string rt, .string sv] 73)).drew.heap[w8.heap.size]? = some (.cells #[.string rt, .string sv] 73 (0, 0)) from heap_new w8 _ rfl)
    have hb9 : Below w8.heap.size w8 (w8.alloc (.cells #[.string rt, .string sv] 73)).drew := by go_grown
    go_region
    have HF9 := Lib.hid (heap_below HF8.out hb9); have HR9 := Lib.hid (heap_below HR8.out hb9); have HM9 := Lib.hid (HM8.out.below hb9); have HB9 := Lib.hid (below_then hb9 HB8.out HB8.out.size)
    obtain ⟨ib, hib⟩ : ∃ x, w8.heap.size = x := ⟨_, rfl⟩
    rw [hib] at HX9
    try rw [hib]
    generalize (w8.alloc (.cells #[.string rt, .string sv] 73)).drew = w9 at HX9 HF9 HR9 HM9 HB9 ⊢
    clear hib hb9 r0 r1 r2 s0 hsv HF8 HR8 HM8 HB8 HRJ8
    obtain ⟨x0, x1, -, -, x2⟩ := box2 HX9.out
    have hzero : (zeroValue 51).run Tryz.prog w9 = .ok (rowE (⟨#[]⟩, none, 0, 0)) w9 := by kernel_rfl
    have hlk := HM9.out.look HKK.out Tryz.underlying68 (z := (⟨#[]⟩, none, 0, 0)) hzero HKZ.out
    clear hzero
    by_cases hin : (⟨rt, sv⟩ : KeyP) ∈ (IX j).map (·.1)
    ·have HE := Lib.hid (HTK.out hin)
     obtain ⟨v, hv, t, a, y, z, rfl⟩ : ∃ v, lookV (mapI rs RA RC (IX j)) ⟨rt, sv⟩ = some v /\ ∃ t a y z, v = rowE (t, a, y, z) := by
      rw [lookV_mapI]
      cases hq : lookI (IX j) ⟨rt, sv⟩ with
      | none => exact absurd hin (lookI_none.1 hq)
      | some i => exact ⟨_, rfl, _, _, _, _, rfl⟩
     rw [hv] at hlk
     simp only [Option.getD_some, Option.isSome_some, keyV, rowE] at hlk
     have HB10 : Hid (Below w.heap.size w (w9.alloc (.cells #[.string t, .slice a y z] 51))) := Lib.hid (HB9.out.alloc HB9.out.size _)
     clear hv hin
     go_wp2
     go_ret2
     exact ⟨HB10.out, .inr ⟨HE.out, rfl⟩⟩
    ·have hv : lookV (mapI rs RA RC (IX j)) ⟨rt, sv⟩ = none := by
      rw [lookV_mapI, lookI_none.2 hin]; rfl
     have HV := Lib.hid hv
     rw [hv] at hlk
     simp only [Option.getD_none, Option.isSome_none, keyV, rowE] at hlk
     have HND9 := Lib.hid (show ((IX (j + 1)).map (·.1)).Nodup by rw [HIN.out]; exact nodup_push HND.out hin)
     clear hv hin HTK
     have HX10 := Lib.hid (heap_old HX9.out (.cells #[.string ⟨#[]⟩, .slice none 0 0] 51))
     have HF10 := Lib.hid (heap_old HF9.out (.cells #[.string ⟨#[]⟩, .slice none 0 0] 51))
     have HR10 := Lib.hid (heap_old HR9.out (.cells #[.string ⟨#[]⟩, .slice none 0 0] 51))
     have hb10 : Below w9.heap.size w9 (w9.alloc (.cells #[.string ⟨#[]⟩, .slice none 0 0] 51)) := by go_grown
     have HM10 := Lib.hid (HM9.out.below hb10)
     have HB10 := Lib.hid (below_then hb10 HB9.out HB9.out.size)
     go_upto_region 10 with fail
     generalize w9.alloc (.cells #[.string ⟨#[]⟩, .slice none 0 0] 51) = w10 at HX10 HF10 HR10 HM10 HB10 ⊢
     clear hlk hb10 x0 x1 x2 HX9 HF9 HR9 HM9 HB9
     obtain ⟨x0, x1, -, -, x2⟩ := box2 HX10.out
     obtain ⟨r0, r1, -, -, r2⟩ := box2 HR10.out
     obtain ⟨D, hown, hHD⟩ := HM10.out
     have HOWN := Lib.hid hown; have HHD := Lib.hid hHD
     have HKY := Lib.hid (HKK.out.of HKZ.out)
     have HVV := Lib.hid (show heldE (rowE (rt, some ⟨b2, off2, none⟩, nv, CJ)) = some (.held (rowE (rt, some ⟨b2, off2, none⟩, nv, CJ)), []) from heldE_mk _)
     have HPUT := Lib.hid (hHD.put HKK.out hown.isMap HKZ.out HV.out (rowE (rt, some ⟨b2, off2, none⟩, nv, CJ)))
     have HIM := Lib.hid (show mapI rs RA RC (IX (j + 1)) = mapI rs RA RC (IX j) ++ [(⟨rt, sv⟩, rowE (rt, some ⟨b2, off2, none⟩, nv, CJ))] by rw [HIN.out, mapI_app, <- HTT.out]; rfl)
     have hlF := lt_heap HF10.out
     clear hown hHD
     simp only [keyV] at HKY
     simp only [rowE] at HVV
     go_wp2_with (first
      | (at_mapUpdate; refine wpList_mapUpdate_own _ rfl _ _ _ 68 rfl 73 51 HKK.out.1 Tryz.underlying68 heldE (w.heap.size + 1) _ _ rfl HOWN.out (by unfold maxLen; omega) _ _ _ rfl rfl HKY.out _ _ HVV.out ?_; intro w11 hout hg; go_frame)
      | go_in)
     have HM11 := Lib.hid (show MapK Tryz.prog 73 w11 (w.heap.size + 1) (c + 1) (mapI rs RA RC (IX (j + 1))) by rw [HIM.out]; exact ⟨_, hout, HPUT.out⟩)
     have HF11 := Lib.hid (show w11.heap[w.heap.size]? = _ from (hg.block _ hlF (by simp)).trans HF10.out)
     have HB11 := Lib.hid (HB10.out.grown hg HB10.out.size (fun i hi => by cases hi; omega))
     clear hout hg
     go_roundw
     case rel => exact ⟨j + 1, c + 1, by omega, by go_num, by omega, HM11, HND9, HF11, HB11⟩
     case measure => simp [intOf]; omega
  ·obtain rfl : j = nr := by omega
   have HE := Lib.hid (HO0.out HND.out)
   go_wp2
   go_ret2
   exact ⟨HB.out, .inl ⟨HE.out, _, c, rfl, by omega, hc, HM.out⟩⟩
end Go.Proofs.YtbnjejenejoibaaGreatDoor
