/- The walks of awake and of SameFormat, at equal formats. -/
import Derived.Test.YtbnjejenejoibaaGreatDoorFG
import Derived.Test.YtbnjejenejoibaaGreatDoorUN
import Derived.Test.YtbnjejenejoibaaGreatDoorZ4
import Derived.Lib.SplitLaws
import Derived.Test.YtbnjejenejoibaaGreatDoorRH
import Derived.Test.YtbnjejenejoibaaGreatDoorF8
import Derived.Test.YtbnjejenejoibaaGreatDoorT1
import Derived.Test.YtbnjejenejoibaaGreatDoorV2
import Derived.Test.YtbnjejenejoibaaGreatDoorZC
-- merged: FH G1 G2 G3 G4 G5 V6 V7 VB VL Y0 Y1 Z5 Z6 Z7 I1 SQU
namespace Go.Proofs.YtbnjejenejoibaaGreatDoor
open Go.RowKit Limb Nmb Work
set_option linter.unusedVariables false
set_option linter.unusedSimpArgs false
theorem ybelow_dn {B : Nat} {a w : World} (h : Below B a w) (n : Nat) : Below B a (w.drewN n) := ⟨h.os, h.tape, h.output, h.size, h.block⟩
theorem awk_kinds : ∀ l ∈ lnsL awkT.data.toList, kindW (wd (wrdS (bs l)) 0) = 0 := fun l hl => of_decide_eq_true (List.all_eq_true.1 (show ((lnsL awkT.data.toList).all fun l => decide (kindW (wd (wrdS (bs l)) 0) = 0)) = true by decide +kernel) l hl)
set_option maxHeartbeats 2000000 in
set_option maxRecDepth 100000 in
theorem awake6_c (m0 : Int) (w : World) (hm0 : w.cell? ⟨0, 0, none⟩ = some (.int .i64 m0)) :
  Calls Tryz.prog 6 #[] w (RetB true w) := by
 have HR := Lib.hid (readfmt_c awkT m0 w hm0 awk_kinds)
 rw [awk_read] at HR
 clear hm0
 unfold awkT RetRF at HR
 go_enter Tryz.func6, Tryz.ntmps6
 go_wp2_with fail
 refine HR.out.mono ?_
 rintro e w1 ⟨f, A, c, FA, FC, n, x, rfl, hR, -, -, -, -, hb1⟩
 injection hR with h1 h2
 injection h2 with h2 h3
 subst h1; subst h2; subst h3
 have hs1 := hb1.size
 unfold fmtG
 go_wp2
 go_ret
 exact ⟨rfl, hb1.alloc hs1 _⟩
theorem frF_zero {g : Nat -> Int} : ∀ {n : Nat}, (frF g n).2 = 0 -> ∀ j, j < n -> g j = 0
 | 0, _, j, hj => absurd hj (Nat.not_lt_zero _)
 | n + 1, h, j, hj => by
  unfold frF at h
  split at h
  ·rename_i h2
   split at h
   ·rename_i h3
    rcases Nat.lt_or_ge j n with h4 | h4
    ·exact frF_zero h2 j h4
    ·obtain rfl : j = n := by omega
     exact h3
   ·rename_i h3; exact absurd h h3
  ·rename_i h2; exact absurd h h2
structure RowK (f : Fmt) (r : RowP) : Prop where
 kind : 0 <= katI f r.tag
 many : r.vals.length = (katK f r.tag).fields.length
 vals : ∀ j, j < (katK f r.tag).fields.length -> valF f.mark f.quote (cA (katK f r.tag).fields j) (wd r.vals j) = 0
theorem rowF_ok {f : Fmt} {r : RowP} (h : (rowF f r).2 = 0) : RowK f r := by
 unfold rowF at h
 split at h
 ·cases h
 rename_i h1
 split at h
 ·cases h
 rename_i h2
 exact ⟨by omega, Classical.byContradiction h2, frF_zero h⟩
theorem keep_heap {B : Nat} {w w' : World} {g : Nat} {o : Obj} (h : w.heap[g]? = some o) (hb : Below B w w') (hg : g < B) : w'.heap[g]? = some o := (hb.block g hg).trans h
def row0 : RowP := ⟨⟨#[]⟩, []⟩
def rA (rs : List RowP) (j : Nat) : RowP := rs.getD j row0
theorem rA_get {rs : List RowP} {j : Nat} (h : j < rs.length) : rs[j] = rA rs j := by simp [rA, List.getD_eq_getElem?_getD, h]
noncomputable def rowsF (f : Fmt) (rs : List RowP) : Int × Int := frF (fun j => (rowF f (rA rs j)).2) rs.length
def rowV (rs : List RowP) (RA : Nat -> Option Addr) (RC : Nat -> Nat) (j i : Nat) : Value :=
 match i with
 | 0 => .string (rA rs j).tag
 | _ => .slice (RA j) (rA rs j).vals.length (RC j)
structure RowsM (w : World) (L : Option Addr) (rs : List RowP) (RA : Nat -> Option Addr) (RC : Nat -> Nat) : Prop where
 rows : Rws w L 2 rs.length (rowV rs RA RC)
 each : ∀ j, j < rs.length -> RowM w (rA rs j) (RA j) (RC j)
 len : rs.length <= 9223372036854775807
theorem RowsM.below {w w' : World} {L : Option Addr} {rs : List RowP} {RA : Nat -> Option Addr} {RC : Nat -> Nat} (h : RowsM w L rs RA RC) (hb : Below w.heap.size w w') : RowsM w' L rs RA RC :=
 ⟨h.rows.below hb, fun j hj => (h.each j hj).below hb, h.len⟩
theorem RowsM.cells {w : World} {L : Option Addr} {rs : List RowP} {RA : Nat -> Option Addr} {RC : Nat -> Nat} (h : RowsM w L rs RA RC) {j : Nat} (hj : j < rs.length) :
  ∃ b off, L = some ⟨b, off, none⟩ /\ b < w.heap.size /\ w.cell? ⟨b, off + j * 2, none⟩ = some (.string (rA rs j).tag) /\ w.cell? ⟨b, off + j * 2 + 1, none⟩ = some (.slice (RA j) (rA rs j).vals.length (RC j)) := by
 obtain ⟨b, off, e, hb, hc⟩ := h.rows.get hj
 exact ⟨b, off, e, hb, hc 0 (by decide), hc 1 (by decide)⟩
set_option maxHeartbeats 4000000 in
set_option maxRecDepth 100000 in
theorem chkrows_c (f : Fmt) (A : Option Addr) (cp : Nat) (FA : Nat -> Option Addr) (FC : Nat -> Nat) (L : Option Addr) (LC : Nat) (rs : List RowP) (RA : Nat -> Option Addr) (RC : Nat -> Nat) (w : World) (ho : Kinds w A f.kinds FA FC) (hl : RowsM w L rs RA RC) (hcp : f.kinds.length <= cp) (hf : checkF f = 0) (hm : 0 <= f.mark /\ f.mark <= 255) (ht : Tab w) :
  Calls Tryz.prog 27 #[fmtG f A cp, .slice L rs.length LC] w (RetNF (rowsF f rs).1 (rowsF f rs).2 w) := by
 have HCR := Lib.hid (fun j w h h2 ht => checkrow_c f A cp FA FC (rA rs j) (RA j) (RC j) w h h2 hf hm ht)
 have HKI := Lib.hid ho; have HLM := Lib.hid hl; have HTB := Lib.hid ht
 obtain ⟨R, hR⟩ : ∃ x, rowsF f rs = x := ⟨_, rfl⟩
 have HR := Lib.hid (show frF (fun j => (rowF f (rA rs j)).2) rs.length = R from hR)
 rw [hR]
 have hnr := hl.len
 clear ho hl ht hf hR
 obtain ⟨m, q, ks, hd, tl, ct, sm⟩ := f
 unfold fmtG at HCR ⊢
 simp only at HCR HKI hcp ⊢
 obtain ⟨n, hn⟩ : ∃ x, ks.length = x := ⟨_, rfl⟩
 rw [hn] at HCR hcp ⊢
 clear hn
 have hF0 := heap_new w (.cells #[.int .u8 m, .int .u8 q, .slice A n cp, .string hd, .string tl, .string ct, .string sm] 24) rfl
 have hB0 : Below w.heap.size w (w.alloc (.cells #[.int .u8 m, .int .u8 q, .slice A n cp, .string hd, .string tl, .string ct, .string sm] 24)) := by go_grown
 obtain ⟨nr, hnr2⟩ : ∃ x, rs.length = x := ⟨_, rfl⟩
 have HNR := Lib.hid hnr2
 rw [hnr2] at HR hnr ⊢
 clear hnr2
 go_enter Tryz.func27, Tryz.ntmps27
 obtain ⟨⟨f0, f1, f2, f3, f4, f5, f6⟩, f7⟩ := obox7 hF0
 have HF0 := Lib.hid hF0; have HB0 := Lib.hid hB0
 go_upto_region 1 with fail
 generalize w.alloc (.cells #[.int .u8 m, .int .u8 q, .slice A n cp, .string hd, .string tl, .string ct, .string sm] 24) = w1 at f0 f1 f2 f3 f4 f5 f6 f7 HF0 HB0 hB0 hF0 ⊢
 have hz1 := hB0.size
 clear f0 f1 f2 f3 f4 f5 f6 f7 hF0 hB0
 go_wp2_with fail
 go_loopw [12] (fun i wr => ∃ j : Nat, j <= nr /\ i = .int .i64 j /\ Hid (Below w1.heap.size w1 wr) /\ Hid (∀ t, t < j -> (rowF ⟨m, q, ks, hd, tl, ct, sm⟩ (rA rs t)).2 = 0)) (fun i _ => nr - (intOf i).toNat)
 case atStart => exact ⟨0, Nat.zero_le _, rfl, Lib.hid (Below.refl _ _), Lib.hid (fun t h => absurd h (Nat.not_lt_zero _))⟩
 case round =>
  obtain ⟨j, hj, rfl, HB, HJ⟩ := hrel
  have HBW := Lib.hid (below_then HB.out HB0.out hz1)
  have hzr := HB.out.size
  rcases Nat.lt_or_ge j nr with hlt | hge
  ·obtain ⟨b, off, rfl, hbw, c0, c1⟩ := (HLM.out.below HBW.out).cells (j := j) (by rw [HNR.out]; exact hlt)
   have HRJ := Lib.hid ((HLM.out.below HBW.out).each j (by rw [HNR.out]; exact hlt))
   have HCJ := Lib.hid (fun w h h2 ht => HCR.out j w h h2 ht)
   obtain ⟨r, hr⟩ : ∃ x, rA rs j = x := ⟨_, rfl⟩
   obtain ⟨RJ, hRJ⟩ : ∃ x, RA j = x := ⟨_, rfl⟩
   obtain ⟨CJ, hCJ⟩ : ∃ x, RC j = x := ⟨_, rfl⟩
   obtain ⟨⟨x, e⟩, hX⟩ : ∃ y, rowF ⟨m, q, ks, hd, tl, ct, sm⟩ r = y := ⟨_, rfl⟩
   have HX := Lib.hid (show (rowF ⟨m, q, ks, hd, tl, ct, sm⟩ (rA rs j)).2 = e by rw [hr, hX])
   rw [hr, hRJ, hCJ] at HCJ HRJ
   rw [hr] at c0
   rw [hr, hRJ, hCJ] at c1
   rw [hX] at HCJ
   unfold RetNF at HCJ
   clear hr hRJ hCJ hX
   obtain ⟨tg, vs⟩ := r
   unfold rowG at HCJ
   simp only at HCJ c0 c1
   obtain ⟨nv, hnv⟩ : ∃ x, vs.length = x := ⟨_, rfl⟩
   rw [hnv] at HCJ c1
   clear hnv
   have hF5 := heap_old (keep_heap HF0.out HB.out (lt_heap HF0.out)) (.cells #[.string tg, .slice RJ nv CJ] 51)
   have hR5 := heap_new wr (.cells #[.string tg, .slice RJ nv CJ] 51) rfl
   have hb5 : Below wr.heap.size wr (wr.alloc (.cells #[.string tg, .slice RJ nv CJ] 51)) := by go_grown
   go_upto_region 4 with fail
   obtain ⟨rn, hrn⟩ : ∃ x, wr.heap.size = x := ⟨_, rfl⟩
   rw [hrn] at hR5 ⊢
   have hb15 := below_then hb5 HB.out hzr
   generalize wr.alloc (.cells #[.string tg, .slice RJ nv CJ] 51) = w5 at hF5 hR5 hb5 hb15 ⊢
   have HBW5 := Lib.hid (below_then hb5 HBW.out HBW.out.size)
   obtain ⟨⟨f0, f1, f2, f3, f4, f5, f6⟩, f7⟩ := obox7 hF5
   obtain ⟨r0, r1, -, -, r2⟩ := box2 hR5
   have HRJ5 := Lib.hid (HRJ.out.below hb5)
   clear c0 c1 hF5 hR5 hrn hbw hb5
   go_wp2_with fail
   refine (HCJ.out _ (HKI.out.below HBW5.out) HRJ5.out (HTB.out.below HBW5.out)).mono ?_
   rintro _ w6 ⟨rfl, hb6⟩
   have HB6 := Lib.hid (below_then hb6 hb15 hb15.size)
   clear f0 f1 f2 f3 f4 f5 f6 f7 r0 r1 r2 hb6 hb15
   by_cases h0 : e = 0
   ·subst h0
    have HJ2 := Lib.hid (show ∀ t, t < j + 1 -> (rowF ⟨m, q, ks, hd, tl, ct, sm⟩ (rA rs t)).2 = 0 from fun t ht => by
     rcases Nat.lt_or_ge t j with h | h
     ·exact HJ.out t h
     ·obtain rfl : t = j := by omega
      exact HX.out)
    go_wp2
    go_roundw
    case rel => exact ⟨j + 1, by omega, by go_num, HB6, HJ2⟩
    case measure => simp [intOf]; omega
   ·have HE := Lib.hid (show R = ((j : Int), e) by rw [<- HR.out, frF_hit (j := j) HJ.out (by show (rowF _ _).2 ≠ 0; rw [HX.out]; exact h0) hlt]; exact congrArg _ HX.out)
    have h0a : (e != 0) = true := by simpa using h0
    have hbn := below_then HB6.out HB0.out hz1
    clear h0
    go_wp2
    go_ret2
    exact ⟨by rw [HE.out]; rfl, hbn⟩
  ·obtain rfl : j = nr := by omega
   have HE := Lib.hid (show R = (0, 0) by rw [<- HR.out]; exact frF_no HJ.out)
   have hbn := HBW.out
   go_wp2
   go_ret2
   exact ⟨by rw [HE.out]; rfl, hbn⟩
theorem FmtK.places {f : Fmt} (hf : FmtK f) {j : Nat} (hj : j < f.kinds.length) {i : Nat} (hi : i < (kA f.kinds j).fields.length) : (cA (kA f.kinds j).fields i).kind = 2 -> 0 <= (cA (kA f.kinds j).fields i).places /\ (cA (kA f.kinds j).fields i).places <= 9 := ((hf.kinds j hj).cols i hi).places
theorem sbytes_dec (a b : ByteArray) : (a.toList == b.toList) = decide (a = b) := by
 by_cases h : a = b
 ·subst h; simp
 ·rw [decide_eq_false h]; exact (Lib.bytes_beq_false_iff _ _).2 h
theorem wd_ext {L M : List ByteArray} (hl : L.length = M.length) (h : ∀ i, i < L.length -> wd L i = wd M i) : L = M := by
 refine List.ext_getElem hl fun i h1 h2 => ?_
 have h3 := h i h1
 unfold wd at h3
 rw [List.getD_eq_getElem?_getD, List.getD_eq_getElem?_getD, List.getElem?_eq_getElem h1, List.getElem?_eq_getElem h2] at h3
 exact h3
set_option maxHeartbeats 1000000 in
set_option maxRecDepth 100000 in
theorem eqany_q (L M : List ByteArray) (A B : Option Addr) (c d : Nat) (w : World) (ha : Svs w A L) (hb : Svs w B M) (hm : L.length <= 9223372036854775807) (hm2 : M.length <= 9223372036854775807) :
  Calls Tryz.prog 26 #[.slice A L.length c, .slice B M.length d] w fun e w' => e = .returned (.bool (decide (L = M))) /\ ∃ q, w' = w.drewN q := by
 have HA := Lib.hid ha; have HB := Lib.hid hb
 have HX := Lib.hid (fun (hl : L.length = M.length) h => wd_ext (L := L) (M := M) hl h)
 obtain ⟨R, hR⟩ : ∃ x, decide (L = M) = x := ⟨_, rfl⟩
 have HR := Lib.hid hR
 rw [hR]
 clear hR
 obtain ⟨n, hnn⟩ : ∃ x, L.length = x := ⟨_, rfl⟩
 obtain ⟨k, hkk⟩ : ∃ x, M.length = x := ⟨_, rfl⟩
 have HN := Lib.hid hnn
 have HK := Lib.hid hkk
 rw [hnn] at hm HX ⊢
 rw [hkk] at hm2 HX ⊢
 clear ha hb hnn hkk
 by_cases hne : n = k
 case neg =>
  have HF := Lib.hid (show R = false by rw [<- HR.out]; exact decide_eq_false fun e => hne (by rw [<- HN.out, <- HK.out, e]))
  have hne2 : ¬ (n : Int) = (k : Int) := by omega
  go_enter Tryz.func26, Tryz.ntmps26
  go_wp2
  go_ret
  exact ⟨by rw [HF.out]; rfl, 0, rfl⟩
 subst hne
 go_enter Tryz.func26, Tryz.ntmps26
 go_wp2
 go_loopw [13] (fun y wx => ∃ j : Nat, j <= n /\ y = .int .i64 j /\ (∃ q, wx = w.drewN q) /\ Hid (∀ i, i < j -> wd L i = wd M i)) (fun y _ => n - (intOf y).toNat)
 case atStart => exact ⟨0, Nat.zero_le _, rfl, ⟨0, rfl⟩, Lib.hid fun i h => absurd h (Nat.not_lt_zero _)⟩
 case round =>
  obtain ⟨j, hj, rfl, ⟨q, rfl⟩, HI⟩ := hrel
  rcases Nat.lt_or_ge j n with hlt | hge
  ·obtain ⟨a, oa, rfl, -, ca⟩ := HA.out (by rw [HN.out]; omega)
   obtain ⟨b, ob, rfl, -, cb⟩ := HB.out (by rw [HK.out]; omega)
   have a0 := ca j (by rw [HN.out]; exact hlt)
   have b0 := cb j (by rw [HK.out]; exact hlt)
   obtain ⟨s, hs⟩ : ∃ x, wd L j = x := ⟨_, rfl⟩
   obtain ⟨t, ht⟩ : ∃ x, wd M j = x := ⟨_, rfl⟩
   have HS := Lib.hid hs
   have HT := Lib.hid ht
   rw [hs] at a0
   rw [ht] at b0
   clear ca cb hs ht
   by_cases hst : s = t
   ·have HI2 := Lib.hid (show ∀ i, i < j + 1 -> wd L i = wd M i from fun i hi => by
     rcases Nat.lt_or_ge i j with h | h
     ·exact HI.out i h
     ·rw [show i = j by omega, HS.out, HT.out, hst])
    subst hst
    go_wp2_with fail
    go_quiet (fail)
    have e : (w.drewN q).drewN nq = w.drewN (q + nq) := World.drewN_drewN _ _ _
    rw [e]
    go_wp2
    go_roundw
    case rel => exact ⟨j + 1, by omega, by go_num, ⟨q + nq, rfl⟩, HI2⟩
    case measure => simp [intOf]; omega
   ·have HF := Lib.hid (show R = false by rw [<- HR.out]; exact decide_eq_false fun e => hst (by rw [<- HS.out, <- HT.out, e]))
    have hst2 : (s.toList == t.toList) = false := by rw [sbytes_dec]; exact decide_eq_false hst
    go_wp2_with fail
    go_quiet (fail)
    have e : (w.drewN q).drewN nq = w.drewN (q + nq) := World.drewN_drewN _ _ _
    rw [e]
    go_wp2
    go_ret
    exact ⟨by rw [HF.out]; rfl, q + nq, rfl⟩
  ·obtain rfl : j = n := by omega
   have HF := Lib.hid (show R = true by rw [<- HR.out]; exact decide_eq_true (HX.out trivial fun i hi => HI.out i hi))
   go_wp2
   go_ret
   exact ⟨by rw [HF.out]; rfl, q, rfl⟩
theorem rA_ext {L M : List RowP} (hl : L.length = M.length) (h : ∀ i, i < L.length -> rA L i = rA M i) : L = M := by
 refine List.ext_getElem hl fun i h1 h2 => ?_
 rw [rA_get h1, rA_get h2]
 exact h i h1
set_option maxHeartbeats 2000000 in
set_option maxRecDepth 100000 in
theorem sameany_q (L L' : Option Addr) (LC LC' : Nat) (rs ss : List RowP) (RA RA' : Nat -> Option Addr) (RC RC' : Nat -> Nat) (w : World) (h : RowsM w L rs RA RC) (h' : RowsM w L' ss RA' RC') :
  Calls Tryz.prog 9 #[.slice L rs.length LC, .slice L' ss.length LC'] w fun e w' => e = .returned (.bool (decide (rs = ss))) /\ ∃ q, w' = w.drewN q := by
 have HA := Lib.hid h; have HB := Lib.hid h'
 have hm := h.len
 have hm2 := h'.len
 have HX := Lib.hid (fun (hl : rs.length = ss.length) h => rA_ext (L := rs) (M := ss) hl h)
 obtain ⟨R, hR⟩ : ∃ x, decide (rs = ss) = x := ⟨_, rfl⟩
 have HR := Lib.hid hR
 rw [hR]
 clear hR
 obtain ⟨n, hnn⟩ : ∃ x, rs.length = x := ⟨_, rfl⟩
 obtain ⟨k, hkk⟩ : ∃ x, ss.length = x := ⟨_, rfl⟩
 have HN := Lib.hid hnn
 have HK := Lib.hid hkk
 rw [hnn] at hm HX ⊢
 rw [hkk] at hm2 HX ⊢
 clear h h' hnn hkk
 by_cases hne : n = k
 case neg =>
  have HF := Lib.hid (show R = false by rw [<- HR.out]; exact decide_eq_false fun e => hne (by rw [<- HN.out, <- HK.out, e]))
  have hne2 : ¬ (n : Int) = (k : Int) := by omega
  go_enter Tryz.func9, Tryz.ntmps9
  go_wp2
  go_ret
  exact ⟨by rw [HF.out]; rfl, 0, rfl⟩
 subst hne
 go_enter Tryz.func9, Tryz.ntmps9
 go_wp2
 go_loopw [13] (fun y wx => ∃ j : Nat, j <= n /\ y = .int .i64 j /\ (∃ q, wx = w.drewN q) /\ Hid (∀ i, i < j -> rA rs i = rA ss i)) (fun y _ => n - (intOf y).toNat)
 case atStart => exact ⟨0, Nat.zero_le _, rfl, ⟨0, rfl⟩, Lib.hid fun i h => absurd h (Nat.not_lt_zero _)⟩
 case round =>
  obtain ⟨j, hj, rfl, ⟨q, hq⟩, HI⟩ := hrel
  have HQ := Lib.hid hq
  have HBW := Lib.hid (show Below w.heap.size w wr by rw [hq]; exact ybelow_dn (Below.refl _ _) _)
  have HA := Lib.hid (HA.out.below HBW.out); have HB := Lib.hid (HB.out.below HBW.out)
  clear hq
  rcases Nat.lt_or_ge j n with hlt | hge
  ·obtain ⟨a, oa, rfl, -, a0, a1⟩ := HA.out.cells (j := j) (by rw [HN.out]; exact hlt)
   obtain ⟨b, ob, rfl, -, b0, b1⟩ := HB.out.cells (j := j) (by rw [HK.out]; exact hlt)
   have HE := Lib.hid (fun w ha hb hm hm2 => eqany_q (rA rs j).vals (rA ss j).vals (RA j) (RA' j) (RC j) (RC' j) w ha hb hm hm2)
   have HVA := Lib.hid (HA.out.each j (by rw [HN.out]; exact hlt)).vals
   have HVB := Lib.hid (HB.out.each j (by rw [HK.out]; exact hlt)).vals
   have HLN := Lib.hid (HA.out.each j (by rw [HN.out]; exact hlt)).len
   have HLM := Lib.hid (HB.out.each j (by rw [HK.out]; exact hlt)).len
   have HEQ := Lib.hid (show rA rs j = rA ss j -> ∀ i, i < j + 1 -> rA rs i = rA ss i from fun e i hi => by
    rcases Nat.lt_or_ge i j with h | h
    ·exact HI.out i h
    ·rw [show i = j by omega, e])
   have HNE := Lib.hid (show rA rs j ≠ rA ss j -> R = false from fun e => by rw [<- HR.out]; exact decide_eq_false fun k => e (by rw [k]))
   obtain ⟨⟨tg, vs⟩, hr⟩ : ∃ x, rA rs j = x := ⟨_, rfl⟩
   obtain ⟨⟨th, us⟩, hu⟩ : ∃ x, rA ss j = x := ⟨_, rfl⟩
   rw [hr] at a0 a1 HE HVA HLN HEQ HNE
   rw [hu] at b0 b1 HE HVB HLM HEQ HNE
   generalize RA j = XA at a1 HE HVA HLN
   generalize RC j = XC at a1 HE HVA HLN
   generalize RA' j = YA at b1 HE HVB HLM
   generalize RC' j = YC at b1 HE HVB HLM
   simp only at a0 a1 b0 b1 HE HVA HVB HLN HLM
   have HL := Lib.hid (Nat.le_trans HLN.out.1 HLN.out.2)
   have HL2 := Lib.hid (Nat.le_trans HLM.out.1 HLM.out.2)
   have HVQ := Lib.hid (show decide (vs = us) = true ∨ decide (vs = us) = false by cases decide (vs = us) <;> simp)
   have HDV := Lib.hid (fun (h : decide (vs = us) = true) => of_decide_eq_true h)
   have HDF := Lib.hid (fun (h : decide (vs = us) = false) => of_decide_eq_false h)
   generalize decide (vs = us) = D at HE HVQ HDV HDF
   obtain ⟨nv, hnv⟩ : ∃ n, vs.length = n := ⟨_, rfl⟩
   obtain ⟨nu, hnu⟩ : ∃ n, us.length = n := ⟨_, rfl⟩
   rw [hnv] at a1 HE HL
   rw [hnu] at b1 HE HL2
   clear hr hu hnv hnu HLN HLM
   by_cases htt : tg = th
   ·have HT := Lib.hid htt
    subst htt
    have ht : (tg.toList == tg.toList) = true := by simp
    go_wp2_with fail
    go_quiet ((go_at_call 26; exact Calls.quiet_of (HE.out _ (HVA.out.below (ybelow_dn (Below.refl _ _) _)) (HVB.out.below (ybelow_dn (Below.refl _ _) _)) HL.out HL2.out)))
    have HQ2 := Lib.hid (show wr.drewN nq = w.drewN (q + nq) by rw [HQ.out]; exact World.drewN_drewN _ _ _)
    cases D with
    | true =>
     have HI2 := Lib.hid (HEQ.out (by rw [HDV.out rfl]))
     go_wp2
     go_roundw
     case rel => exact ⟨j + 1, by omega, by go_num, ⟨q + nq, HQ2.out⟩, HI2⟩
     case measure => simp [intOf]; omega
    | false =>
     have HF := Lib.hid (HNE.out fun e => HDF.out rfl (by cases e; rfl))
     go_wp2
     go_ret
     exact ⟨by rw [HF.out]; rfl, q + nq, HQ2.out⟩
   ·have HF := Lib.hid (HNE.out fun e => htt (by cases e; rfl))
    have ht : (tg.toList == th.toList) = false := by rw [sbytes_dec]; exact decide_eq_false htt
    go_wp2_with fail
    go_quiet (fail)
    have HQ2 := Lib.hid (show wr.drewN nq = w.drewN (q + nq) by rw [HQ.out]; exact World.drewN_drewN _ _ _)
    go_wp2
    go_ret
    exact ⟨by rw [HF.out]; rfl, q + nq, HQ2.out⟩
  ·obtain rfl : j = n := by omega
   have HF := Lib.hid (show R = true by rw [<- HR.out]; exact decide_eq_true (HX.out trivial fun i hi => HI.out i hi))
   go_wp2
   go_ret
   exact ⟨by rw [HF.out]; rfl, q, HQ.out⟩
end Go.Proofs.YtbnjejenejoibaaGreatDoor
