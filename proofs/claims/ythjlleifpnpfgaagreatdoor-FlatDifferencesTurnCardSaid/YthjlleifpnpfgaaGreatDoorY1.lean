/- The walks of awake and of SameFormat, at equal formats. -/
import Derived.Test.YthjlleifpnpfgaaGreatDoorFG
import Derived.Test.YthjlleifpnpfgaaGreatDoorUN
import Derived.Test.YthjlleifpnpfgaaGreatDoorZP
import Derived.Lib.SplitLaws
import Derived.Test.YthjlleifpnpfgaaGreatDoorHB
-- merged: FH G1 G2 G3 G4 G5 V6 V7 VB VL Y0 Y1
namespace Go.Proofs.YthjlleifpnpfgaaGreatDoor
open Go.RowKit Limb Nmb Work
set_option linter.unusedVariables false
set_option linter.unusedSimpArgs false
theorem awk_kinds : ∀ l ∈ lnsL awkT.data.toList, kindW (wd (wrdS (bs l)) 0) = 0 := fun l hl => of_decide_eq_true (List.all_eq_true.1 (show ((lnsL awkT.data.toList).all fun l => decide (kindW (wd (wrdS (bs l)) 0) = 0)) = true by decide +kernel) l hl)
set_option maxHeartbeats 2000000 in
set_option maxRecDepth 100000 in
theorem awake6_c (m0 : Int) (w : World) (hm0 : w.cell? ⟨0, 0, none⟩ = some (.int .i64 m0)) :
  Calls Tryz.prog 8 #[] w (RetB true w) := by
 have HR := Lib.hid (readfmt_c awkT m0 w hm0 awk_kinds)
 rw [awk_read] at HR
 clear hm0
 unfold awkT RetRF at HR
 go_enter Tryz.func8, Tryz.ntmps8
 go_wp2_with fail
 refine HR.out.mono ?_
 rintro e w1 ⟨f, A, c, FA, FC, n, x, rfl, hR, -, -, -, -, hb1⟩
 injection hR with h1 h2
 injection h2 with h2 h3
 subst h1; subst h2; subst h3
 have hs1 := hb1.size
 unfold fmtG
 go_wp2
 go_ret
 exact ⟨rfl, hb1.alloc hs1 _⟩
theorem frF_zero {g : Nat -> Int} : ∀ {n : Nat}, (frF g n).2 = 0 -> ∀ j, j < n -> g j = 0
 | 0, _, j, hj => absurd hj (Nat.not_lt_zero _)
 | n + 1, h, j, hj => by
  unfold frF at h
  split at h
  ·rename_i h2
   split at h
   ·rename_i h3
    rcases Nat.lt_or_ge j n with h4 | h4
    ·exact frF_zero h2 j h4
    ·obtain rfl : j = n := by omega
     exact h3
   ·rename_i h3; exact absurd h h3
  ·rename_i h2; exact absurd h h2
structure RowK (f : Fmt) (r : RowP) : Prop where
 kind : 0 <= katI f r.tag
 many : r.vals.length = (katK f r.tag).fields.length
 vals : ∀ j, j < (katK f r.tag).fields.length -> valF f.mark f.quote (cA (katK f r.tag).fields j) (wd r.vals j) = 0
theorem rowF_ok {f : Fmt} {r : RowP} (h : (rowF f r).2 = 0) : RowK f r := by
 unfold rowF at h
 split at h
 ·cases h
 rename_i h1
 split at h
 ·cases h
 rename_i h2
 exact ⟨by omega, Classical.byContradiction h2, frF_zero h⟩
theorem keep_heap {B : Nat} {w w' : World} {g : Nat} {o : Obj} (h : w.heap[g]? = some o) (hb : Below B w w') (hg : g < B) : w'.heap[g]? = some o := (hb.block g hg).trans h
def row0 : RowP := ⟨⟨#[]⟩, []⟩
def rA (rs : List RowP) (j : Nat) : RowP := rs.getD j row0
theorem rA_get {rs : List RowP} {j : Nat} (h : j < rs.length) : rs[j] = rA rs j := by simp [rA, List.getD_eq_getElem?_getD, h]
noncomputable def rowsF (f : Fmt) (rs : List RowP) : Int × Int := frF (fun j => (rowF f (rA rs j)).2) rs.length
def rowV (rs : List RowP) (RA : Nat -> Option Addr) (RC : Nat -> Nat) (j i : Nat) : Value :=
 match i with
 | 0 => .string (rA rs j).tag
 | _ => .slice (RA j) (rA rs j).vals.length (RC j)
structure RowsM (w : World) (L : Option Addr) (rs : List RowP) (RA : Nat -> Option Addr) (RC : Nat -> Nat) : Prop where
 rows : Rws w L 2 rs.length (rowV rs RA RC)
 each : ∀ j, j < rs.length -> RowM w (rA rs j) (RA j) (RC j)
 len : rs.length <= 9223372036854775807
theorem RowsM.below {w w' : World} {L : Option Addr} {rs : List RowP} {RA : Nat -> Option Addr} {RC : Nat -> Nat} (h : RowsM w L rs RA RC) (hb : Below w.heap.size w w') : RowsM w' L rs RA RC :=
 ⟨h.rows.below hb, fun j hj => (h.each j hj).below hb, h.len⟩
theorem RowsM.cells {w : World} {L : Option Addr} {rs : List RowP} {RA : Nat -> Option Addr} {RC : Nat -> Nat} (h : RowsM w L rs RA RC) {j : Nat} (hj : j < rs.length) :
  ∃ b off, L = some ⟨b, off, none⟩ /\ b < w.heap.size /\ w.cell? ⟨b, off + j * 2, none⟩ = some (.string (rA rs j).tag) /\ w.cell? ⟨b, off + j * 2 + 1, none⟩ = some (.slice (RA j) (rA rs j).vals.length (RC j)) := by
 obtain ⟨b, off, e, hb, hc⟩ := h.rows.get hj
 exact ⟨b, off, e, hb, hc 0 (by decide), hc 1 (by decide)⟩
set_option maxHeartbeats 4000000 in
set_option maxRecDepth 100000 in
theorem chkrows_c (f : Fmt) (A : Option Addr) (cp : Nat) (FA : Nat -> Option Addr) (FC : Nat -> Nat) (L : Option Addr) (LC : Nat) (rs : List RowP) (RA : Nat -> Option Addr) (RC : Nat -> Nat) (w : World) (ho : Kinds w A f.kinds FA FC) (hl : RowsM w L rs RA RC) (hcp : f.kinds.length <= cp) (hf : checkF f = 0) (hm : 0 <= f.mark /\ f.mark <= 255) (ht : Tab w) :
  Calls Tryz.prog 17 #[fmtG f A cp, .slice L rs.length LC] w (RetNF (rowsF f rs).1 (rowsF f rs).2 w) := by
 have HCR := Lib.hid (fun j w h h2 ht => checkrow_c f A cp FA FC (rA rs j) (RA j) (RC j) w h h2 hf hm ht)
 have HKI := Lib.hid ho; have HLM := Lib.hid hl; have HTB := Lib.hid ht
 obtain ⟨R, hR⟩ : ∃ x, rowsF f rs = x := ⟨_, rfl⟩
 have HR := Lib.hid (show frF (fun j => (rowF f (rA rs j)).2) rs.length = R from hR)
 rw [hR]
 have hnr := hl.len
 clear ho hl ht hf hR
 obtain ⟨m, q, ks, hd, tl, ct, sm⟩ := f
 unfold fmtG at HCR ⊢
 simp only at HCR HKI hcp ⊢
 obtain ⟨n, hn⟩ : ∃ x, ks.length = x := ⟨_, rfl⟩
 rw [hn] at HCR hcp ⊢
 clear hn
 have hF0 := heap_new w (.cells #[.int .u8 m, .int .u8 q, .slice A n cp, .string hd, .string tl, .string ct, .string sm] 24) rfl
 have hB0 : Below w.heap.size w (w.alloc (.cells #[.int .u8 m, .int .u8 q, .slice A n cp, .string hd, .string tl, .string ct, .string sm] 24)) := by go_grown
 obtain ⟨nr, hnr2⟩ : ∃ x, rs.length = x := ⟨_, rfl⟩
 have HNR := Lib.hid hnr2
 rw [hnr2] at HR hnr ⊢
 clear hnr2
 go_enter Tryz.func17, Tryz.ntmps17
 obtain ⟨⟨f0, f1, f2, f3, f4, f5, f6⟩, f7⟩ := obox7 hF0
 have HF0 := Lib.hid hF0; have HB0 := Lib.hid hB0
 go_upto_region 1 with fail
 generalize w.alloc (.cells #[.int .u8 m, .int .u8 q, .slice A n cp, .string hd, .string tl, .string ct, .string sm] 24) = w1 at f0 f1 f2 f3 f4 f5 f6 f7 HF0 HB0 hB0 hF0 ⊢
 have hz1 := hB0.size
 clear f0 f1 f2 f3 f4 f5 f6 f7 hF0 hB0
 go_wp2_with fail
 go_loopw [12] (fun i wr => ∃ j : Nat, j <= nr /\ i = .int .i64 j /\ Hid (Below w1.heap.size w1 wr) /\ Hid (∀ t, t < j -> (rowF ⟨m, q, ks, hd, tl, ct, sm⟩ (rA rs t)).2 = 0)) (fun i _ => nr - (intOf i).toNat)
 case atStart => exact ⟨0, Nat.zero_le _, rfl, Lib.hid (Below.refl _ _), Lib.hid (fun t h => absurd h (Nat.not_lt_zero _))⟩
 case round =>
  obtain ⟨j, hj, rfl, HB, HJ⟩ := hrel
  have HBW := Lib.hid (below_then HB.out HB0.out hz1)
  have hzr := HB.out.size
  rcases Nat.lt_or_ge j nr with hlt | hge
  ·obtain ⟨b, off, rfl, hbw, c0, c1⟩ := (HLM.out.below HBW.out).cells (j := j) (by rw [HNR.out]; exact hlt)
   have HRJ := Lib.hid ((HLM.out.below HBW.out).each j (by rw [HNR.out]; exact hlt))
   have HCJ := Lib.hid (fun w h h2 ht => HCR.out j w h h2 ht)
   obtain ⟨r, hr⟩ : ∃ x, rA rs j = x := ⟨_, rfl⟩
   obtain ⟨RJ, hRJ⟩ : ∃ x, RA j = x := ⟨_, rfl⟩
   obtain ⟨CJ, hCJ⟩ : ∃ x, RC j = x := ⟨_, rfl⟩
   obtain ⟨⟨x, e⟩, hX⟩ : ∃ y, rowF ⟨m, q, ks, hd, tl, ct, sm⟩ r = y := ⟨_, rfl⟩
   have HX := Lib.hid (show (rowF ⟨m, q, ks, hd, tl, ct, sm⟩ (rA rs j)).2 = e by rw [hr, hX])
   rw [hr, hRJ, hCJ] at HCJ HRJ
   rw [hr] at c0
   rw [hr, hRJ, hCJ] at c1
   rw [hX] at HCJ
   unfold RetNF at HCJ
   clear hr hRJ hCJ hX
   obtain ⟨tg, vs⟩ := r
   unfold rowG at HCJ
   simp only at HCJ c0 c1
   obtain ⟨nv, hnv⟩ : ∃ x, vs.length = x := ⟨_, rfl⟩
   rw [hnv] at HCJ c1
   clear hnv
   have hF5 := heap_old (keep_heap HF0.out HB.out (lt_heap HF0.out)) (.cells #[.string tg, .slice RJ nv CJ] 57)
   have hR5 := heap_new wr (.cells #[.string tg, .slice RJ nv CJ] 57) rfl
   have hb5 : Below wr.heap.size wr (wr.alloc (.cells #[.string tg, .slice RJ nv CJ] 57)) := by go_grown
   go_upto_region 4 with fail
   obtain ⟨rn, hrn⟩ : ∃ x, wr.heap.size = x := ⟨_, rfl⟩
   rw [hrn] at hR5 ⊢
   have hb15 := below_then hb5 HB.out hzr
   generalize wr.alloc (.cells #[.string tg, .slice RJ nv CJ] 57) = w5 at hF5 hR5 hb5 hb15 ⊢
   have HBW5 := Lib.hid (below_then hb5 HBW.out HBW.out.size)
   obtain ⟨⟨f0, f1, f2, f3, f4, f5, f6⟩, f7⟩ := obox7 hF5
   obtain ⟨r0, r1, -, -, r2⟩ := box2 hR5
   have HRJ5 := Lib.hid (HRJ.out.below hb5)
   clear c0 c1 hF5 hR5 hrn hbw hb5
   go_wp2_with fail
   refine (HCJ.out _ (HKI.out.below HBW5.out) HRJ5.out (HTB.out.below HBW5.out)).mono ?_
   rintro _ w6 ⟨rfl, hb6⟩
   have HB6 := Lib.hid (below_then hb6 hb15 hb15.size)
   clear f0 f1 f2 f3 f4 f5 f6 f7 r0 r1 r2 hb6 hb15
   by_cases h0 : e = 0
   ·subst h0
    have HJ2 := Lib.hid (show ∀ t, t < j + 1 -> (rowF ⟨m, q, ks, hd, tl, ct, sm⟩ (rA rs t)).2 = 0 from fun t ht => by
     rcases Nat.lt_or_ge t j with h | h
     ·exact HJ.out t h
     ·obtain rfl : t = j := by omega
      exact HX.out)
    go_wp2
    go_roundw
    case rel => exact ⟨j + 1, by omega, by go_num, HB6, HJ2⟩
    case measure => simp [intOf]; omega
   ·have HE := Lib.hid (show R = ((j : Int), e) by rw [<- HR.out, frF_hit (j := j) HJ.out (by show (rowF _ _).2 ≠ 0; rw [HX.out]; exact h0) hlt]; exact congrArg _ HX.out)
    have h0a : (e != 0) = true := by simpa using h0
    have hbn := below_then HB6.out HB0.out hz1
    clear h0
    go_wp2
    go_ret2
    exact ⟨by rw [HE.out]; rfl, hbn⟩
  ·obtain rfl : j = nr := by omega
   have HE := Lib.hid (show R = (0, 0) by rw [<- HR.out]; exact frF_no HJ.out)
   have hbn := HBW.out
   go_wp2
   go_ret2
   exact ⟨by rw [HE.out]; rfl, hbn⟩
end Go.Proofs.YthjlleifpnpfgaaGreatDoor
