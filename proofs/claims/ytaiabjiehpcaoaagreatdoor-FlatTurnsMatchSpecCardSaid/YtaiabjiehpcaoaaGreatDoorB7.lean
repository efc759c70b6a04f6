
/- The walk of the reference's isLess. (Printed by genB7.py.) -/
import Derived.Test.YtaiabjiehpcaoaaGreatDoorB6
namespace Go.Proofs.YtaiabjiehpcaoaaGreatDoor
open Go.RowKit Limb Nmb Work
set_option linter.unusedVariables false
set_option linter.unusedSimpArgs false
theorem nrm_size {u : Int} {p : Nat} (h : decB u (p : Int) = true) : (nrmS u p).size <= 1000 := by
 have hd := least_dec h
 rw [Int.toNat_natCast] at hd
 obtain ⟨h1, h2, h3, h4⟩ := decB_out hd
 have hb := bef_len (u := (leastF u p).1) (p := (leastF u p).2.toNat) (by omega) (by
  have e : (10 : Nat) ^ 15 = 1000000000000000 := by decide
  have e2 : (10 : Nat) ^ 15 < 10 ^ 30 := Nat.pow_lt_pow_right (by decide) (by decide)
  omega)
 unfold nrmS
 show (textL (leastF u p).1 (leastF u p).2.toNat).toArray.size <= 1000
 rw [List.size_toArray]
 unfold textL
 rw [List.length_append, List.length_append]
 have hs : (sgL (leastF u p).1).length <= 1 := by unfold sgL; split <;> simp
 split
 ·simp only [List.length_nil]; omega
 ·rw [List.length_cons]; omega
theorem smp_size {mark : Int} {c : Col} (hk : ColK mark c) : ∀ s ∈ smpL c, s.size <= 9223372036854775807 := by
 have hw := hk.width
 intro s hs
 unfold smpL at hs
 split at hs
 ·obtain rfl := List.mem_singleton.1 hs
  decide
 split at hs
 ·unfold smpT at hs
  rcases List.mem_append.1 hs with h | h
  ·obtain ⟨b, -, rfl⟩ := List.mem_map.1 h
   unfold repS
   rw [bs_size, List.length_replicate]
   omega
  ·split at h
   ·obtain rfl := List.mem_singleton.1 h
    rw [bs_size, List.length_cons, List.length_append, List.length_replicate]
    simp only [List.length_cons, List.length_nil]
    omega
   ·cases h
 ·unfold smpN at hs
  rcases List.mem_append.1 hs with h | h
  ·obtain ⟨p, -, h⟩ := List.mem_flatMap.1 h
   unfold smpP at h
   obtain ⟨d, -, h⟩ := List.mem_flatMap.1 h
   unfold smpD at h
   obtain ⟨u, -, h⟩ := List.mem_flatMap.1 h
   unfold smpE at h
   split at h
   ·rename_i hd
    obtain rfl := List.mem_singleton.1 h
    have := nrm_size hd
    omega
   ·cases h
  ·obtain rfl := List.mem_singleton.1 h
   decide
set_option maxHeartbeats 4000000 in
set_option maxRecDepth 100000 in
theorem risless_c (f g : Fmt) (A B : Option Addr) (cp cq : Nat) (c o : Col) (w : World) (hm : 0 <= f.mark /\ f.mark <= 255) (hm2 : 0 <= g.mark /\ g.mark <= 255) (hk : ColK f.mark c) (hko : ColK g.mark o) (ht : Tab w) :
  Calls Tryz.prog 34 #[fmtG f A cp, fmtG g B cq, colG c, colG o] w (RetB (lessB f g c o) w) := by
 have HSA := Lib.hid (fun wx h => samples_c f A cp c wx hk h)
 have HNE := Lib.hid (smp_ne (c := c) hk.width.1)
 have HSZ := Lib.hid (smp_size hk)
 have HF1 := Lib.hid (fun s h0 hs wx h => rfitsin_c f A cp c s wx h0 hs hm hk h)
 have HF2 := Lib.hid (fun s h0 hs wx h => rfitsin_c g B cq o s wx h0 hs hm2 hko h)
 have HTW := Lib.hid ht
 unfold lessB
 obtain ⟨L, hL⟩ : ∃ x, smpL c = x := ⟨_, rfl⟩
 obtain ⟨G1, hG1⟩ : ∃ x, sfitB f c = x := ⟨_, rfl⟩
 obtain ⟨G2, hG2⟩ : ∃ x, sfitB g o = x := ⟨_, rfl⟩
 rw [hL] at HSA HNE HSZ
 rw [hG1] at HF1
 rw [hG2] at HF2
 rw [hL, hG1, hG2]
 obtain ⟨R, hR⟩ : ∃ x, (L.any fun s => G1 s && !G2 s) = x := ⟨_, rfl⟩
 have HR := Lib.hid hR
 rw [hR]
 clear hL hG1 hG2 hR hk hko ht hm hm2
 unfold RetB at HF1 HF2 ⊢
 unfold RetSts at HSA
 obtain ⟨fm, fq, fks, fd, ft, fc, fs0⟩ := f
 obtain ⟨gm, gq, gks, gd, gt, gc, gs⟩ := g
 obtain ⟨cn, ck, cw, cl, cm, cr, ci, ce⟩ := c
 obtain ⟨on, ok, ow, ol, om, or, oi, oe⟩ := o
 unfold colG fmtG at HF1 HF2 HSA ⊢
 simp only at HF1 HF2 HSA ⊢
 obtain ⟨nk, hnk⟩ : ∃ x, fks.length = x := ⟨_, rfl⟩
 obtain ⟨ng, hng⟩ : ∃ x, gks.length = x := ⟨_, rfl⟩
 rw [hnk] at HF1 HSA ⊢
 rw [hng] at HF2 ⊢
 obtain ⟨n, hn⟩ : ∃ x, L.length = x := ⟨_, rfl⟩
 have HN := Lib.hid hn
 rw [hn] at HSA
 clear hnk hng hn
 have h1 := heap_old (heap_old (heap_old (heap_new w (.cells #[.int .u8 fm, .int .u8 fq, .slice A nk cp, .string fd, .string ft, .string fc, .string fs0] 24) rfl) (.cells #[.int .u8 gm, .int .u8 gq, .slice B ng cq, .string gd, .string gt, .string gc, .string gs] 24)) (.cells #[.string cn, .int .i64 ck, .int .i64 cw, .int .i64 cl, .int .i64 cm, .bool cr, .int .u8 ci, .bool ce] 60)) (.cells #[.string on, .int .i64 ok, .int .i64 ow, .int .i64 ol, .int .i64 om, .bool or, .int .u8 oi, .bool oe] 60)
 have h2 := heap_old (heap_old (heap_new (w.alloc (.cells #[.int .u8 fm, .int .u8 fq, .slice A nk cp, .string fd, .string ft, .string fc, .string fs0] 24)) (.cells #[.int .u8 gm, .int .u8 gq, .slice B ng cq, .string gd, .string gt, .string gc, .string gs] 24) (g := w.heap.size + 1) (by simp)) (.cells #[.string cn, .int .i64 ck, .int .i64 cw, .int .i64 cl, .int .i64 cm, .bool cr, .int .u8 ci, .bool ce] 60)) (.cells #[.string on, .int .i64 ok, .int .i64 ow, .int .i64 ol, .int .i64 om, .bool or, .int .u8 oi, .bool oe] 60)
 have h3 := heap_old (heap_new ((w.alloc (.cells #[.int .u8 fm, .int .u8 fq, .slice A nk cp, .string fd, .string ft, .string fc, .string fs0] 24)).alloc (.cells #[.int .u8 gm, .int .u8 gq, .slice B ng cq, .string gd, .string gt, .string gc, .string gs] 24)) (.cells #[.string cn, .int .i64 ck, .int .i64 cw, .int .i64 cl, .int .i64 cm, .bool cr, .int .u8 ci, .bool ce] 60) (g := w.heap.size + 1 + 1) (by simp)) (.cells #[.string on, .int .i64 ok, .int .i64 ow, .int .i64 ol, .int .i64 om, .bool or, .int .u8 oi, .bool oe] 60)
 have h4 := heap_new (((w.alloc (.cells #[.int .u8 fm, .int .u8 fq, .slice A nk cp, .string fd, .string ft, .string fc, .string fs0] 24)).alloc (.cells #[.int .u8 gm, .int .u8 gq, .slice B ng cq, .string gd, .string gt, .string gc, .string gs] 24)).alloc (.cells #[.string cn, .int .i64 ck, .int .i64 cw, .int .i64 cl, .int .i64 cm, .bool cr, .int .u8 ci, .bool ce] 60)) (.cells #[.string on, .int .i64 ok, .int .i64 ow, .int .i64 ol, .int .i64 om, .bool or, .int .u8 oi, .bool oe] 60) (g := w.heap.size + 1 + 1 + 1) (by simp)
 have hB : Below w.heap.size w ((((w.alloc (.cells #[.int .u8 fm, .int .u8 fq, .slice A nk cp, .string fd, .string ft, .string fc, .string fs0] 24)).alloc (.cells #[.int .u8 gm, .int .u8 gq, .slice B ng cq, .string gd, .string gt, .string gc, .string gs] 24)).alloc (.cells #[.string cn, .int .i64 ck, .int .i64 cw, .int .i64 cl, .int .i64 cm, .bool cr, .int .u8 ci, .bool ce] 60)).alloc (.cells #[.string on, .int .i64 ok, .int .i64 ow, .int .i64 ol, .int .i64 om, .bool or, .int .u8 oi, .bool oe] 60)) := by go_grown
 go_enter Tryz.func34, Tryz.ntmps34
 go_upto_region 1 with fail
 generalize (((w.alloc (.cells #[.int .u8 fm, .int .u8 fq, .slice A nk cp, .string fd, .string ft, .string fc, .string fs0] 24)).alloc (.cells #[.int .u8 gm, .int .u8 gq, .slice B ng cq, .string gd, .string gt, .string gc, .string gs] 24)).alloc (.cells #[.string cn, .int .i64 ck, .int .i64 cw, .int .i64 cl, .int .i64 cm, .bool cr, .int .u8 ci, .bool ce] 60)).alloc (.cells #[.string on, .int .i64 ok, .int .i64 ow, .int .i64 ol, .int .i64 om, .bool or, .int .u8 oi, .bool oe] 60) = w1 at h1 h2 h3 h4 hB ⊢
 have HW := Lib.hid (show ∀ wx, Below w1.heap.size w1 wx -> wx.heap[w.heap.size]? = some (.cells #[.int .u8 fm, .int .u8 fq, .slice A nk cp, .string fd, .string ft, .string fc, .string fs0] 24 (0, 0)) /\ wx.heap[w.heap.size + 1]? = some (.cells #[.int .u8 gm, .int .u8 gq, .slice B ng cq, .string gd, .string gt, .string gc, .string gs] 24 (0, 0)) /\ wx.heap[w.heap.size + 1 + 1]? = some (.cells #[.string cn, .int .i64 ck, .int .i64 cw, .int .i64 cl, .int .i64 cm, .bool cr, .int .u8 ci, .bool ce] 60 (0, 0)) /\ wx.heap[w.heap.size + 1 + 1 + 1]? = some (.cells #[.string on, .int .i64 ok, .int .i64 ow, .int .i64 ol, .int .i64 om, .bool or, .int .u8 oi, .bool oe] 60 (0, 0)) /\ Tab wx /\ Below w.heap.size w wx from fun wx h =>
  ⟨heap_below h1 h, heap_below h2 h, heap_below h3 h, heap_below h4 h, HTW.out.below (below_then h hB hB.size), below_then h hB hB.size⟩)
 clear h1 h2 h3 h4 hB
 obtain ⟨q1, -, q3, -, qt, -⟩ := HW.out _ (Below.refl _ _)
 obtain ⟨⟨p0, p1, p2, p3, p4, p5, p6⟩, -⟩ := obox7 q1
 obtain ⟨⟨x0, x1, x2, x3, x4, x5, x6, x7⟩, -⟩ := obox8 q3
 go_wp2_with fail
 refine (HSA.out _ qt).mono ?_
 rintro _ w2 ⟨X, cap, rfl, hsts, hnb, hb2⟩
 have HST := Lib.hid hsts; have HB2 := Lib.hid hb2
 clear q1 q3 qt p0 p1 p2 p3 p4 p5 p6 x0 x1 x2 x3 x4 x5 x6 x7 hsts hb2 HSA
 go_wp2_with fail
 go_loopw [15] (fun i wr => ∃ j : Nat, j <= n /\ i = .int .i64 j /\ Hid (∀ x, x < j -> (G1 (wd L x) && !G2 (wd L x)) = false) /\ Hid (Below w2.heap.size w2 wr)) (fun i _ => n - (intOf i).toNat)
 case atStart => exact ⟨0, by omega, rfl, Lib.hid (fun x h => absurd h (Nat.not_lt_zero _)), Lib.hid (Below.refl _ _)⟩
 case round =>
  obtain ⟨j, hj, rfl, HT, HB⟩ := hrel
  rcases Nat.lt_or_ge j n with hlt | hge
  ·have tk : decide ((j : Int) < (n : Int)) = true := decide_eq_true (by omega)
   have hjl : j < L.length := by rw [HN.out]; exact hlt
   obtain ⟨b, off, rfl, -, hc⟩ := (HST.out.below HB.out).cells (by omega)
   have c0 := hc j hjl
   have hmem : wd L j ∈ L := by
    unfold wd
    rw [List.getD_eq_getElem?_getD, List.getElem?_eq_getElem hjl]
    exact List.getElem_mem hjl
   have HHIT := Lib.hid (show (G1 (wd L j) && !G2 (wd L j)) = true -> R = true from fun h => HR.out.symm.trans (List.any_eq_true.2 ⟨_, hmem, h⟩))
   have HMISS := Lib.hid (show (G1 (wd L j) && !G2 (wd L j)) = false -> ∀ x, x < j + 1 -> (G1 (wd L x) && !G2 (wd L x)) = false from fun h x hx => by
    rcases Nat.lt_or_ge x j with h2 | h2
    ·exact HT.out x h2
    ·obtain rfl : x = j := by omega
     exact h)
   have HA1 := Lib.hid (HF1.out (wd L j) (HNE.out _ hmem) (HSZ.out _ hmem))
   have HA2 := Lib.hid (HF2.out (wd L j) (HNE.out _ hmem) (HSZ.out _ hmem))
   obtain ⟨s, hs⟩ : ∃ x, wd L j = x := ⟨_, rfl⟩
   rw [hs] at c0 HHIT HMISS HA1 HA2
   have HB3 := Lib.hid (below_then HB.out HB2.out HB2.out.size)
   obtain ⟨q1, -, q3, -, qt, -⟩ := HW.out _ HB3.out
   obtain ⟨⟨p0, p1, p2, p3, p4, p5, p6⟩, -⟩ := obox7 q1
   obtain ⟨⟨x0, x1, x2, x3, x4, x5, x6, x7⟩, -⟩ := obox8 q3
   clear hs hmem hc
   go_wp2_with fail
   refine (HA1.out _ qt).mono ?_
   rintro _ w3 ⟨rfl, hb3⟩
   have HB4 := Lib.hid (below_then hb3 HB3.out HB3.out.size)
   have HB4' := Lib.hid (below_then hb3 HB.out HB.out.size)
   clear q1 q3 qt p0 p1 p2 p3 p4 p5 p6 x0 x1 x2 x3 x4 x5 x6 x7 hb3 HB HB3 HA1 c0
   cases hg1 : G1 s with
   | false =>
    have HM := Lib.hid (HMISS.out (by rw [hg1]; rfl))
    clear hg1
    go_wp2
    go_roundw
    case rel => exact ⟨j + 1, by omega, by go_num, HM, HB4'⟩
    case measure => simp [intOf]; omega
   | true =>
    rw [hg1, Bool.true_and] at HHIT HMISS
    clear hg1
    obtain ⟨-, q2, -, q4, qt, -⟩ := HW.out _ HB4.out
    obtain ⟨⟨p0, p1, p2, p3, p4, p5, p6⟩, -⟩ := obox7 q2
    obtain ⟨⟨x0, x1, x2, x3, x4, x5, x6, x7⟩, -⟩ := obox8 q4
    go_wp2_with fail
    refine (HA2.out _ qt).mono ?_
    rintro _ w4 ⟨rfl, hb5⟩
    have HB5 := Lib.hid (below_then hb5 HB4.out HB4.out.size)
    have HB5' := Lib.hid (below_then hb5 HB4'.out HB4'.out.size)
    clear q2 q4 qt p0 p1 p2 p3 p4 p5 p6 x0 x1 x2 x3 x4 x5 x6 x7 hb5 HB4 HB4' HA2
    cases hg2 : G2 s with
    | true =>
     have HM := Lib.hid (HMISS.out (by rw [hg2]; rfl))
     clear hg2
     go_wp2
     go_roundw
     case rel => exact ⟨j + 1, by omega, by go_num, HM, HB5'⟩
     case measure => simp [intOf]; omega
    | false =>
     have HE := Lib.hid (show R = true from HHIT.out (by rw [hg2]; rfl))
     clear hg2
     go_wp2
     go_ret
     exact ⟨by rw [HE.out]; rfl, (HW.out _ HB5.out).2.2.2.2.2⟩
  ·obtain rfl : j = n := by omega
   have HE := Lib.hid (show R = false by
    rw [<- HR.out]
    refine any_miss fun x hx => ?_
    have h := HT.out x (by rw [<- HN.out]; exact hx)
    unfold wd at h
    rw [List.getD_eq_getElem?_getD, List.getElem?_eq_getElem hx] at h
    exact h)
   go_wp2
   go_ret
   exact ⟨by rw [HE.out]; rfl, (HW.out _ (below_then HB.out HB2.out HB2.out.size)).2.2.2.2.2⟩
end Go.Proofs.YtaiabjiehpcaoaaGreatDoor
