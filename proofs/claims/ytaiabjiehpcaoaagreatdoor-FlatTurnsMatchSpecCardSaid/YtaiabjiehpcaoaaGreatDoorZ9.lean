/- Rows of one format turned into another one, plain. The walks of typeFault and turned. (Printed by genZ8.py.) The walk of turned. (Printed by genZ9.py.) -/
import Derived.Test.YtaiabjiehpcaoaaGreatDoorZ3
import Derived.Test.YtaiabjiehpcaoaaGreatDoorY1
import Derived.Test.YtaiabjiehpcaoaaGreatDoorZ7
import Derived.Test.YtaiabjiehpcaoaaGreatDoorY3
-- merged: ZT Z8 Z9
namespace Go.Proofs.YtaiabjiehpcaoaaGreatDoor
open Limb Nmb Work
set_option linter.unusedVariables false
set_option linter.unusedSimpArgs false
def typeB (f g : Fmt) : Bool := f.kinds.any fun k => k.fields.any fun c =>
 decide (0 <= ixF (nameIs c.name) (katK g k.tag).fields) && decide ((cA (katK g k.tag).fields (ixF (nameIs c.name) (katK g k.tag).fields).toNat).kind ≠ c.kind)
def turnW (k : RKd) (vs : List ByteArray) (c : Col) : ByteArray := if ixF (nameIs c.name) k.fields < 0 then ⟨#[]⟩ else wd vs (ixF (nameIs c.name) k.fields).toNat
def turnV (k o : RKd) (vs : List ByteArray) : List ByteArray := o.fields.map (turnW k vs)
def lostB (o : RKd) (c : Col) (s : ByteArray) : Bool := decide (s ≠ ⟨#[]⟩) && decide (ixF (nameIs c.name) o.fields < 0)
def lostN (k o : RKd) (vs : List ByteArray) : Nat -> Nat
 | 0 => 0
 | j + 1 => lostN k o vs j + if lostB o (cA k.fields j) (wd vs j) = true then 1 else 0
def turnO (f g : Fmt) (r : RowP) : List RowP := if katI g r.tag < 0 then [] else [⟨r.tag, turnV (katK f r.tag) (katK g r.tag) r.vals⟩]
def turnC (f g : Fmt) (r : RowP) : Nat := if katI g r.tag < 0 then 1 else lostN (katK f r.tag) (katK g r.tag) r.vals (katK f r.tag).fields.length
def turnRs (f g : Fmt) (rs : List RowP) : List RowP := rs.flatMap (turnO f g)
def turnLs (f g : Fmt) (rs : List RowP) : Nat -> Nat
 | 0 => 0
 | j + 1 => turnLs f g rs j + turnC f g (rA rs j)
noncomputable def turnE (f g : Fmt) (rs : List RowP) : Int :=
 if checkF f ≠ 0 then checkF f else if checkF g ≠ 0 then checkF g else if askF f rs ≠ 0 then askF f rs else if typeB f g = true then 6 else (rowsF g (turnRs f g rs)).2
noncomputable def turnR (f g : Fmt) (rs : List RowP) : List RowP × Nat × Int := if turnE f g rs ≠ 0 then ([], 0, turnE f g rs) else (turnRs f g rs, turnLs f g rs rs.length, 0)
end Go.Proofs.YtaiabjiehpcaoaaGreatDoor
namespace Go.Proofs.YtaiabjiehpcaoaaGreatDoor
open Go.RowKit Limb Nmb Work
set_option linter.unusedVariables false
set_option linter.unusedSimpArgs false
theorem kat_any {g : Fmt} {GA : Nat -> Option Addr} {GC : Nat -> Nat} {W : World -> Prop} {B : Option Addr} (t : ByteArray) (hg : ∀ w, W w -> Kinds w B g.kinds GA GC) :
  ∃ (ok : Bool) (O : RKd) (OA : Option Addr) (OC : Nat), (decide (0 <= katI g t) = ok /\ katK g t = O /\ katA g GA t = OA /\ katC g GC t = OC) /\ (∀ w, W w -> Cols w OA O.fields) /\ (ok = true ↔ ¬ katI g t < 0) := by
 rcases kat_cases g GA GC t with ⟨e1, e2, e3, e4⟩ | ⟨k, hk, e1, e2, e3, e4⟩
 ·refine ⟨false, kind0, none, 0, ⟨by rw [e1]; decide, e2, e3, e4⟩, fun w _ => ⟨⟨fun c hc => (by cases hc), by decide⟩, fun h => absurd h (Nat.not_lt_zero _)⟩, ⟨fun h => (by cases h), fun h => absurd (by rw [e1]; decide) h⟩⟩
 ·exact ⟨true, kA g.kinds k, GA k, GC k, ⟨by rw [e1]; exact decide_eq_true (by omega), e2, e3, e4⟩, fun w h => ((hg w h).2.2 k hk).1, ⟨fun _ => by omega, fun _ => rfl⟩⟩
def typeB2 (o : RKd) (c : Col) : Bool := decide (0 <= ixF (nameIs c.name) o.fields) && decide ((cA o.fields (ixF (nameIs c.name) o.fields).toNat).kind ≠ c.kind)
def typeB1 (g : Fmt) (k : RKd) : Bool := k.fields.any (typeB2 (katK g k.tag))
theorem any_hit {α : Type} {q : α -> Bool} {l : List α} {x : α} (h : x ∈ l) (hq : q x = true) : l.any q = true := List.any_eq_true.2 ⟨x, h, hq⟩
theorem any_miss {α : Type} {q : α -> Bool} {l : List α} (h : ∀ j (hj : j < l.length), q l[j] = false) : l.any q = false := by
 rw [Bool.eq_false_iff]
 intro h2
 obtain ⟨x, hx, h3⟩ := List.any_eq_true.1 h2
 obtain ⟨j, hj, rfl⟩ := List.getElem_of_mem hx
 rw [h j hj] at h3
 cases h3
set_option maxHeartbeats 8000000 in
set_option maxRecDepth 100000 in
theorem typefault_c (f g : Fmt) (A B : Option Addr) (cp cq : Nat) (FA GA : Nat -> Option Addr) (FC GC : Nat -> Nat) (w : World) (ho : Kinds w A f.kinds FA FC) (hg : Kinds w B g.kinds GA GC) (hf : checkF f = 0) :
  Calls Tryz.prog 20 #[fmtG f A cp, fmtG g B cq] w (RetB (typeB f g) w) := by
 have HKF := Lib.hid ho; have HKG := Lib.hid hg
 have HKA2 := Lib.hid (fun t w h => kindat_c g B cq GA GC t w h)
 have HFM := Lib.hid (checkF_ok hf)
 obtain ⟨R, hR⟩ : ∃ x, typeB f g = x := ⟨_, rfl⟩
 have HR := Lib.hid (show f.kinds.any (typeB1 g) = R from hR)
 rw [hR]
 clear hR ho hg hf
 obtain ⟨fm, fq, fks, fd, ft, fc, fs0⟩ := f
 obtain ⟨gm, gq, gks, gd, gt, gc, gs⟩ := g
 unfold fmtG at HKA2 ⊢
 unfold RetB
 simp only at HKA2 HKF HKG HR ⊢
 obtain ⟨nk, hnk⟩ : ∃ x, fks.length = x := ⟨_, rfl⟩
 obtain ⟨ng, hng⟩ : ∃ x, gks.length = x := ⟨_, rfl⟩
 have HNK := Lib.hid hnk
 rw [hnk]
 rw [hng] at HKA2 ⊢
 have hnk30 : nk <= 30 := by rw [<- hnk]; exact HFM.out.some.2
 clear hnk hng
 have hP1 := heap_old (heap_new w (.cells #[.int .u8 fm, .int .u8 fq, .slice A nk cp, .string fd, .string ft, .string fc, .string fs0] 24) rfl) (.cells #[.int .u8 gm, .int .u8 gq, .slice B ng cq, .string gd, .string gt, .string gc, .string gs] 24)
 have hP2 := heap_new (w.alloc (.cells #[.int .u8 fm, .int .u8 fq, .slice A nk cp, .string fd, .string ft, .string fc, .string fs0] 24)) (.cells #[.int .u8 gm, .int .u8 gq, .slice B ng cq, .string gd, .string gt, .string gc, .string gs] 24) (g := w.heap.size + 1) (by simp)
 have hB1 : Below w.heap.size w ((w.alloc (.cells #[.int .u8 fm, .int .u8 fq, .slice A nk cp, .string fd, .string ft, .string fc, .string fs0] 24)).alloc (.cells #[.int .u8 gm, .int .u8 gq, .slice B ng cq, .string gd, .string gt, .string gc, .string gs] 24)) := by go_grown
 go_enter Tryz.func20, Tryz.ntmps20
 go_upto_region 1 with fail
 generalize (w.alloc (.cells #[.int .u8 fm, .int .u8 fq, .slice A nk cp, .string fd, .string ft, .string fc, .string fs0] 24)).alloc (.cells #[.int .u8 gm, .int .u8 gq, .slice B ng cq, .string gd, .string gt, .string gc, .string gs] 24) = w1 at hP1 hP2 hB1 ⊢
 have HW := Lib.hid (show ∀ wx, Below w1.heap.size w1 wx -> wx.heap[w.heap.size + 1]? = some (.cells #[.int .u8 gm, .int .u8 gq, .slice B ng cq, .string gd, .string gt, .string gc, .string gs] 24 (0, 0)) /\ Kinds wx A fks FA FC /\ Kinds wx B gks GA GC /\ Below w.heap.size w wx from fun wx h => by
  have h2 := below_then h hB1 hB1.size
  exact ⟨heap_below hP2 h, HKF.out.below h2, HKG.out.below h2, h2⟩)
 obtain ⟨⟨p0, p1, p2, p3, p4, p5, p6⟩, -⟩ := obox7 hP1
 clear hP2 hB1
 go_wp2_with fail
 go_loopw [15] (fun i wr => ∃ (j : Nat), j <= nk /\ i = .int .i64 j /\ Hid (∀ x, x < j -> typeB1 ⟨gm, gq, gks, gd, gt, gc, gs⟩ (kA fks x) = false) /\ Hid (Below w1.heap.size w1 wr)) (fun i _ => nk - (intOf i).toNat)
 case atStart => exact ⟨0, by omega, rfl, Lib.hid (fun x h => absurd h (Nat.not_lt_zero _)), Lib.hid (Below.refl _ _)⟩
 case round =>
  clear hP1 p0 p1 p2 p3 p4 p5 p6
  obtain ⟨j, hj, rfl, HT, HB⟩ := hrel
  have hzr := HB.out.size
  rcases Nat.lt_or_ge j nk with hlt | hge
  ·have tk : decide ((j : Int) < (nk : Int)) = true := decide_eq_true (by omega)
   have hjl : j < fks.length := by rw [HNK.out]; exact hlt
   obtain ⟨b, off, rfl, hbw, c0, c1, c2, c3⟩ := (HW.out _ HB.out).2.1.cells hjl
   have HCO := Lib.hid (fun wx h => kinds_cols (HW.out wx h).2.1 hjl)
   have hmny := (HFM.out.kinds j hjl).many
   simp only at hmny
   have HHIT := Lib.hid (show typeB1 ⟨gm, gq, gks, gd, gt, gc, gs⟩ (kA fks j) = true -> R = true from fun h => HR.out.symm.trans (any_hit (by rw [<- kA_get hjl]; exact List.getElem_mem hjl) h))
   have HMISS := Lib.hid (show typeB1 ⟨gm, gq, gks, gd, gt, gc, gs⟩ (kA fks j) = false -> ∀ x, x < j + 1 -> typeB1 ⟨gm, gq, gks, gd, gt, gc, gs⟩ (kA fks x) = false from fun h x hx => by
    rcases Nat.lt_or_ge x j with h2 | h2
    ·exact HT.out x h2
    ·obtain rfl : x = j := by omega
     exact h)
   obtain ⟨K, hK⟩ : ∃ x, kA fks j = x := ⟨_, rfl⟩
   rw [hK] at c0 c1 c2 c3 HCO hmny HHIT HMISS
   generalize FA j = KA at c1 HCO
   generalize FC j = KC at c1
   obtain ⟨kt, kfs, km, ku⟩ := K
   simp only at c0 c1 c2 c3 HCO hmny
   obtain ⟨nf, hnf⟩ : ∃ x, kfs.length = x := ⟨_, rfl⟩
   have HNF := Lib.hid hnf
   rw [hnf] at c1 hmny
   have HK3 := Lib.hid (heap_new wr (.cells #[.string kt, .slice KA nf KC, .int .i64 km, .string ku] 52) rfl)
   have HB3 := Lib.hid (show Below w1.heap.size w1 (wr.alloc (.cells #[.string kt, .slice KA nf KC, .int .i64 km, .string ku] 52)) from HB.out.alloc hzr _)
   clear hK hnf hjl
   go_upto_region 4 with fail
   obtain ⟨kb, hkb⟩ : ∃ x, wr.heap.size = x := ⟨_, rfl⟩
   rw [hkb] at HK3
   try rw [hkb]
   generalize wr.alloc (.cells #[.string kt, .slice KA nf KC, .int .i64 km, .string ku] 52) = w3 at HK3 HB3 ⊢
   clear hkb c0 c1 c2 c3 hbw HB hzr
   obtain ⟨q2, -, qg, -⟩ := HW.out _ HB3.out
   obtain ⟨⟨q0, q1, q2, q3, q4, q5, q6⟩, -⟩ := obox7 q2
   obtain ⟨⟨k0, k1, k2, k3⟩, -, -⟩ := obox4 HK3.out
   obtain ⟨ok, O, OA, OC, hkk, hcols, hok⟩ := kat_any (g := ⟨gm, gq, gks, gd, gt, gc, gs⟩) (W := fun wx => Below w1.heap.size w1 wx) kt (fun wx h => (HW.out wx h).2.2.1)
   go_wp2_with fail
   refine (HKA2.out kt _ qg).mono ?_
   rintro _ w4 ⟨rfl, hb4⟩
   rw [hkk.1, hkk.2.1, hkk.2.2.1, hkk.2.2.2]
   have HT1 := Lib.hid (show typeB1 ⟨gm, gq, gks, gd, gt, gc, gs⟩ ⟨kt, kfs, km, ku⟩ = kfs.any (typeB2 O) by unfold typeB1; rw [hkk.2.1])
   have HCL := Lib.hid hcols
   have HK4 := Lib.hid (heap_below HK3.out hb4)
   have HB4 := Lib.hid (below_then hb4 HB3.out HB3.out.size)
   clear q0 q1 q2 q3 q4 q5 q6 k0 k1 k2 k3 qg hb4 HK3 HB3 hkk hcols hok
   rw [HT1.out] at HHIT HMISS
   have HT2 := Lib.hid (fun c => (show typeB2 O c = (decide (0 <= ixF (nameIs c.name) O.fields) && decide ((cA O.fields (ixF (nameIs c.name) O.fields).toNat).kind ≠ c.kind)) from rfl))
   have HCA := Lib.hid (fun t wx (h : Below w1.heap.size w1 wx) => colat_c O OA OC t wx (HCL.out wx h))
   have HIX := Lib.hid (fun t => ixF_spec (nameIs t) O.fields)
   generalize hTB : typeB2 O = TB at HHIT HMISS HT2
   clear hTB HT1
   obtain ⟨ot, ofs, om, ou⟩ := O
   unfold kindG at HCA ⊢
   simp only at HCL HCA HIX ⊢
   obtain ⟨no, hno⟩ : ∃ x, ofs.length = x := ⟨_, rfl⟩
   have HNO := Lib.hid hno
   rw [hno] at HCA ⊢
   have HK5 := Lib.hid (heap_old HK4.out (.cells #[.string ot, .slice OA no OC, .int .i64 om, .string ou] 52)); have HD5 := Lib.hid (heap_new w4 (.cells #[.string ot, .slice OA no OC, .int .i64 om, .string ou] 52) rfl)
   have HB5 := Lib.hid (show Below w1.heap.size w1 (w4.alloc (.cells #[.string ot, .slice OA no OC, .int .i64 om, .string ou] 52)) from HB4.out.alloc HB4.out.size _)
   clear HK4 HB4 hno
   go_upto_region 5 with fail
   obtain ⟨ob, hob⟩ : ∃ x, w4.heap.size = x := ⟨_, rfl⟩
   rw [hob] at HD5
   try rw [hob]
   generalize w4.alloc (.cells #[.string ot, .slice OA no OC, .int .i64 om, .string ou] 52) = w5 at HK5 HD5 HB5 ⊢
   have HOB := Lib.hid (lt_heap HD5.out); have HKB0 := Lib.hid (lt_heap HK5.out)
   clear hob
   obtain ⟨⟨k0, k1, k2, k3⟩, -, -⟩ := obox4 HK5.out
   go_wp2_with fail
   go_loopw [29] (fun i wr => ∃ (i' : Nat), i' <= nf /\ i = .int .i64 i' /\ Hid (∀ x, x < i' -> TB (cA kfs x) = false) /\ Hid (Below w5.heap.size w5 wr)) (fun i _ => nf - (intOf i).toNat)
   case atStart => exact ⟨0, by omega, rfl, Lib.hid (fun x h => absurd h (Nat.not_lt_zero _)), Lib.hid (Below.refl _ _)⟩
   case round =>
    clear k0 k1 k2 k3
    obtain ⟨i, hi', rfl, HTI, HBI⟩ := hrel
    have hzr := HBI.out.size
    have HBW := Lib.hid (below_then HBI.out HB5.out HB5.out.size)
    rcases Nat.lt_or_ge i nf with hlt2 | hge2
    ·have hil : i < kfs.length := by rw [HNF.out]; exact hlt2
     obtain ⟨cb, co, rfl, hcb, d0, d1, d2, d3, d4, d5, d6, d7⟩ := (HCO.out _ HBW.out).cells hil
     have HH2 := Lib.hid (show TB (cA kfs i) = true -> R = true from fun h => HHIT.out (any_hit (by rw [<- cA_get hil]; exact List.getElem_mem hil) h))
     have HM2 := Lib.hid (show TB (cA kfs i) = false -> ∀ x, x < i + 1 -> TB (cA kfs x) = false from fun h x hx => by
      rcases Nat.lt_or_ge x i with h2 | h2
      ·exact HTI.out x h2
      ·obtain rfl : x = i := by omega
       exact h)
     obtain ⟨C, hC⟩ : ∃ x, cA kfs i = x := ⟨_, rfl⟩
     rw [hC] at d0 d1 d2 d3 d4 d5 d6 d7 HH2 HM2
     obtain ⟨cn, ck, cw, cl, cm, cr, ci, ce⟩ := C
     simp only at d0 d1 d2 d3 d4 d5 d6 d7
     have HTC := Lib.hid (HT2.out ⟨cn, ck, cw, cl, cm, cr, ci, ce⟩)
     have HIXC := Lib.hid (HIX.out cn)
     have HCAC := Lib.hid (fun wx h => HCA.out cn wx h)
     have HCB := Lib.hid (heap_new wr (.cells #[.string cn, .int .i64 ck, .int .i64 cw, .int .i64 cl, .int .i64 cm, .bool cr, .int .u8 ci, .bool ce] 60) rfl)
     have HDB := Lib.hid (heap_old (heap_below HD5.out HBI.out) (.cells #[.string cn, .int .i64 ck, .int .i64 cw, .int .i64 cl, .int .i64 cm, .bool cr, .int .u8 ci, .bool ce] 60))
     have HB6 := Lib.hid (show Below w5.heap.size w5 (wr.alloc (.cells #[.string cn, .int .i64 ck, .int .i64 cw, .int .i64 cl, .int .i64 cm, .bool cr, .int .u8 ci, .bool ce] 60)) from HBI.out.alloc hzr _)
     clear hC hil
     go_upto_region 8 with fail
     obtain ⟨cb2, hcb2⟩ : ∃ x, wr.heap.size = x := ⟨_, rfl⟩
     rw [hcb2] at HCB
     try rw [hcb2]
     generalize wr.alloc (.cells #[.string cn, .int .i64 ck, .int .i64 cw, .int .i64 cl, .int .i64 cm, .bool cr, .int .u8 ci, .bool ce] 60) = w6 at HCB HDB HB6 ⊢
     clear hcb2 d0 d1 d2 d3 d4 d5 d6 d7 hcb HBI HBW hzr
     obtain ⟨⟨o0, o1, o2, o3⟩, -, -⟩ := obox4 HDB.out
     obtain ⟨⟨x0, x1, x2, x3, x4, x5, x6, x7⟩, -⟩ := obox8 HCB.out
     go_wp2_with fail
     refine (HCAC.out _ (below_then HB6.out HB5.out HB5.out.size)).mono ?_
     rintro _ w7 ⟨rfl, hb7⟩
     have HDB7 := Lib.hid (heap_below HDB.out hb7); have HCB7 := Lib.hid (heap_below HCB.out hb7)
     have HB7 := Lib.hid (below_then hb7 HB6.out HB6.out.size)
     clear o0 o1 o2 o3 x0 x1 x2 x3 x4 x5 x6 x7 hb7 HDB HCB HB6 HCAC
     obtain ⟨⟨o0, o1, o2, o3⟩, -, -⟩ := obox4 HDB7.out
     obtain ⟨⟨x0, x1, x2, x3, x4, x5, x6, x7⟩, -⟩ := obox8 HCB7.out
     rcases HIXC.out with ⟨e1, -⟩ | ⟨ic, hic, e1, -, -⟩
     ·have HTF := Lib.hid (show TB ⟨cn, ck, cw, cl, cm, cr, ci, ce⟩ = false by rw [HTC.out, e1]; rfl)
      rw [e1]
      have td : decide ((0 : Int) <= -1) = false := by decide
      clear e1
      go_upto_region 9 with fail
      go_quiet (fail)
      go_wp2
      go_roundw
      case rel => exact ⟨i + 1, by omega, by go_num, Lib.hid (HM2.out HTF.out), Lib.hid (below_drewN HB7.out _)⟩
      case measure => simp [intOf]; omega
     obtain ⟨ob2, oo, rfl, hob2, y0, y1, y2, y3, y4, y5, y6, y7⟩ := (HCL.out _ (below_then HB7.out HB5.out HB5.out.size)).cells (j := ic) hic
     have HTI2 := Lib.hid (show TB ⟨cn, ck, cw, cl, cm, cr, ci, ce⟩ = decide ((cA ofs ic).kind ≠ ck) by rw [HTC.out, e1, decide_eq_true (show (0 : Int) <= (ic : Int) by omega), Int.toNat_natCast]; rfl)
     have hicn : ic < no := by rw [<- HNO.out]; exact hic
     have td : decide ((0 : Int) <= (ic : Int)) = true := decide_eq_true (by omega)
     rw [e1]
     obtain ⟨okd, hokd⟩ : ∃ x, (cA ofs ic).kind = x := ⟨_, rfl⟩
     rw [hokd] at y1 HTI2
     clear e1 y0 y2 y3 y4 y5 y6 y7 hokd
     by_cases hk : okd = ck
     ·have HTF := Lib.hid (show TB ⟨cn, ck, cw, cl, cm, cr, ci, ce⟩ = false by rw [HTI2.out]; exact decide_eq_false (fun h => h hk))
      have hk2 : (okd != ck) = false := by simpa using hk
      clear hk
      go_upto_region 9 with fail
      go_quiet (fail)
      go_wp2
      go_roundw
      case rel => exact ⟨i + 1, by omega, by go_num, Lib.hid (HM2.out HTF.out), Lib.hid (below_drewN HB7.out _)⟩
      case measure => simp [intOf]; omega
     ·have HE := Lib.hid (show R = true from HH2.out (by rw [HTI2.out]; exact decide_eq_true hk))
      have hk2 : (okd != ck) = true := by simpa using hk
      clear hk
      go_upto_region 9 with fail
      go_quiet (fail)
      go_wp2
      go_ret
      exact ⟨by rw [HE.out]; rfl, (HW.out _ (below_drewN (below_then HB7.out HB5.out HB5.out.size) _)).2.2.2⟩
    ·obtain rfl : i = nf := by omega
     have HM3 := Lib.hid (HMISS.out (any_miss fun x hx => by rw [cA_get hx]; exact HTI.out x (by rw [<- HNF.out]; exact hx)))
     go_wp2
     go_roundw
     case rel => exact ⟨j + 1, by omega, by go_num, HM3, HBW⟩
     case measure => simp [intOf]; omega
  ·obtain rfl : j = nk := by omega
   have HE := Lib.hid (show R = false from HR.out.symm.trans (any_miss fun x hx => by rw [kA_get hx]; exact HT.out x (by rw [<- HNK.out]; exact hx)))
   go_wp2
   go_ret
   exact ⟨by rw [HE.out]; rfl, (HW.out _ HB.out).2.2.2⟩
theorem own_ty {w w' : World} {base : Nat} {e : TypeId} {size n g : Nat} {v : Value} {xs : List Value} {cs : Array Value} {U : TypeId} (h : w.ownsRow base e size v n xs) (hg : w.grownBy w' v.ownBlock) (hh : w.heap[g]? = some (.cells cs U (0, 0))) (hT : U ≠ e) : w'.heap[g]? = some (.cells cs U (0, 0)) := grown_type h hg hh hT
theorem turnV_take {k o : RKd} {vs : List ByteArray} {j : Nat} (h : j < o.fields.length) : (o.fields.take (j + 1)).map (turnW k vs) = (o.fields.take j).map (turnW k vs) ++ [turnW k vs (cA o.fields j)] := by
 rw [List.take_succ_eq_append_getElem h, List.map_append, cA_get h]
 rfl
def RetTurn (k o : RKd) (r : RowP) (w : World) (e : Ending) (w' : World) : Prop := ∃ X c, e = .returned (.tuple #[.agg #[.string r.tag, .slice X (turnV k o r.vals).length c], .int .i64 (lostN k o r.vals k.fields.length : Nat)]) /\
 w'.ownsRow w.heap.size 9 1 (.slice X (turnV k o r.vals).length c) (turnV k o r.vals).length (ystrV (turnV k o r.vals)) /\ Below w.heap.size w w'
theorem lostN_le (k o : RKd) (vs : List ByteArray) : ∀ j, lostN k o vs j <= j
 | 0 => Nat.le_refl _
 | j + 1 => by
  have := lostN_le k o vs j
  unfold lostN
  split <;> omega
theorem turnW_size {k : RKd} {vs : List ByteArray} (h : ∀ s ∈ vs, s.size <= 9223372036854775807) (c : Col) : (turnW k vs c).size <= 9223372036854775807 := by
 unfold turnW
 split
 ·decide
 ·exact wd_size h _
theorem own_set9 {w : World} {B n g i : Nat} {v : Value} {xs : List Value} {cs : Array Value} {U : TypeId} (h : w.ownsRow B 9 1 v n xs) (hh : w.heap[g]? = some (.cells cs U (0, 0))) (hU : U ≠ 9) (u : Value) : (w.setCell ⟨g, i, none⟩ u).ownsRow B 9 1 v n xs :=
 own_keepT h fun g' cs' h' => heap_far h' (p := ⟨g, i, none⟩) (fun e => hU (by
  have e' : g' = g := e
  subst e'
  rw [hh] at h'
  injection h' with h'
  injection h')) u
set_option maxHeartbeats 8000000 in
set_option maxRecDepth 100000 in
theorem turned_c (k o : RKd) (KA OA : Option Addr) (KC OC : Nat) (r : RowP) (RA : Option Addr) (RC : Nat) (w : World) (hk : Cols w KA k.fields) (ho : Cols w OA o.fields) (hr : RowM w r RA RC) (hlen : r.vals.length = k.fields.length) (hk50 : k.fields.length <= 50) (ho50 : o.fields.length <= 50) :
  Calls Tryz.prog 22 #[kindG k KA KC, kindG o OA OC, rowG r RA RC] w (RetTurn k o r w) := by
 obtain ⟨i0, hi⟩ : ∃ i, Tryz.prog.info? 9 = some i := ⟨_, rfl⟩
 have hz0i : i0.zero = some (.string ⟨#[]⟩) := by obtain rfl := Option.some.inj (hi.symm.trans rfl); rfl
 have hz1i : i0.size = 1 := by obtain rfl := Option.some.inj (hi.symm.trans rfl); rfl
 have hz2i : i0.bytes = 16 := by obtain rfl := Option.some.inj (hi.symm.trans rfl); rfl
 have HI0 := Lib.hid hi; have HZ0 := Lib.hid hz0i; have HZ1 := Lib.hid hz1i; have HZ2 := Lib.hid hz2i
 clear hi hz0i hz1i hz2i
 have HCK := Lib.hid (fun t wx (h : Below w.heap.size w wx) => colat_c k KA KC t wx (hk.below h))
 have HCO := Lib.hid (fun t wx (h : Below w.heap.size w wx) => colat_c o OA OC t wx (ho.below h))
 have HIK := Lib.hid (fun t => ixF_spec (nameIs t) k.fields)
 have HIO := Lib.hid (fun t => ixF_lo (nameIs t) o.fields)
 have HK := Lib.hid hk; have HO := Lib.hid ho; have HR := Lib.hid hr
 have HV := Lib.hid hlen
 have HTV := Lib.hid (show (turnV k o r.vals).length = o.fields.length by unfold turnV; rw [List.length_map])
 have HTK := Lib.hid (fun j (h : j < o.fields.length) => turnV_take (k := k) (vs := r.vals) h)
 have HTE := Lib.hid (show turnV k o r.vals = (o.fields.take o.fields.length).map (turnW k r.vals) by rw [List.take_length]; rfl)
 have HLE := Lib.hid (fun j => lostN_le k o r.vals j)
 have HLS := Lib.hid (show ∀ j, lostN k o r.vals (j + 1) = lostN k o r.vals j + if lostB o (cA k.fields j) (wd r.vals j) = true then 1 else 0 from fun j => rfl)
 have HLB := Lib.hid (show ∀ c s, lostB o c s = (decide (s ≠ ⟨#[]⟩) && decide (ixF (nameIs c.name) o.fields < 0)) from fun c s => rfl)
 have HTW := Lib.hid (show ∀ c, turnW k r.vals c = if ixF (nameIs c.name) k.fields < 0 then ⟨#[]⟩ else wd r.vals (ixF (nameIs c.name) k.fields).toNat from fun c => rfl)
 unfold RetTurn
 obtain ⟨TV, hTV⟩ : ∃ x, turnV k o r.vals = x := ⟨_, rfl⟩
 obtain ⟨LN, hLN⟩ : ∃ x, lostN k o r.vals = x := ⟨_, rfl⟩
 obtain ⟨LB, hLB⟩ : ∃ x, lostB o = x := ⟨_, rfl⟩
 obtain ⟨TW, hTW⟩ : ∃ x, turnW k r.vals = x := ⟨_, rfl⟩
 rw [hTV] at HTV HTE
 rw [hTW] at HTK HTE HTW
 rw [hLN] at HLE HLS
 rw [hLB] at HLS HLB
 rw [hTV, hLN]
 clear hTV hLN hLB hTW hk ho hr hlen
 obtain ⟨kt, kfs, km, ku⟩ := k
 obtain ⟨ot, ofs, om, ou⟩ := o
 obtain ⟨rt, vs⟩ := r
 unfold kindG at HCK HCO ⊢
 unfold rowG
 simp only at HCK HCO HIK HIO HK HO HV HTV HTK HTE HLS HLB HTW hk50 ho50 ⊢
 obtain ⟨nf, hnf⟩ : ∃ x, kfs.length = x := ⟨_, rfl⟩
 obtain ⟨no, hno⟩ : ∃ x, ofs.length = x := ⟨_, rfl⟩
 obtain ⟨nv, hnv⟩ : ∃ x, vs.length = x := ⟨_, rfl⟩
 obtain ⟨nt, hnt⟩ : ∃ x, TV.length = x := ⟨_, rfl⟩
 have HNF := Lib.hid hnf; have HNO := Lib.hid hno; have HNV := Lib.hid hnv; have HNT := Lib.hid hnt
 rw [hnf] at HCK HV hk50 ⊢
 rw [hno] at HCO HTV HTE ho50 ⊢
 rw [hnt] at HTV ⊢
 rw [hnv] at HV ⊢
 have HTN := Lib.hid HTV.out; have HVN := Lib.hid HV.out
 clear hnf hno hnv hnt
 have h1 := heap_old (heap_old (heap_old (heap_old (heap_new w (.cells #[.string kt, .slice KA nf KC, .int .i64 km, .string ku] 52) rfl) (.cells #[.string ot, .slice OA no OC, .int .i64 om, .string ou] 52)) (.cells #[.string rt, .slice RA nv RC] 49)) (.cells #[.string ⟨#[]⟩, .slice none 0 0] 49)) (.cells #[.string rt, .slice none 0 0] 49)
 have h2 := heap_old (heap_old (heap_old (heap_new (w.alloc (.cells #[.string kt, .slice KA nf KC, .int .i64 km, .string ku] 52)) (.cells #[.string ot, .slice OA no OC, .int .i64 om, .string ou] 52) (g := w.heap.size + 1) (by simp)) (.cells #[.string rt, .slice RA nv RC] 49)) (.cells #[.string ⟨#[]⟩, .slice none 0 0] 49)) (.cells #[.string rt, .slice none 0 0] 49)
 have h3 := heap_old (heap_old (heap_new ((w.alloc (.cells #[.string kt, .slice KA nf KC, .int .i64 km, .string ku] 52)).alloc (.cells #[.string ot, .slice OA no OC, .int .i64 om, .string ou] 52)) (.cells #[.string rt, .slice RA nv RC] 49) (g := w.heap.size + 1 + 1) (by simp)) (.cells #[.string ⟨#[]⟩, .slice none 0 0] 49)) (.cells #[.string rt, .slice none 0 0] 49)
 have h4 := heap_old (heap_new (((w.alloc (.cells #[.string kt, .slice KA nf KC, .int .i64 km, .string ku] 52)).alloc (.cells #[.string ot, .slice OA no OC, .int .i64 om, .string ou] 52)).alloc (.cells #[.string rt, .slice RA nv RC] 49)) (.cells #[.string ⟨#[]⟩, .slice none 0 0] 49) (g := w.heap.size + 1 + 1 + 1) (by simp)) (.cells #[.string rt, .slice none 0 0] 49)
 have h5 := heap_new ((((w.alloc (.cells #[.string kt, .slice KA nf KC, .int .i64 km, .string ku] 52)).alloc (.cells #[.string ot, .slice OA no OC, .int .i64 om, .string ou] 52)).alloc (.cells #[.string rt, .slice RA nv RC] 49)).alloc (.cells #[.string ⟨#[]⟩, .slice none 0 0] 49)) (.cells #[.string rt, .slice none 0 0] 49) (g := w.heap.size + 1 + 1 + 1 + 1) (by simp)
 have hB : Below w.heap.size w (((((w.alloc (.cells #[.string kt, .slice KA nf KC, .int .i64 km, .string ku] 52)).alloc (.cells #[.string ot, .slice OA no OC, .int .i64 om, .string ou] 52)).alloc (.cells #[.string rt, .slice RA nv RC] 49)).alloc (.cells #[.string ⟨#[]⟩, .slice none 0 0] 49)).alloc (.cells #[.string rt, .slice none 0 0] 49)) := by go_grown
 go_enter Tryz.func22, Tryz.ntmps22
 obtain ⟨r0, r1, -, -, -⟩ := box2 (heap_old (heap_new ((w.alloc (.cells #[.string kt, .slice KA nf KC, .int .i64 km, .string ku] 52)).alloc (.cells #[.string ot, .slice OA no OC, .int .i64 om, .string ou] 52)) (.cells #[.string rt, .slice RA nv RC] 49) (g := w.heap.size + 1 + 1) (by simp)) (.cells #[.string ⟨#[]⟩, .slice none 0 0] 49))
 go_upto_region 2 with fail
 obtain ⟨ob, hob⟩ : ∃ x, w.heap.size + 1 + 1 + 1 + 1 = x := ⟨_, rfl⟩
 have HOBE := Lib.hid hob
 rw [hob] at h5
 try rw [hob]
 generalize ((((w.alloc (.cells #[.string kt, .slice KA nf KC, .int .i64 km, .string ku] 52)).alloc (.cells #[.string ot, .slice OA no OC, .int .i64 om, .string ou] 52)).alloc (.cells #[.string rt, .slice RA nv RC] 49)).alloc (.cells #[.string ⟨#[]⟩, .slice none 0 0] 49)).alloc (.cells #[.string rt, .slice none 0 0] 49) = w5 at h1 h2 h3 h4 h5 hB ⊢
 have HW := Lib.hid (show ∀ wx, Below ob w5 wx -> wx.heap[w.heap.size]? = some (.cells #[.string kt, .slice KA nf KC, .int .i64 km, .string ku] 52 (0, 0)) /\ wx.heap[w.heap.size + 1]? = some (.cells #[.string ot, .slice OA no OC, .int .i64 om, .string ou] 52 (0, 0)) /\ wx.heap[w.heap.size + 1 + 1]? = some (.cells #[.string rt, .slice RA nv RC] 49 (0, 0)) /\ wx.heap[w.heap.size + 1 + 1 + 1]? = some (.cells #[.string ⟨#[]⟩, .slice none 0 0] 49 (0, 0)) /\ Below w.heap.size w wx from fun wx h =>
  ⟨(h.block _ (by omega)).trans h1, (h.block _ (by omega)).trans h2, (h.block _ (by omega)).trans h3, (h.block _ (by omega)).trans h4, hB.trans (h.mono (by omega))⟩)
 have HX0 := Lib.hid h5
 have HB0 : Hid (Below ob w5 w5) := Lib.hid (Below.refl _ _)
 obtain ⟨⟨o0, o1, o2, o3⟩, -, -⟩ := obox4 h2
 have hobw : w.heap.size + 4 = ob := by rw [<- hob]
 clear h1 h2 h3 h4 h5 hB r0 r1 hob
 go_wp2_with fail
 clear o0 o1 o2 o3
 go_loopw [22] (fun i wr => ∃ (j : Nat) (X : Option Addr) (c : Nat), j <= no /\ i = .int .i64 j /\ Hid (wr.ownsRow ob 9 1 (.slice X j c) j (ystrV ((ofs.take j).map TW))) /\ Hid (wr.heap[ob]? = some (.cells #[.string rt, .slice X j c] 49 (0, 0))) /\ Hid (Below ob w5 wr)) (fun i _ => no - (intOf i).toNat)
 case atStart => exact ⟨0, none, 0, by omega, rfl, Lib.hid (World.ownsRow_nil _ _ _ _), HX0, HB0⟩
 case round =>
  clear HX0 HB0
  obtain ⟨j, X, c, hj, rfl, HOW, HX, HB⟩ := hrel
  have hzr : ob < wr.heap.size := lt_heap HX.out
  obtain ⟨q1, q2, q3, q4, qb⟩ := HW.out _ HB.out
  have QB := Lib.hid qb
  rcases Nat.lt_or_ge j no with hlt | hge
  ·have hjl : j < ofs.length := by rw [HNO.out]; exact hlt
   obtain ⟨cb, co, rfl, hcb, d0, d1, d2, d3, d4, d5, d6, d7⟩ := (HO.out.below QB.out).cells hjl
   have HT := Lib.hid (HTK.out j (by rw [HNO.out]; exact hlt))
   have HTC := Lib.hid (HTW.out (cA ofs j))
   obtain ⟨C, hC⟩ : ∃ x, cA ofs j = x := ⟨_, rfl⟩
   rw [hC] at d0 d1 d2 d3 d4 d5 d6 d7 HT HTC
   obtain ⟨cn, ck, cw, cl, cm, cr, ci, ce⟩ := C
   simp only at d0 d1 d2 d3 d4 d5 d6 d7 HTC
   have HIC := Lib.hid (HIK.out cn)
   have HCB := Lib.hid (heap_new wr (.cells #[.string cn, .int .i64 ck, .int .i64 cw, .int .i64 cl, .int .i64 cm, .bool cr, .int .u8 ci, .bool ce] 60) rfl)
   have HB6 := Lib.hid (show Below ob w5 (wr.alloc (.cells #[.string cn, .int .i64 ck, .int .i64 cw, .int .i64 cl, .int .i64 cm, .bool cr, .int .u8 ci, .bool ce] 60)) from HB.out.alloc (Nat.le_of_lt hzr) _)
   have HX6 := Lib.hid (heap_old HX.out (.cells #[.string cn, .int .i64 ck, .int .i64 cw, .int .i64 cl, .int .i64 cm, .bool cr, .int .u8 ci, .bool ce] 60))
   have HO6 := Lib.hid (HOW.out.alloc (.cells #[.string cn, .int .i64 ck, .int .i64 cw, .int .i64 cl, .int .i64 cm, .bool cr, .int .u8 ci, .bool ce] 60))
   clear hC hjl q1 q2 q3 q4 qb
   go_upto_region 6 with fail
   obtain ⟨cb2, hcb2⟩ : ∃ x, wr.heap.size = x := ⟨_, rfl⟩
   rw [hcb2] at HCB
   try rw [hcb2]
   generalize wr.alloc (.cells #[.string cn, .int .i64 ck, .int .i64 cw, .int .i64 cl, .int .i64 cm, .bool cr, .int .u8 ci, .bool ce] 60) = w6 at HCB HB6 HX6 HO6 ⊢
   clear hcb2 d0 d1 d2 d3 d4 d5 d6 d7 hcb HB HX HOW QB hzr
   obtain ⟨q1, -, q3, -, qb⟩ := HW.out _ HB6.out
   obtain ⟨⟨k0, k1, k2, k3⟩, -, -⟩ := obox4 q1
   obtain ⟨⟨x0, x1, x2, x3, x4, x5, x6, x7⟩, -⟩ := obox8 HCB.out
   go_wp2_with fail
   refine (HCK.out cn _ qb).mono ?_
   rintro _ w7 ⟨rfl, hb7⟩
   have hz6 := lt_heap HX6.out
   have HB7 := Lib.hid (below_then hb7 HB6.out (Nat.le_of_lt hz6))
   have HX7 := Lib.hid (heap_below HX6.out hb7)
   have HO7 := Lib.hid (own_below HO6.out hb7)
   have hz7 : ob <= w7.heap.size := Nat.le_of_lt (lt_heap HX7.out)
   clear k0 k1 k2 k3 x0 x1 x2 x3 x4 x5 x6 x7 hb7 HB6 HX6 HO6 HCB q1 q3 qb hz6
   obtain ⟨-, -, q3, -, qb⟩ := HW.out _ HB7.out
   obtain ⟨r0, r1, -, -, -⟩ := box2 q3
   obtain ⟨z0, z1, z2, z3, z5⟩ := box2 HX7.out
   rcases HIC.out with ⟨e1, -⟩ | ⟨ic, hic, e1, -, -⟩
   ·have HS := Lib.hid (show TW ⟨cn, ck, cw, cl, cm, cr, ci, ce⟩ = ⟨#[]⟩ by rw [HTC.out, e1]; exact if_pos (by decide))
    rw [e1]
    clear e1
    go_wp2_with (at_builtin; (with_reducible refine ywpList_push_strs rfl _ _ 47 rfl ob i0 (.string ⟨#[]⟩) Tryz.underlying47 HI0.out HZ0.out HZ1.out HZ2.out rfl (.slice X j c) j ((ofs.take j).map TW) rfl HO7.out 1 [.string (⟨#[]⟩)] [⟨#[]⟩] rfl rfl rfl (by omega) hz7 ?_); intro X8 c8 w8 hown8 hg8; have hX8 := own_ty HO7.out hg8 HX7.out (by decide); obtain ⟨y0, y1, y2, y3, y4⟩ := box2 hX8)
    have HX9 := Lib.hid (show (w8.setCell ⟨ob, 1, none⟩ (.slice X8 (j + 1) c8)).heap[ob]? = some (.cells #[.string rt, .slice X8 (j + 1) c8] 49 (0, 0)) from heap_set hX8 1 _)
    have HO9 := Lib.hid (show (w8.setCell ⟨ob, 1, none⟩ (.slice X8 (j + 1) c8)).ownsRow ob 9 1 (.slice X8 (j + 1) c8) (j + 1) (ystrV ((ofs.take (j + 1)).map TW)) by rw [HT.out, HS.out]; exact own_set9 hown8 hX8 (by decide) _)
    have HB9 := Lib.hid (show Below ob w5 (w8.setCell ⟨ob, 1, none⟩ (.slice X8 (j + 1) c8)) from (HB7.out.grown hg8 hz7 (fun j' hj' => (HO7.out.lt j' hj').1)).setCell (p := ⟨ob, 1, none⟩) (Nat.le_refl _) _)
    go_roundw
    case rel => first | exact ⟨j + 1, X8, c8, by omega, by go_num, HO9, HX9, HB9⟩ | ((repeat apply Exists.intro); exact ⟨⟨j + 1, X8, c8, by omega, by go_num, HO9, HX9, HB9⟩, rfl⟩)
    case measure => simp [intOf]; omega
   ·have HS := Lib.hid (show TW ⟨cn, ck, cw, cl, cm, cr, ci, ce⟩ = wd vs ic by rw [HTC.out, e1, Int.toNat_natCast]; exact if_neg (by omega))
    rw [e1]
    have hicv : ic < nv := by rw [HVN.out, <- HNF.out]; exact hic
    obtain ⟨vb, vo, rfl, hvb, hvc⟩ := (HR.out.vals.below qb) (by show 0 < vs.length; rw [HNV.out]; omega)
    have s0 := hvc ic (by show ic < vs.length; rw [HNV.out]; exact hicv)
    simp only at s0
    obtain ⟨sv, hsv⟩ : ∃ x, wd vs ic = x := ⟨_, rfl⟩
    rw [hsv] at s0 HS
    clear e1 hic hsv hvc hvb
    go_wp2_with (at_builtin; (with_reducible refine ywpList_push_strs rfl _ _ 47 rfl ob i0 (.string ⟨#[]⟩) Tryz.underlying47 HI0.out HZ0.out HZ1.out HZ2.out rfl (.slice X j c) j ((ofs.take j).map TW) rfl HO7.out 1 [.string (sv)] [sv] rfl rfl rfl (by omega) hz7 ?_); intro X8 c8 w8 hown8 hg8; have hX8 := own_ty HO7.out hg8 HX7.out (by decide); obtain ⟨y0, y1, y2, y3, y4⟩ := box2 hX8)
    have HX9 := Lib.hid (show (w8.setCell ⟨ob, 1, none⟩ (.slice X8 (j + 1) c8)).heap[ob]? = some (.cells #[.string rt, .slice X8 (j + 1) c8] 49 (0, 0)) from heap_set hX8 1 _)
    have HO9 := Lib.hid (show (w8.setCell ⟨ob, 1, none⟩ (.slice X8 (j + 1) c8)).ownsRow ob 9 1 (.slice X8 (j + 1) c8) (j + 1) (ystrV ((ofs.take (j + 1)).map TW)) by rw [HT.out, HS.out]; exact own_set9 hown8 hX8 (by decide) _)
    have HB9 := Lib.hid (show Below ob w5 (w8.setCell ⟨ob, 1, none⟩ (.slice X8 (j + 1) c8)) from (HB7.out.grown hg8 hz7 (fun j' hj' => (HO7.out.lt j' hj').1)).setCell (p := ⟨ob, 1, none⟩) (Nat.le_refl _) _)
    go_roundw
    case rel => first | exact ⟨j + 1, X8, c8, by omega, by go_num, HO9, HX9, HB9⟩ | ((repeat apply Exists.intro); exact ⟨⟨j + 1, X8, c8, by omega, by go_num, HO9, HX9, HB9⟩, rfl⟩)
    case measure => simp [intOf]; omega
  ·obtain rfl : j = no := by omega
   have HTE2 := Lib.hid (show TV = (ofs.take j).map TW from HTE.out)
   have HXW := Lib.hid (show ∀ wx, Below wr.heap.size wr wx -> wx.heap[ob]? = some (.cells #[.string rt, .slice X j c] 49 (0, 0)) /\ wx.ownsRow ob 9 1 (.slice X j c) j (ystrV ((ofs.take j).map TW)) /\ Below ob w5 wx from fun wx h => ⟨heap_below HX.out h, own_below HOW.out h, below_then h HB.out (Nat.le_of_lt hzr)⟩)
   obtain ⟨⟨k0, k1, k2, k3⟩, -, -⟩ := obox4 q1
   have hzA := hzr
   clear q1 q2 q3 q4 qb HX HB HOW hzr
   rename World => wA
   go_wp2_with fail
   clear k0 k1 k2 k3
   have HQ := Lib.hid (show ∀ wx, Below wA.heap.size wA wx -> wx.heap[w.heap.size + 1]? = some (.cells #[.string ot, .slice OA j OC, .int .i64 om, .string ou] 52 (0, 0)) /\ wx.heap[w.heap.size + 1 + 1]? = some (.cells #[.string rt, .slice RA nv RC] 49 (0, 0)) /\ Below w.heap.size w wx from fun wx h => by
    have h2 := HW.out _ (HXW.out _ h).2.2
    exact ⟨h2.2.1, h2.2.2.1, h2.2.2.2.2⟩)
   go_loopw [47, 13] (fun i t wx => ∃ (i' : Nat), i' <= nf /\ i = .int .i64 i' /\ t = .int .i64 (LN i' : Nat) /\ Hid (Below wA.heap.size wA wx)) (fun i t _ => nf - (intOf i).toNat)
   case atStart => exact ⟨0, by omega, rfl, by first | rfl | (rw [show LN 0 = 0 from by have := HLE.out 0; omega]; rfl), Lib.hid (Below.refl _ _)⟩
   case round =>
    obtain ⟨i, hi', rfl, rfl, HB⟩ := hrel
    have hzr := HB.out.size
    have hle := HLE.out i
    obtain ⟨-, q3, qb⟩ := HQ.out _ HB.out
    have QB := Lib.hid qb
    rcases Nat.lt_or_ge i nf with hlt2 | hge2
    ·have hil : i < kfs.length := by rw [HNF.out]; exact hlt2
     have hiv : i < nv := by rw [HVN.out]; exact hlt2
     obtain ⟨cb, co, rfl, hcb, d0, d1, d2, d3, d4, d5, d6, d7⟩ := (HK.out.below QB.out).cells hil
     obtain ⟨vb, vo, rfl, hvb, hvc⟩ := (HR.out.vals.below QB.out) (by show 0 < vs.length; rw [HNV.out]; omega)
     have s0 := hvc i (by show i < vs.length; rw [HNV.out]; exact hiv)
     simp only at s0
     have HL1 := Lib.hid (HLS.out i)
     have HL2 := Lib.hid (HLB.out (cA kfs i) (wd vs i))
     obtain ⟨C, hC⟩ : ∃ x, cA kfs i = x := ⟨_, rfl⟩
     obtain ⟨sv, hsv⟩ : ∃ x, wd vs i = x := ⟨_, rfl⟩
     rw [hC] at d0 d1 d2 d3 d4 d5 d6 d7 HL1 HL2
     rw [hsv] at s0 HL1 HL2
     obtain ⟨cn, ck, cw, cl, cm, cr, ci, ce⟩ := C
     simp only at d0 d1 d2 d3 d4 d5 d6 d7 HL2
     have s1 : (wr.alloc (.cells #[.string cn, .int .i64 ck, .int .i64 cw, .int .i64 cl, .int .i64 cm, .bool cr, .int .u8 ci, .bool ce] 60)).cell? ⟨vb, vo + i, none⟩ = some (.string sv) := (World.cell?_alloc_some wr _ _ (by rw [s0]; rfl)).trans s0
     have HCB := Lib.hid (heap_new wr (.cells #[.string cn, .int .i64 ck, .int .i64 cw, .int .i64 cl, .int .i64 cm, .bool cr, .int .u8 ci, .bool ce] 60) rfl)
     have HB6 := Lib.hid (show Below wA.heap.size wA (wr.alloc (.cells #[.string cn, .int .i64 ck, .int .i64 cw, .int .i64 cl, .int .i64 cm, .bool cr, .int .u8 ci, .bool ce] 60)) from HB.out.alloc hzr _)
     have hix := HIO.out cn
     obtain ⟨IX, hIX⟩ : ∃ x, ixF (nameIs cn) ofs = x := ⟨_, rfl⟩
     have HCC := Lib.hid (fun wx h => HCO.out cn wx h)
     rw [hIX] at HL2 hix HCC
     have hem := emp_dec sv
     clear hC hil hsv hvc hvb s0 hIX q3 qb
     go_upto_region 15 with fail
     obtain ⟨cb2, hcb2⟩ : ∃ x, wr.heap.size = x := ⟨_, rfl⟩
     rw [hcb2] at HCB
     try rw [hcb2]
     generalize wr.alloc (.cells #[.string cn, .int .i64 ck, .int .i64 cw, .int .i64 cl, .int .i64 cm, .bool cr, .int .u8 ci, .bool ce] 60) = w6 at HCB HB6 s1 ⊢
     clear hcb2 d0 d1 d2 d3 d4 d5 d6 d7 hcb HB QB hzr
     obtain ⟨q2, q3, qb⟩ := HQ.out _ HB6.out
     have QB := Lib.hid qb
     obtain ⟨r0, r1, -, -, -⟩ := box2 q3
     by_cases h0 : sv = ⟨#[]⟩
     ·have HN := Lib.hid (show LN (i + 1) = LN i by rw [HL1.out, HL2.out, decide_eq_false (fun h => h h0)]; rfl)
      rw [decide_eq_true h0] at hem
      clear h0
      go_wp2
      go_roundw
      case rel => exact ⟨i + 1, by omega, by go_num, by rw [HN.out], HB6⟩
      case measure => simp [intOf]; omega
     rw [decide_eq_false h0] at hem
     have HL3 := Lib.hid (show LB ⟨cn, ck, cw, cl, cm, cr, ci, ce⟩ sv = decide (IX < 0) by rw [HL2.out, decide_eq_true h0]; rfl)
     obtain ⟨⟨k0, k1, k2, k3⟩, -, -⟩ := obox4 q2
     obtain ⟨⟨x0, x1, x2, x3, x4, x5, x6, x7⟩, -⟩ := obox8 HCB.out
     clear h0 q2 q3 qb HL2
     go_wp2_with fail
     refine (HCC.out _ QB.out).mono ?_
     rintro _ w7 ⟨rfl, hb7⟩
     have HB7 := Lib.hid (below_then hb7 HB6.out HB6.out.size)
     clear k0 k1 k2 k3 x0 x1 x2 x3 x4 x5 x6 x7 r0 r1 s1 hb7 HB6 HCB
     by_cases hneg : IX < 0
     ·have HN := Lib.hid (show LN (i + 1) = LN i + 1 by rw [HL1.out, HL3.out, decide_eq_true hneg]; rfl)
      go_wp2
      go_roundw
      case rel => exact ⟨i + 1, by omega, by go_num, by rw [HN.out]; go_num, HB7⟩
      case measure => simp [intOf]; omega
     ·have HN := Lib.hid (show LN (i + 1) = LN i by rw [HL1.out, HL3.out, decide_eq_false hneg]; rfl)
      go_wp2
      go_roundw
      case rel => exact ⟨i + 1, by omega, by go_num, by rw [HN.out], HB7⟩
      case measure => simp [intOf]; omega
    ·obtain rfl : i = nf := by omega
     obtain ⟨hx, how, hbx⟩ := HXW.out _ HB.out
     have q4 := (HW.out _ hbx).2.2.2.1
     have HX9 := Lib.hid hx; have HO9 := Lib.hid how; have HZ9 := Lib.hid q4; have QB9 := Lib.hid (HW.out _ hbx).2.2.2.2
     obtain ⟨x0, x1, -, -, -⟩ := box2 hx
     obtain ⟨z0, z1, z2, z3, z5⟩ := box2 q4
     clear hx how hbx q3 qb
     go_wp2
     have hz9 : ((wr.setCell ⟨w.heap.size + 1 + 1 + 1, 0, none⟩ (.string rt)).setCell ⟨w.heap.size + 1 + 1 + 1, 1, none⟩ (.slice X j c)).heap[w.heap.size + 1 + 1 + 1]? = some (.cells #[.string rt, .slice X j c] 49 (0, 0)) := heap_set (heap_set HZ9.out 0 _) 1 _
     obtain ⟨u0, u1, -, -, -⟩ := box2 hz9
     refine bodyPost_ret (v := .tuple #[.agg #[.string rt, .slice X j c], .int .i64 (LN i : Nat)]) (by simp [results, Tryz.results22, go_sem, u0, u1]) rfl ⟨X, c, by rw [HTN.out], ?_, ?_⟩
     ·rw [HTN.out, HTE2.out]
      exact own_mono (own_set9 (own_set9 HO9.out HZ9.out (by decide) _) (heap_set HZ9.out 0 _) (by decide) _) (by omega)
     ·exact (QB9.out.setCell (p := ⟨w.heap.size + 1 + 1 + 1, 0, none⟩) (by show w.heap.size <= w.heap.size + 1 + 1 + 1; omega) _).setCell (p := ⟨w.heap.size + 1 + 1 + 1, 1, none⟩) (by show w.heap.size <= w.heap.size + 1 + 1 + 1; omega) _
end Go.Proofs.YtaiabjiehpcaoaaGreatDoor
