
/- The walks of the program's valueFault, checkRow, CheckRow. (Printed by genV3.py.) -/
import Derived.Test.YtbnjejenejoibaaGreatDoorV2
import Derived.Test.YtbnjejenejoibaaGreatDoorF8
import Derived.Test.YtbnjejenejoibaaGreatDoorF9
namespace Go.Proofs.YtbnjejenejoibaaGreatDoor
open Go.RowKit Limb Nmb Work
set_option linter.unusedVariables false
set_option linter.unusedSimpArgs false
theorem ixbyte_c (s : ByteArray) (m : Int) (w : World) (h : 0 <= m /\ m <= 255) :
  Calls Tryz.prog 125 #[.string s, .int .u8 m] w fun e w' => e = .returned (.int .i64 (Lib.indexByte s.data.toList (UInt8.ofNat m.toNat))) /\ w = w' := by
 refine (Tryz.strings_IndexByte s m w).mono ?_
 rintro e w' ⟨h1, h2⟩
 exact ⟨h1, h2.symm⟩
set_option maxHeartbeats 2000000 in
set_option maxRecDepth 100000 in
theorem valfault_c (f : Fmt) (A : Option Addr) (n cp : Nat) (c : Col) (s : ByteArray) (w : World) (hs : s.size <= 9223372036854775807) (hm : 0 <= f.mark /\ f.mark <= 255) (hk : ColK f.mark c) (ht : Tab w) :
  Calls Tryz.prog 107 #[.agg #[.int .u8 f.mark, .int .u8 f.quote, .slice A n cp, .string f.head, .string f.tail, .string f.count, .string f.sum], colG c, .string s] w (RetI (valF f.mark f.quote c s) w) := by
 have HV := Lib.hid (fun w => isvalue_c c s w hs)
 have HW := Lib.hid (fun w hv ht => written_c f A n cp c s w hs hv hk ht)
 have HE0 := Lib.hid (show valF f.mark f.quote c s = valF f.mark f.quote c s from rfl)
 obtain ⟨m, q, ks, hd, tl, ct, sm⟩ := f
 obtain ⟨nm, kd, wd, pl, fm, rt, fl, nd⟩ := c
 unfold colG at HV HW ⊢
 simp only at HV HW hm hk ⊢
 have hF0 := heap_old (heap_new w (.cells #[.int .u8 m, .int .u8 q, .slice A n cp, .string hd, .string tl, .string ct, .string sm] 24) rfl) (.cells #[.string nm, .int .i64 kd, .int .i64 wd, .int .i64 pl, .int .i64 fm, .bool rt, .int .u8 fl, .bool nd] 85)
 have hC0 := heap_new (w.alloc (.cells #[.int .u8 m, .int .u8 q, .slice A n cp, .string hd, .string tl, .string ct, .string sm] 24)) (.cells #[.string nm, .int .i64 kd, .int .i64 wd, .int .i64 pl, .int .i64 fm, .bool rt, .int .u8 fl, .bool nd] 85) (g := w.heap.size + 1) (by simp)
 have hB0 : Below w.heap.size w ((w.alloc (.cells #[.int .u8 m, .int .u8 q, .slice A n cp, .string hd, .string tl, .string ct, .string sm] 24)).alloc (.cells #[.string nm, .int .i64 kd, .int .i64 wd, .int .i64 pl, .int .i64 fm, .bool rt, .int .u8 fl, .bool nd] 85)) := by go_grown
 obtain ⟨⟨f0, f1, f2, f3, f4, f5, f6⟩, f7⟩ := obox7 hF0
 obtain ⟨⟨x0, x1, x2, x3, x4, x5, x6, x7⟩, x8⟩ := obox8 hC0
 have g1 := emp_dec s
 have HTB := Lib.hid (ht.below hB0)
 clear ht hk
 by_cases h0 : s = ⟨#[]⟩
 ·rw [decide_eq_true h0] at g1
  cases nd with
  | true =>
   have HE := Lib.hid (show valF m q ⟨nm, kd, wd, pl, fm, rt, fl, true⟩ s = 13 by unfold valF; rw [if_pos h0, if_pos rfl])
   clear h0
   go_enter Tryz.func107, Tryz.ntmps107
   go_wp2
   go_ret
   exact ⟨by rw [HE.out]; rfl, hB0⟩
  | false =>
   have HE := Lib.hid (show valF m q ⟨nm, kd, wd, pl, fm, rt, fl, false⟩ s = 0 by unfold valF; rw [if_pos h0, if_neg (by simp)])
   clear h0
   go_enter Tryz.func107, Tryz.ntmps107
   go_wp2
   go_ret
   exact ⟨by rw [HE.out]; rfl, hB0⟩
 rw [decide_eq_false h0] at g1
 have HN := Lib.hid h0
 obtain ⟨V, hV⟩ : ∃ x, valOk ⟨nm, kd, wd, pl, fm, rt, fl, nd⟩ s.data.toList = x := ⟨_, rfl⟩
 have HVV := Lib.hid hV
 rw [hV] at HV HW
 obtain ⟨W, hW⟩ : ∃ x, wrS m ⟨nm, kd, wd, pl, fm, rt, fl, nd⟩ s = x := ⟨_, rfl⟩
 have HWW := Lib.hid hW
 rw [hW] at HW
 clear h0 hV hW
 cases V with
 | false =>
  have HE := Lib.hid (show valF m q ⟨nm, kd, wd, pl, fm, rt, fl, nd⟩ s = 6 by unfold valF; rw [if_neg HN.out, if_pos HVV.out])
  go_enter Tryz.func107, Tryz.ntmps107
  go_wp2_with fail
  refine (HV.out _).mono ?_
  rintro e w1 ⟨rfl, hb1⟩
  have hB1 := below_then hb1 hB0 hB0.size
  go_wp2
  go_ret
  exact ⟨by rw [HE.out]; rfl, hB1⟩
 | true =>
  by_cases hl : wd < (W.size : Int)
  ·have HE := Lib.hid (show valF m q ⟨nm, kd, wd, pl, fm, rt, fl, nd⟩ s = 16 by unfold valF; rw [if_neg HN.out, if_neg (by rw [HVV.out]; decide), HWW.out, if_pos hl])
   go_enter Tryz.func107, Tryz.ntmps107
   go_wp2_with fail
   refine (HV.out _).mono ?_
   rintro e w1 ⟨rfl, hb1⟩
   have hF1 := heap_below hF0 hb1
   have hC1 := heap_below hC0 hb1
   have hB1 := below_then hb1 hB0 hB0.size
   obtain ⟨⟨f0, f1, f2, f3, f4, f5, f6⟩, f7⟩ := obox7 hF1
   obtain ⟨⟨x0, x1, x2, x3, x4, x5, x6, x7⟩, x8⟩ := obox8 hC1
   have HT1 := Lib.hid (HTB.out.below hb1)
   clear hF0 hC0 hb1
   have HF1 := Lib.hid hF1; have HC1 := Lib.hid hC1
   have HSB := Lib.hid (show ∀ wx, Below w1.heap.size w1 wx -> (fun w' : World => w'.cell? ⟨w.heap.size, 0, none⟩ = some (.int .u8 m) /\ w'.cell? ⟨w.heap.size, 1, none⟩ = some (.int .u8 q) /\ w'.cell? ⟨w.heap.size, 2, none⟩ = some (.slice A n cp) /\ w'.cell? ⟨w.heap.size, 3, none⟩ = some (.string hd) /\ w'.cell? ⟨w.heap.size, 4, none⟩ = some (.string tl) /\ w'.cell? ⟨w.heap.size, 5, none⟩ = some (.string ct) /\ w'.cell? ⟨w.heap.size, 6, none⟩ = some (.string sm) /\ w'.cell? ⟨w.heap.size + 1, 0, none⟩ = some (.string nm) /\ w'.cell? ⟨w.heap.size + 1, 1, none⟩ = some (.int .i64 kd) /\ w'.cell? ⟨w.heap.size + 1, 2, none⟩ = some (.int .i64 wd) /\ w'.cell? ⟨w.heap.size + 1, 3, none⟩ = some (.int .i64 pl) /\ w'.cell? ⟨w.heap.size + 1, 4, none⟩ = some (.int .i64 fm) /\ w'.cell? ⟨w.heap.size + 1, 5, none⟩ = some (.bool rt) /\ w'.cell? ⟨w.heap.size + 1, 6, none⟩ = some (.int .u8 fl) /\ w'.cell? ⟨w.heap.size + 1, 7, none⟩ = some (.bool nd)) wx from fun wx h => by
    obtain ⟨⟨f0, f1, f2, f3, f4, f5, f6⟩, f7⟩ := obox7 (heap_below HF1.out h)
    obtain ⟨⟨x0, x1, x2, x3, x4, x5, x6, x7⟩, x8⟩ := obox8 (heap_below HC1.out h)
    exact ⟨f0, f1, f2, f3, f4, f5, f6, x0, x1, x2, x3, x4, x5, x6, x7⟩)
   have T1 : Below w1.heap.size w1 w1 := Below.refl _ _
   clear f0 f1 f2 f3 f4 f5 f6 f7 x0 x1 x2 x3 x4 x5 x6 x7 x8 hF1 hC1
   go_wp2_with fail
   go_region_held3 (fun w' : World => w'.cell? ⟨w.heap.size, 0, none⟩ = some (.int .u8 m) /\ w'.cell? ⟨w.heap.size, 1, none⟩ = some (.int .u8 q) /\ w'.cell? ⟨w.heap.size, 2, none⟩ = some (.slice A n cp) /\ w'.cell? ⟨w.heap.size, 3, none⟩ = some (.string hd) /\ w'.cell? ⟨w.heap.size, 4, none⟩ = some (.string tl) /\ w'.cell? ⟨w.heap.size, 5, none⟩ = some (.string ct) /\ w'.cell? ⟨w.heap.size, 6, none⟩ = some (.string sm) /\ w'.cell? ⟨w.heap.size + 1, 0, none⟩ = some (.string nm) /\ w'.cell? ⟨w.heap.size + 1, 1, none⟩ = some (.int .i64 kd) /\ w'.cell? ⟨w.heap.size + 1, 2, none⟩ = some (.int .i64 wd) /\ w'.cell? ⟨w.heap.size + 1, 3, none⟩ = some (.int .i64 pl) /\ w'.cell? ⟨w.heap.size + 1, 4, none⟩ = some (.int .i64 fm) /\ w'.cell? ⟨w.heap.size + 1, 5, none⟩ = some (.bool rt) /\ w'.cell? ⟨w.heap.size + 1, 6, none⟩ = some (.int .u8 fl) /\ w'.cell? ⟨w.heap.size + 1, 7, none⟩ = some (.bool nd))
    (first | (with_reducible exact HSB.out _ T2) | (refine HSB.out _ ?_; go_grown))
    (first | (go_at_call 149; refine (HW.out _ (fun _ => trivial) (by exact HT1.out)).mono ?_; rintro e w2 ⟨rfl, hb2⟩; (have T2 : Below w1.heap.size w1 w2 := by exact ⟨hb2.os, hb2.tape, hb2.output, hb2.size, hb2.block⟩)))
   have hF1 := HF1.out; have hC1 := HC1.out; have hb2 := T2
   have hF2 := heap_below hF1 hb2
   have hC2 := heap_below hC1 hb2
   have hB2 := below_then hb2 hB1 hB1.size
   obtain ⟨⟨f0, f1, f2, f3, f4, f5, f6⟩, f7⟩ := obox7 hF2
   obtain ⟨⟨x0, x1, x2, x3, x4, x5, x6, x7⟩, x8⟩ := obox8 hC2
   clear hF1 hC1 hb2
   go_wp2
   go_ret
   exact ⟨by rw [HE.out]; rfl, hB2⟩
  ·have HG := Lib.hid (show valF m q ⟨nm, kd, wd, pl, fm, rt, fl, nd⟩ s = if m ≠ 0 /\ q = 0 /\ 0 <= Lib.indexByte s.data.toList (UInt8.ofNat m.toNat) then 12 else 0 by unfold valF; rw [if_neg HN.out, if_neg (by rw [HVV.out]; decide), HWW.out, if_neg hl])
   have hlt : ¬ (W.size : Int) > wd := hl
   go_enter Tryz.func107, Tryz.ntmps107
   go_wp2_with fail
   refine (HV.out _).mono ?_
   rintro e w1 ⟨rfl, hb1⟩
   have hF1 := heap_below hF0 hb1
   have hC1 := heap_below hC0 hb1
   have hB1 := below_then hb1 hB0 hB0.size
   obtain ⟨⟨f0, f1, f2, f3, f4, f5, f6⟩, f7⟩ := obox7 hF1
   obtain ⟨⟨x0, x1, x2, x3, x4, x5, x6, x7⟩, x8⟩ := obox8 hC1
   have HT1 := Lib.hid (HTB.out.below hb1)
   clear hF0 hC0 hb1
   have HF1 := Lib.hid hF1; have HC1 := Lib.hid hC1
   have HSB := Lib.hid (show ∀ wx, Below w1.heap.size w1 wx -> (fun w' : World => w'.cell? ⟨w.heap.size, 0, none⟩ = some (.int .u8 m) /\ w'.cell? ⟨w.heap.size, 1, none⟩ = some (.int .u8 q) /\ w'.cell? ⟨w.heap.size, 2, none⟩ = some (.slice A n cp) /\ w'.cell? ⟨w.heap.size, 3, none⟩ = some (.string hd) /\ w'.cell? ⟨w.heap.size, 4, none⟩ = some (.string tl) /\ w'.cell? ⟨w.heap.size, 5, none⟩ = some (.string ct) /\ w'.cell? ⟨w.heap.size, 6, none⟩ = some (.string sm) /\ w'.cell? ⟨w.heap.size + 1, 0, none⟩ = some (.string nm) /\ w'.cell? ⟨w.heap.size + 1, 1, none⟩ = some (.int .i64 kd) /\ w'.cell? ⟨w.heap.size + 1, 2, none⟩ = some (.int .i64 wd) /\ w'.cell? ⟨w.heap.size + 1, 3, none⟩ = some (.int .i64 pl) /\ w'.cell? ⟨w.heap.size + 1, 4, none⟩ = some (.int .i64 fm) /\ w'.cell? ⟨w.heap.size + 1, 5, none⟩ = some (.bool rt) /\ w'.cell? ⟨w.heap.size + 1, 6, none⟩ = some (.int .u8 fl) /\ w'.cell? ⟨w.heap.size + 1, 7, none⟩ = some (.bool nd)) wx from fun wx h => by
    obtain ⟨⟨f0, f1, f2, f3, f4, f5, f6⟩, f7⟩ := obox7 (heap_below HF1.out h)
    obtain ⟨⟨x0, x1, x2, x3, x4, x5, x6, x7⟩, x8⟩ := obox8 (heap_below HC1.out h)
    exact ⟨f0, f1, f2, f3, f4, f5, f6, x0, x1, x2, x3, x4, x5, x6, x7⟩)
   have T1 : Below w1.heap.size w1 w1 := Below.refl _ _
   clear f0 f1 f2 f3 f4 f5 f6 f7 x0 x1 x2 x3 x4 x5 x6 x7 x8 hF1 hC1
   go_wp2_with fail
   go_region_held3 (fun w' : World => w'.cell? ⟨w.heap.size, 0, none⟩ = some (.int .u8 m) /\ w'.cell? ⟨w.heap.size, 1, none⟩ = some (.int .u8 q) /\ w'.cell? ⟨w.heap.size, 2, none⟩ = some (.slice A n cp) /\ w'.cell? ⟨w.heap.size, 3, none⟩ = some (.string hd) /\ w'.cell? ⟨w.heap.size, 4, none⟩ = some (.string tl) /\ w'.cell? ⟨w.heap.size, 5, none⟩ = some (.string ct) /\ w'.cell? ⟨w.heap.size, 6, none⟩ = some (.string sm) /\ w'.cell? ⟨w.heap.size + 1, 0, none⟩ = some (.string nm) /\ w'.cell? ⟨w.heap.size + 1, 1, none⟩ = some (.int .i64 kd) /\ w'.cell? ⟨w.heap.size + 1, 2, none⟩ = some (.int .i64 wd) /\ w'.cell? ⟨w.heap.size + 1, 3, none⟩ = some (.int .i64 pl) /\ w'.cell? ⟨w.heap.size + 1, 4, none⟩ = some (.int .i64 fm) /\ w'.cell? ⟨w.heap.size + 1, 5, none⟩ = some (.bool rt) /\ w'.cell? ⟨w.heap.size + 1, 6, none⟩ = some (.int .u8 fl) /\ w'.cell? ⟨w.heap.size + 1, 7, none⟩ = some (.bool nd))
    (first | (with_reducible exact HSB.out _ T2) | (refine HSB.out _ ?_; go_grown))
    (first | (go_at_call 149; refine (HW.out _ (fun _ => trivial) (by exact HT1.out)).mono ?_; rintro e w2 ⟨rfl, hb2⟩; (have T2 : Below w1.heap.size w1 w2 := by exact ⟨hb2.os, hb2.tape, hb2.output, hb2.size, hb2.block⟩)))
   have hF1 := HF1.out; have hC1 := HC1.out; have hb2 := T2
   have hF2 := heap_below hF1 hb2
   have hC2 := heap_below hC1 hb2
   have hB2 := below_then hb2 hB1 hB1.size
   obtain ⟨⟨f0, f1, f2, f3, f4, f5, f6⟩, f7⟩ := obox7 hF2
   obtain ⟨⟨x0, x1, x2, x3, x4, x5, x6, x7⟩, x8⟩ := obox8 hC2
   clear hF1 hC1 hb2
   by_cases h1 : m = 0
   ·subst h1
    have HE := Lib.hid (show valF 0 q ⟨nm, kd, wd, pl, fm, rt, fl, nd⟩ s = 0 by rw [HG.out, if_neg (fun h => h.1 rfl)])
    go_wp2
    go_ret
    exact ⟨by rw [HE.out]; rfl, hB2⟩
   have k1 : (m != 0) = true := by simpa using h1
   by_cases h2 : q = 0
   case neg =>
    have HE := Lib.hid (show valF m q ⟨nm, kd, wd, pl, fm, rt, fl, nd⟩ s = 0 by rw [HG.out, if_neg (fun h => h2 h.2.1)])
    have k2 : (q == 0) = false := beq_eq_false_iff_ne.2 h2
    clear h1 h2
    go_wp2
    go_ret
    exact ⟨by rw [HE.out]; rfl, hB2⟩
   subst h2
   have HI := Lib.hid (fun w => ixbyte_c s m w hm)
   by_cases h3 : 0 <= Lib.indexByte s.data.toList (UInt8.ofNat m.toNat)
   ·have HE := Lib.hid (show valF m 0 ⟨nm, kd, wd, pl, fm, rt, fl, nd⟩ s = 12 by rw [HG.out, if_pos ⟨h1, rfl, h3⟩])
    generalize Lib.indexByte s.data.toList (UInt8.ofNat m.toNat) = I at HI h3
    clear h1
    go_wp2_with fail
    refine (HI.out _).mono ?_
    rintro e w3 ⟨rfl, rfl⟩
    go_wp2
    go_ret
    exact ⟨by rw [HE.out]; rfl, hB2⟩
   ·have HE := Lib.hid (show valF m 0 ⟨nm, kd, wd, pl, fm, rt, fl, nd⟩ s = 0 by rw [HG.out, if_neg (fun h => h3 h.2.2)])
    generalize Lib.indexByte s.data.toList (UInt8.ofNat m.toNat) = I at HI h3
    clear h1
    go_wp2_with fail
    refine (HI.out _).mono ?_
    rintro e w3 ⟨rfl, rfl⟩
    go_wp2
    go_ret
    exact ⟨by rw [HE.out]; rfl, hB2⟩
def rowG (r : RowP) (A : Option Addr) (c : Nat) : Value := .agg #[.string r.tag, .slice A r.vals.length c]
def Svs (w : World) (A : Option Addr) (L : List ByteArray) : Prop := 0 < L.length -> ∃ b off, A = some ⟨b, off, none⟩ /\ b < w.heap.size /\ ∀ j, j < L.length -> w.cell? ⟨b, off + j, none⟩ = some (.string (wd L j))
theorem Svs.below {w w' : World} {A : Option Addr} {L : List ByteArray} (h : Svs w A L) (hb : Below w.heap.size w w') : Svs w' A L := fun hn => by
 obtain ⟨b, off, e, hl, hc⟩ := h hn
 exact ⟨b, off, e, Nat.lt_of_lt_of_le hl hb.size, fun j hj => (hb.cell (p := ⟨b, off + j, none⟩) hl).trans (hc j hj)⟩
theorem Svs.cells {w : World} {A : Option Addr} {L : List ByteArray} (h : Svs w A L) (hn : 0 < L.length) : ∃ b off, A = some ⟨b, off, none⟩ /\ b < w.heap.size /\ ∀ j, j < L.length -> w.cell? ⟨b, off + j, none⟩ = some (.string (wd L j)) := h hn
theorem Sts.svs {w : World} {A : Option Addr} {L : List ByteArray} (h : Sts w A L) : Svs w A L := fun hn => h.cells hn
structure RowM (w : World) (r : RowP) (A : Option Addr) (c : Nat) : Prop where
 vals : Svs w A r.vals
 len : r.vals.length <= c /\ c <= 9223372036854775807
 size : ∀ s ∈ r.vals, s.size <= 9223372036854775807
 tag : r.tag.size <= 9223372036854775807
theorem RowM.below {w w' : World} {r : RowP} {A : Option Addr} {c : Nat} (h : RowM w r A c) (hb : Below w.heap.size w w') : RowM w' r A c := ⟨h.vals.below hb, h.len, h.size, h.tag⟩
theorem wd_size {L : List ByteArray} (h : ∀ s ∈ L, s.size <= 9223372036854775807) (j : Nat) : (wd L j).size <= 9223372036854775807 := by
 unfold wd
 rw [List.getD_eq_getElem?_getD]
 cases hg : L[j]? with
 | none => exact Nat.zero_le _
 | some s => exact h s (List.mem_of_getElem? hg)
set_option maxHeartbeats 4000000 in
set_option maxRecDepth 100000 in
theorem checkrow_c (f : Fmt) (A : Option Addr) (cp : Nat) (FA : Nat -> Option Addr) (FC : Nat -> Nat) (r : RowP) (RA : Option Addr) (RC : Nat) (w : World) (ho : Kinds w A f.kinds FA FC) (hr : RowM w r RA RC) (hf : checkF f = 0) (hm : 0 <= f.mark /\ f.mark <= 255) (ht : Tab w) :
  Calls Tryz.prog 63 #[fmtG f A cp, rowG r RA RC] w (RetNF (rowF f r).1 (rowF f r).2 w) := by
 have HKA := Lib.hid (fun w h => kindat_c f A cp FA FC r.tag w h)
 have HFK := Lib.hid (checkF_ok hf)
 have HVF := Lib.hid (fun c s w hs hk ht => valfault_c f A f.kinds.length cp c s w hs hm hk ht)
 have HCS := Lib.hid (kat_cases f FA FC r.tag)
 have HKI := Lib.hid ho; have HRM := Lib.hid hr; have HTB := Lib.hid ht
 obtain ⟨R, hR⟩ : ∃ x, rowF f r = x := ⟨_, rfl⟩
 have HR := Lib.hid hR
 rw [hR]
 clear ho hr ht hf hR
 obtain ⟨m, q, ks, hd, tl, ct, sm⟩ := f
 obtain ⟨tg, vs⟩ := r
 unfold fmtG at HKA ⊢
 unfold rowG
 simp only at HKA HVF HCS HKI hm ⊢
 obtain ⟨n, hn⟩ : ∃ x, ks.length = x := ⟨_, rfl⟩
 have HN := Lib.hid hn
 obtain ⟨nv, hnv⟩ : ∃ x, vs.length = x := ⟨_, rfl⟩
 have HNV := Lib.hid hnv
 have hnvb : nv <= RC := by rw [<- hnv]; exact HRM.out.len.1
 rw [hn] at HKA HVF ⊢
 rw [hnv]
 clear hn hnv
 have hF0 := heap_old (heap_new w (.cells #[.int .u8 m, .int .u8 q, .slice A n cp, .string hd, .string tl, .string ct, .string sm] 24) rfl) (.cells #[.string tg, .slice RA nv RC] 51)
 have hR0 := heap_new (w.alloc (.cells #[.int .u8 m, .int .u8 q, .slice A n cp, .string hd, .string tl, .string ct, .string sm] 24)) (.cells #[.string tg, .slice RA nv RC] 51) (g := w.heap.size + 1) (by simp)
 have hB0 : Below w.heap.size w ((w.alloc (.cells #[.int .u8 m, .int .u8 q, .slice A n cp, .string hd, .string tl, .string ct, .string sm] 24)).alloc (.cells #[.string tg, .slice RA nv RC] 51)) := by go_grown
 go_enter Tryz.func63, Tryz.ntmps63
 obtain ⟨⟨f0, f1, f2, f3, f4, f5, f6⟩, f7⟩ := obox7 hF0
 obtain ⟨r0, r1, -, -, r2⟩ := box2 hR0
 have HKW := Lib.hid (HKI.out.below hB0)
 go_wp2_with fail
 refine (HKA.out _ HKW.out).mono ?_
 rintro e w2 ⟨rfl, hb2⟩
 have hF2 := heap_below hF0 hb2
 have hR2 := heap_below hR0 hb2
 have hB2 := below_then hb2 hB0 hB0.size
 have hz2 := hB2.size
 clear hF0 hR0 hb2 f0 f1 f2 f3 f4 f5 f6 f7 r0 r1 r2 HKW hB0
 rcases HCS.out with ⟨h1, h2, h3, h4⟩ | ⟨k, hk, h1, h2, h3, h4⟩
 ·have HE := Lib.hid (show R = (0, 9) by rw [<- HR.out]; unfold rowF; rw [if_pos (by rw [h1]; decide)])
  rw [h1, h2, h3, h4]
  unfold kindG
  simp only [kind0, List.length_nil]
  clear h1 h2 h3 h4
  go_wp2
  go_ret2
  exact ⟨by rw [HE.out]; rfl, by go_grown⟩
 ·have hi0 : ¬ katI ⟨m, q, ks, hd, tl, ct, sm⟩ tg < 0 := by rw [h1]; omega
  have HRR := Lib.hid (show R = if vs.length ≠ (kA ks k).fields.length then (0, 3) else frF (fun j => valF m q (cA (kA ks k).fields j) (wd vs j)) (kA ks k).fields.length by rw [<- HR.out]; unfold rowF; rw [if_neg hi0, h2])
  rw [h1, h2, h3, h4]
  have hdec : decide ((0 : Int) <= (k : Int)) = true := decide_eq_true (by omega)
  rw [hdec]
  have HKK := Lib.hid (HFK.out.kinds k hk)
  have HCO := Lib.hid ((HKI.out).2.2 k hk)
  simp only at HKK
  obtain ⟨K, hK⟩ : ∃ x, kA ks k = x := ⟨_, rfl⟩
  have HKc := Lib.hid (fun j (hj : j < K.fields.length) => (show ColK m (cA K.fields j) by rw [<- hK] at hj ⊢; exact HKK.out.cols j hj))
  rw [hK] at HRR HCO ⊢
  clear h1 h2 h3 h4 hi0 hdec hK
  obtain ⟨kt, fs, km, ku⟩ := K
  unfold kindG
  simp only at HRR HCO HKc ⊢
  obtain ⟨nf, hnf⟩ : ∃ x, fs.length = x := ⟨_, rfl⟩
  obtain ⟨KA, hKA⟩ : ∃ x, FA k = x := ⟨_, rfl⟩
  obtain ⟨KC, hKC⟩ : ∃ x, FC k = x := ⟨_, rfl⟩
  have HNF := Lib.hid hnf
  rw [hnf, hKA, hKC] at HCO
  rw [hnf] at HRR HKc
  rw [hnf, hKA, hKC]
  have hnfb : nf <= 9223372036854775807 := by rw [<- hnf]; exact HCO.out.1.1.2
  have hnfc : nf <= KC := HCO.out.2
  clear hnf hKA hKC HKK
  have hF3 := heap_old hF2 (.cells #[.string kt, .slice KA nf KC, .int .i64 km, .string ku] 46)
  have hR3 := heap_old hR2 (.cells #[.string kt, .slice KA nf KC, .int .i64 km, .string ku] 46)
  have hK3 := heap_new w2 (.cells #[.string kt, .slice KA nf KC, .int .i64 km, .string ku] 46) rfl
  have hB3 : Below w.heap.size w (w2.alloc (.cells #[.string kt, .slice KA nf KC, .int .i64 km, .string ku] 46)) := by go_grown
  obtain ⟨k0, hk0⟩ : ∃ x, w2.heap.size = x := ⟨_, rfl⟩
  have hwk : w.heap.size + 1 < k0 := by rw [<- hk0]; exact lt_heap hR2
  rw [hk0] at hK3
  go_upto_region 2 with fail
  generalize w2.alloc (.cells #[.string kt, .slice KA nf KC, .int .i64 km, .string ku] 46) = w3 at hF3 hR3 hK3 hB3 ⊢
  have HT3 := Lib.hid (HTB.out.below hB3)
  obtain ⟨⟨f0, f1, f2, f3, f4, f5, f6⟩, f7⟩ := obox7 hF3
  obtain ⟨r0, r1, -, -, r2⟩ := box2 hR3
  obtain ⟨⟨y0, y1, y2, y3⟩, -, y4⟩ := obox4 hK3
  clear hF2 hR2 hB2 hz2
  by_cases hlen : nv = nf
  case neg =>
   have HE := Lib.hid (show R = (0, 3) by rw [HRR.out, HNV.out, if_pos hlen])
   have hne : ((nv : Int) != (nf : Int)) = true := by
    have : ¬ (nv : Int) = (nf : Int) := by omega
    simpa using this
   clear hlen
   go_wp2
   go_ret2
   exact ⟨by rw [HE.out]; rfl, hB3⟩
  subst hlen
  have HRF := Lib.hid (show R = frF (fun j => valF m q (cA fs j) (wd vs j)) nv by rw [HRR.out, HNV.out, if_neg (fun h => h rfl)])
  have HF3 := Lib.hid hF3; have HR3 := Lib.hid hR3; have HK3 := Lib.hid hK3
  clear hF3 hR3 hK3 HRR
  go_wp2_with fail
  have HTC := Lib.hid HCO.out.1
  have HB3 := Lib.hid hB3
  have hz3 := hB3.size
  go_loopw [30] (fun i wr => ∃ j : Nat, j <= nv /\ i = .int .i64 j /\ Below w3.heap.size w3 wr /\ Hid (∀ t, t < j -> valF m q (cA fs t) (wd vs t) = 0)) (fun i _ => nv - (intOf i).toNat)
  case atStart => exact ⟨0, Nat.zero_le _, rfl, Below.refl _ _, Lib.hid (fun t h => absurd h (Nat.not_lt_zero _))⟩
  case round =>
   clear f0 f1 f2 f3 f4 f5 f6 f7 r0 r1 r2 y0 y1 y2 y3 y4 hB3
   obtain ⟨j, hj, rfl, hb, HJ⟩ := hrel
   have hF := heap_below HF3.out hb
   have hR := heap_below HR3.out hb
   have hK := heap_below HK3.out hb
   obtain ⟨⟨f0, f1, f2, f3, f4, f5, f6⟩, f7⟩ := obox7 hF
   obtain ⟨r0, r1, -, -, r2⟩ := box2 hR
   obtain ⟨⟨y0, y1, y2, y3⟩, -, y4⟩ := obox4 hK
   have hBw := below_then hb HB3.out hz3
   rcases Nat.lt_or_ge j nv with hlt | hge
   ·obtain ⟨b, off, rfl, hbw, c0, c1, c2, c3, c4, c5, c6, c7⟩ := (HTC.out.below hBw).cells (j := j) (by rw [HNF.out]; exact hlt)
    obtain ⟨b2, off2, rfl, hbw2, hcs⟩ := (HRM.out.vals.below hBw).cells (by rw [HNV.out]; omega)
    have s0 := hcs j (by rw [HNV.out]; exact hlt)
    have hsz := wd_size HRM.out.size j
    have HCJ := Lib.hid (HKc.out j (by exact hlt))
    simp only at s0 hsz
    have HVJ := Lib.hid (fun w ht => HVF.out (cA fs j) (wd vs j) w hsz HCJ.out ht)
    obtain ⟨s, hs⟩ : ∃ x, wd vs j = x := ⟨_, rfl⟩
    obtain ⟨co, hco⟩ : ∃ x, cA fs j = x := ⟨_, rfl⟩
    obtain ⟨X, hX⟩ : ∃ x, valF m q co s = x := ⟨_, rfl⟩
    have HX := Lib.hid (show valF m q (cA fs j) (wd vs j) = X by rw [hs, hco, hX])
    rw [hs, hco, hX] at HVJ
    rw [hs] at s0 hsz
    rw [hco] at c0 c1 c2 c3 c4 c5 c6 c7
    have HTW := Lib.hid (HTB.out.below hBw)
    clear hs hco hX hcs
    obtain ⟨nm, kd, wd, pl, fm, rt, fl, nd⟩ := co
    unfold colG at HVJ
    simp only at HVJ c0 c1 c2 c3 c4 c5 c6 c7
    have hoff : off + j * 8 < off + j * 8 + 1 := by omega
    have hF4 := heap_old hF (.cells #[.string nm, .int .i64 kd, .int .i64 wd, .int .i64 pl, .int .i64 fm, .bool rt, .int .u8 fl, .bool nd] 85)
    have hR4 := heap_old hR (.cells #[.string nm, .int .i64 kd, .int .i64 wd, .int .i64 pl, .int .i64 fm, .bool rt, .int .u8 fl, .bool nd] 85)
    have hC4 := heap_new wr (.cells #[.string nm, .int .i64 kd, .int .i64 wd, .int .i64 pl, .int .i64 fm, .bool rt, .int .u8 fl, .bool nd] 85) rfl
    have hb4 : Below wr.heap.size wr (wr.alloc (.cells #[.string nm, .int .i64 kd, .int .i64 wd, .int .i64 pl, .int .i64 fm, .bool rt, .int .u8 fl, .bool nd] 85)) := by go_grown
    have s4 := (hb4.cell (p := ⟨b2, off2 + j, none⟩) hbw2).trans s0
    have HBW := Lib.hid hBw
    have hzr := hb.size
    go_upto_region 9 with fail
    obtain ⟨c0n, hc0n⟩ : ∃ x, wr.heap.size = x := ⟨_, rfl⟩
    rw [hc0n] at hC4 ⊢
    generalize wr.alloc (.cells #[.string nm, .int .i64 kd, .int .i64 wd, .int .i64 pl, .int .i64 fm, .bool rt, .int .u8 fl, .bool nd] 85) = w4 at hF4 hR4 hC4 hb4 s4 ⊢
    clear f0 f1 f2 f3 f4 f5 f6 f7 r0 r1 r2 y0 y1 y2 y3 y4 c0 c1 c2 c3 c4 c5 c6 c7 s0 hF hR hK
    obtain ⟨⟨f0, f1, f2, f3, f4, f5, f6⟩, f7⟩ := obox7 hF4
    obtain ⟨r0, r1, -, -, r2⟩ := box2 hR4
    obtain ⟨⟨x0, x1, x2, x3, x4, x5, x6, x7⟩, x8⟩ := obox8 hC4
    have HT4 := Lib.hid (HTW.out.below hb4)
    have hB4 := below_then hb4 HBW.out HBW.out.size
    have HF4 := Lib.hid hF4; have HC4 := Lib.hid hC4; have HR4 := Lib.hid hR4; have HS4 := Lib.hid s4
    have hb2w : b2 < w4.heap.size := Nat.lt_of_lt_of_le hbw2 hb4.size
    have HSB := Lib.hid (show ∀ wx, Below w4.heap.size w4 wx -> (fun w' : World => w'.cell? ⟨w.heap.size, 0, none⟩ = some (.int .u8 m) /\ w'.cell? ⟨w.heap.size, 1, none⟩ = some (.int .u8 q) /\ w'.cell? ⟨w.heap.size, 2, none⟩ = some (.slice A n cp) /\ w'.cell? ⟨w.heap.size, 3, none⟩ = some (.string hd) /\ w'.cell? ⟨w.heap.size, 4, none⟩ = some (.string tl) /\ w'.cell? ⟨w.heap.size, 5, none⟩ = some (.string ct) /\ w'.cell? ⟨w.heap.size, 6, none⟩ = some (.string sm) /\ w'.cell? ⟨c0n, 0, none⟩ = some (.string nm) /\ w'.cell? ⟨c0n, 1, none⟩ = some (.int .i64 kd) /\ w'.cell? ⟨c0n, 2, none⟩ = some (.int .i64 wd) /\ w'.cell? ⟨c0n, 3, none⟩ = some (.int .i64 pl) /\ w'.cell? ⟨c0n, 4, none⟩ = some (.int .i64 fm) /\ w'.cell? ⟨c0n, 5, none⟩ = some (.bool rt) /\ w'.cell? ⟨c0n, 6, none⟩ = some (.int .u8 fl) /\ w'.cell? ⟨c0n, 7, none⟩ = some (.bool nd) /\ w'.cell? ⟨w.heap.size + 1, 1, none⟩ = some (.slice (some ⟨b2, off2, none⟩) nv RC) /\ w'.cell? ⟨b2, off2 + j, none⟩ = some (.string s)) wx from fun wx h => by
     obtain ⟨⟨f0, f1, f2, f3, f4, f5, f6⟩, f7⟩ := obox7 (heap_below HF4.out h)
     obtain ⟨⟨x0, x1, x2, x3, x4, x5, x6, x7⟩, x8⟩ := obox8 (heap_below HC4.out h)
     obtain ⟨r0, r1, -, -, r2⟩ := box2 (heap_below HR4.out h)
     exact ⟨f0, f1, f2, f3, f4, f5, f6, x0, x1, x2, x3, x4, x5, x6, x7, r1, (h.cell (p := ⟨b2, off2 + j, none⟩) hb2w).trans HS4.out⟩)
    have T1 : Below w4.heap.size w4 w4 := Below.refl _ _
    clear hF4 hR4 hC4 hc0n f0 f1 f2 f3 f4 f5 f6 f7 r0 r1 r2 x0 x1 x2 x3 x4 x5 x6 x7 x8 s4
    go_wp2_with fail
    go_region_held3 (fun w' : World => w'.cell? ⟨w.heap.size, 0, none⟩ = some (.int .u8 m) /\ w'.cell? ⟨w.heap.size, 1, none⟩ = some (.int .u8 q) /\ w'.cell? ⟨w.heap.size, 2, none⟩ = some (.slice A n cp) /\ w'.cell? ⟨w.heap.size, 3, none⟩ = some (.string hd) /\ w'.cell? ⟨w.heap.size, 4, none⟩ = some (.string tl) /\ w'.cell? ⟨w.heap.size, 5, none⟩ = some (.string ct) /\ w'.cell? ⟨w.heap.size, 6, none⟩ = some (.string sm) /\ w'.cell? ⟨c0n, 0, none⟩ = some (.string nm) /\ w'.cell? ⟨c0n, 1, none⟩ = some (.int .i64 kd) /\ w'.cell? ⟨c0n, 2, none⟩ = some (.int .i64 wd) /\ w'.cell? ⟨c0n, 3, none⟩ = some (.int .i64 pl) /\ w'.cell? ⟨c0n, 4, none⟩ = some (.int .i64 fm) /\ w'.cell? ⟨c0n, 5, none⟩ = some (.bool rt) /\ w'.cell? ⟨c0n, 6, none⟩ = some (.int .u8 fl) /\ w'.cell? ⟨c0n, 7, none⟩ = some (.bool nd) /\ w'.cell? ⟨w.heap.size + 1, 1, none⟩ = some (.slice (some ⟨b2, off2, none⟩) nv RC) /\ w'.cell? ⟨b2, off2 + j, none⟩ = some (.string s))
     (first | (with_reducible exact HSB.out _ T5) | (refine HSB.out _ ?_; go_grown))
     (first | (go_at_call 107; refine (HVJ.out _ (by exact HT4.out)).mono ?_; rintro e w5 ⟨rfl, hb5'⟩; (have T5 : Below w4.heap.size w4 w5 := by exact ⟨hb5'.os, hb5'.tape, hb5'.output, hb5'.size, hb5'.block⟩)))
    have hb5 := T5
    have hb45 := below_then hb5 hb4 hb4.size
    have hb35 := below_then hb45 hb hzr
    have hB5 := below_then hb45 HBW.out HBW.out.size
    clear hb4 hb5 hB4 hBw T5
    by_cases h0 : X = 0
    ·subst h0
     have HJ2 := Lib.hid (show ∀ t, t < j + 1 -> valF m q (cA fs t) (Go.Proofs.YtbnjejenejoibaaGreatDoor.wd vs t) = 0 from fun t ht => by
      rcases Nat.lt_or_ge t j with h | h
      ·exact HJ.out t h
      ·obtain rfl : t = j := by omega
       exact HX.out)
     go_wp2
     go_roundw
     case rel => exact ⟨j + 1, by omega, by go_num, hb35, HJ2⟩
     case measure => simp [intOf]; omega
    ·have HE := Lib.hid (show R = ((j : Int), X) by rw [HRF.out, frF_hit (j := j) HJ.out (by show valF m q _ _ ≠ 0; rw [HX.out]; exact h0) hlt]; exact congrArg _ HX.out)
     have h0a : (X != 0) = true := by simpa using h0
     clear h0
     go_wp2
     go_ret2
     exact ⟨by rw [HE.out]; rfl, hB5⟩
   ·obtain rfl : j = nv := by omega
    have HE := Lib.hid (show R = (0, 0) by rw [HRF.out]; exact frF_no HJ.out)
    go_wp2
    go_ret2
    exact ⟨by rw [HE.out]; rfl, hBw⟩
end Go.Proofs.YtbnjejenejoibaaGreatDoor
