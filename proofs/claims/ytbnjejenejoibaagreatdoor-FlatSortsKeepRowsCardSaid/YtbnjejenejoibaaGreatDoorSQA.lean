
/- The walk of Sorted. (Printed by genSQA.py.) -/
import Derived.Test.YtbnjejenejoibaaGreatDoorC4
import Derived.Test.YtbnjejenejoibaaGreatDoorSQO
import Derived.Test.YtbnjejenejoibaaGreatDoorSQY
import Derived.Test.YtbnjejenejoibaaGreatDoorC6
import Derived.Deep.CutBlock
namespace Go.Proofs.YtbnjejenejoibaaGreatDoor
open Go.RowKit Limb Nmb Work
set_option linter.unusedVariables false
set_option linter.unusedSimpArgs false
theorem Tryz.infoSpn : (Tryz.prog.info? 55).map (fun i => (i.zero, i.size, i.bytes)) = some (some (.agg #[.slice none 0 0, .string ⟨#[]⟩]), 2, 40) := by kernel_rfl
def RetSo (l : List RowP) (e : Int) (w : World) (E : Ending) (w' : World) : Prop := ∃ X c RA RC, E = .returned (.tuple #[.slice X l.length c, .int .i64 e]) /\ RowsM w' X l RA RC /\ (l.length <= c /\ c <= 9223372036854775807) /\ Below w.heap.size w w'
theorem RetSo.bad {l : List RowP} {e : Int} {w w' : World} (h : l = []) (hb : Below w.heap.size w w') : RetSo l e w (.returned (.tuple #[.slice none 0 0, .int .i64 e])) w' := by
 subst h
 exact ⟨none, 0, fun _ => none, fun _ => 0, rfl, ⟨fun h => absurd h (Nat.lt_irrefl _), fun j hj => absurd hj (Nat.not_lt_zero _), Nat.zero_le _⟩, ⟨Nat.le_refl _, by omega⟩, hb⟩
theorem skat_many {f : Fmt} (hf : checkF f = 0) (t : ByteArray) : (katK f t).fields.length <= 50 := by
 rcases kat_cases f (fun _ => none) (fun _ => 0) t with ⟨-, h, -, -⟩ | ⟨k, hk, -, h, -, -⟩
 ·rw [h]; exact Nat.zero_le _
 ·rw [h]; exact ((checkF_ok hf).kinds k hk).many
theorem ordF_ok {f : Fmt} {rs : List RowP} (h : (ordF f rs).2 = 0) : checkF f = 0 /\ (∀ j, j < rs.length -> RowK f (rA rs j)) /\ (f.tail ≠ ⟨#[]⟩ -> 0 < rs.length) := by
 unfold ordF at h
 split at h
 ·rename_i h1; exact absurd h h1
 rename_i h1
 unfold ordR at h
 split at h
 ·rename_i h2; exact absurd h h2
 rename_i h2
 split at h
 ·rename_i h3; exact absurd h h3
 split at h
 ·cases h
 rename_i h4
 refine ⟨Classical.byContradiction h1, fun j hj => rowF_ok (frF_zero (g := fun j => (rowF f (rA rs j)).2) (Classical.byContradiction h2) j hj), fun ht => ?_⟩
 refine Classical.byContradiction fun hn => h4 ⟨ht, ?_⟩
 have : rs = [] := List.eq_nil_of_length_eq_zero (by omega)
 subst this
 rfl
set_option maxHeartbeats 8000000 in
set_option maxRecDepth 100000 in
theorem Sorted_c (f : Fmt) (A : Option Addr) (cp : Nat) (FA : Nat -> Option Addr) (FC : Nat -> Nat) (L : Option Addr) (LC : Nat) (rs : List RowP) (RA : Nat -> Option Addr) (RC : Nat -> Nat) (name : ByteArray) (w : World) (ho : Kinds w A f.kinds FA FC) (hl : RowsM w L rs RA RC) (hLC : rs.length <= LC) (hLM : LC <= 9223372036854775807) (hbz : rs.length * 40 <= 140737488355328) (hcp : f.kinds.length <= cp) (hm : 0 <= f.mark /\ f.mark <= 255) (hq : 0 <= f.quote /\ f.quote <= 255) (ht : Tab w) :
  Calls Tryz.prog 5 #[fmtG f A cp, .slice L rs.length LC, .string name] w (RetSo (sortL f rs name) (sortE f rs name) w) := by
 obtain ⟨i0, hi, hz0, hz1, hz2⟩ := info_parts Tryz.infoRow
 have HCO := Lib.hid (fun w h h2 ht => CheckOrder_c f A cp FA FC L LC rs RA RC w h h2 hLC hLM hcp hm hq ht)
 have HSF := Lib.hid (fun w h => sortfault_c f A cp FA FC name w h)
 have HCL := Lib.hid (fun w h hv => clonerows_c L LC rs RA RC w h hbz hv)
 have HKA := Lib.hid (fun t w h => kindat_c f A cp FA FC t w h)
 have HCC := Lib.hid (fun t => kat_cases f FA FC t)
 have HOK := Lib.hid (fun h => ordF_ok (f := f) (rs := rs) h)
 have HMY := Lib.hid (fun (h : checkF f = 0) t => skat_many h t)
 have HFN := Lib.hid (fun j h1 h2 h3 h4 => fromN_at (f := f) (rs := rs) (j := j) h1 h2 h3 h4)
 have HKI := Lib.hid ho; have HLM := Lib.hid hl; have HTB := Lib.hid ht
 obtain ⟨⟨ox, oe⟩, hO⟩ : ∃ x, ordF f rs = x := ⟨_, rfl⟩
 obtain ⟨⟨sb, se⟩, hS⟩ : ∃ x, sortF f name = x := ⟨_, rfl⟩
 obtain ⟨R, hR⟩ : ∃ x, sortE f rs name = x := ⟨_, rfl⟩
 obtain ⟨DL, hDL⟩ : ∃ x, sortL f rs name = x := ⟨_, rfl⟩
 have HR := Lib.hid (show (if oe ≠ 0 then oe else se) = R by rw [<- hR]; unfold sortE; rw [hO, hS])
 have HDE := Lib.hid (fun (h : R ≠ 0) => show DL = [] by rw [<- hDL]; unfold sortL; rw [hR, if_pos h])
 have HDO := Lib.hid (fun (h : R = 0) => show DL = rs.take (fromN f rs) ++ sortM sb (spansL f name (midL f rs)) ++ rs.drop (toN f rs.length) by rw [<- hDL]; unfold sortL; rw [hR, if_neg (fun k => k h), hS]; rfl)
 rw [hR, hDL]
 rw [hO] at HCO HOK
 rw [hS] at HSF
 unfold RetNF at HCO
 unfold RetBI at HSF
 unfold RetCl at HCL
 simp only at HCO HOK HSF
 clear ho hl ht hO hS hR hDL hq
 obtain ⟨m, q, ks, hd, tl, ct, sm⟩ := f
 unfold fmtG at HCO HSF HKA ⊢
 simp only at HCO HSF HKA HCC HOK HKI hcp hm ⊢
 obtain ⟨n, hn⟩ : ∃ x, ks.length = x := ⟨_, rfl⟩
 rw [hn] at HCO HSF HKA hcp ⊢
 clear hn
 obtain ⟨nr, hnr⟩ : ∃ x, rs.length = x := ⟨_, rfl⟩
 have HNR := Lib.hid hnr
 rw [hnr] at HCO HCL HOK HDO HFN hLC hbz ⊢
 clear hnr
 have hF0 := heap_new w (.cells #[.int .u8 m, .int .u8 q, .slice A n cp, .string hd, .string tl, .string ct, .string sm] 24) rfl
 have hB0 : Below w.heap.size w (w.alloc (.cells #[.int .u8 m, .int .u8 q, .slice A n cp, .string hd, .string tl, .string ct, .string sm] 24)) := by go_grown
 go_enter Tryz.func5, Tryz.ntmps5
 go_upto_region 1 with fail
 generalize w.alloc (.cells #[.int .u8 m, .int .u8 q, .slice A n cp, .string hd, .string tl, .string ct, .string sm] 24) = w1 at hF0 hB0 ⊢
 have HW := Lib.hid (show ∀ wx, Below w1.heap.size w1 wx -> wx.heap[w.heap.size]? = some (.cells #[.int .u8 m, .int .u8 q, .slice A n cp, .string hd, .string tl, .string ct, .string sm] 24 (0, 0)) /\ Kinds wx A ks FA FC /\ RowsM wx L rs RA RC /\ Tab wx /\ Below w.heap.size w wx from fun wx h => by
  have h2 := below_then h hB0 hB0.size
  exact ⟨heap_below hF0 h, HKI.out.below h2, HLM.out.below h2, HTB.out.below h2, h2⟩)
 obtain ⟨⟨f0, f1, f2, f3, f4, f5, f6⟩, f7⟩ := obox7 hF0
 clear hF0 hB0
 obtain ⟨q1, q2, q3, q4, q5⟩ := HW.out _ (Below.refl _ _)
 have Q2 := Lib.hid q2; have Q3 := Lib.hid q3; have Q4 := Lib.hid q4
 clear q1 q2 q3 q4 q5
 go_wp2_with fail
 refine (HCO.out _ Q2.out Q3.out Q4.out).mono ?_
 rintro _ w2 ⟨rfl, hb2⟩
 have HB2 := Lib.hid hb2
 clear f0 f1 f2 f3 f4 f5 f6 f7 hb2 Q2 Q3 Q4
 by_cases h0 : oe = 0
 case neg =>
  have HE := Lib.hid (show R = oe by rw [<- HR.out, if_pos h0])
  have HD := Lib.hid (HDE.out (by rw [HE.out]; exact h0))
  have h0a : (oe != 0) = true := by simpa using h0
  clear h0
  go_wp2
  go_ret2
  rw [HE.out]
  exact RetSo.bad HD.out (HW.out _ HB2.out).2.2.2.2
 subst h0
 have HR1 := Lib.hid (show se = R by have h := HR.out; rw [if_neg (fun k => k rfl)] at h; exact h)
 have HOK1 := Lib.hid (HOK.out (by trivial))
 clear HR HOK
 obtain ⟨q1, q2, q3, q4, q5⟩ := HW.out _ HB2.out
 have Q2 := Lib.hid q2
 obtain ⟨⟨f0, f1, f2, f3, f4, f5, f6⟩, f7⟩ := obox7 q1
 clear q1 q2 q3 q4 q5
 go_wp2_with fail
 refine (HSF.out _ Q2.out).mono ?_
 rintro _ w3 ⟨rfl, hb3⟩
 have hB3 := below_then hb3 HB2.out HB2.out.size
 have HN4 := Lib.hid (heap_new w3 (.cells #[.bool sb] 4) rfl)
 have HB4 : Hid (Below w1.heap.size w1 (w3.alloc (.cells #[.bool sb] 4))) := Lib.hid (hB3.alloc hB3.size _)
 clear f0 f1 f2 f3 f4 f5 f6 f7 hb3 hB3 Q2 HB2
 go_upto_region 5 with fail
 obtain ⟨nb, hnb⟩ : ∃ x, w3.heap.size = x := ⟨_, rfl⟩
 rw [hnb] at HN4
 try rw [hnb]
 generalize w3.alloc (.cells #[.bool sb] 4) = w4 at HN4 HB4 ⊢
 clear hnb
 by_cases h0 : se = 0
 case neg =>
  have HE := Lib.hid HR1.out.symm
  have HD := Lib.hid (HDE.out (by rw [HE.out]; exact h0))
  have h0a : (se != 0) = true := by simpa using h0
  clear h0
  go_wp2
  go_ret2
  rw [HE.out]
  exact RetSo.bad HD.out (HW.out _ HB4.out).2.2.2.2
 subst h0
 have HE := Lib.hid HR1.out.symm
 have HDL := Lib.hid (HDO.out HE.out)
 have HF50 := Lib.hid (show ∀ j, j < nr -> (rA rs j).vals.length <= 1000000 from fun j hj => by
  have h1 := (HOK1.out.2.1 j hj).many
  have h2 := HMY.out HOK1.out.1 (rA rs j).tag
  omega)
 clear HDE HDO HR1 HMY
 have Q3 := Lib.hid (HW.out _ HB4.out).2.2.1
 go_wp2_with fail
 refine (HCL.out _ Q3.out HF50.out).mono ?_
 rintro _ w5 ⟨XA, xc, rfl, hro⟩
 have HRO := Lib.hid hro
 have HB5 := Lib.hid (below_then hro.bel HB4.out HB4.out.size)
 have HN5 := Lib.hid (heap_below HN4.out hro.bel)
 have hxc : nr <= xc /\ xc <= 9223372036854775807 := by
  obtain ⟨_, _, _, h2, _, _⟩ := hro
  have := own_cap h2
  unfold maxLen at this
  exact this
 clear hro HN4 HB4 Q3 HCL HCO HSF
 obtain ⟨XRA, XRC, hrm⟩ := HRO.out.rowsM
 have HW5 := Lib.hid (show ∀ wx, Below w5.heap.size w5 wx -> wx.heap[w.heap.size]? = some (.cells #[.int .u8 m, .int .u8 q, .slice A n cp, .string hd, .string tl, .string ct, .string sm] 24 (0, 0)) /\ Kinds wx A ks FA FC /\ RowsM wx XA rs XRA XRC /\ Below w.heap.size w wx /\ wx.heap[nb]? = some (.cells #[.bool sb] 4 (0, 0)) from fun wx h => by
  obtain ⟨q1, q2, q3, q4, q5⟩ := HW.out _ (below_then h HB5.out HB5.out.size)
  exact ⟨q1, q2, hrm.below h, q5, heap_below HN5.out h⟩)
 have hXA : (XA = none /\ nr = 0 /\ xc = 0) ∨ ∃ g, XA = some ⟨g, 0, none⟩ := by
  obtain ⟨_, _, _, h2, _, _⟩ := HRO.out
  rcases h2.2 with ⟨h3, h4⟩ | ⟨g, cap, cur, h3, -⟩
  ·cases h3; exact .inl ⟨rfl, h4, rfl⟩
  ·cases h3; exact .inr ⟨g, rfl⟩
 have HXA := Lib.hid hXA
 clear hrm HW HB5 HN5 HRO hXA
 obtain ⟨q1, q2, q3, q4, q5⟩ := HW5.out _ (Below.refl _ _)
 obtain ⟨⟨f0, f1, f2, f3, f4, f5, f6⟩, f7⟩ := obox7 q1
 clear q1 q2 q3 q4 q5
 have e1 := emp_dec tl
 have e2 := emp_dec hd
 obtain ⟨TE, hTE⟩ : ∃ x, decide (tl = ⟨#[]⟩) = x := ⟨_, rfl⟩
 obtain ⟨DE, hDE⟩ : ∃ x, decide (hd = ⟨#[]⟩) = x := ⟨_, rfl⟩
 have HTE := Lib.hid hTE; have HDE := Lib.hid hDE
 rw [hTE] at e1
 rw [hDE] at e2
 clear hTE hDE
 obtain ⟨tn, hto⟩ : ∃ x, toN ⟨m, q, ks, hd, tl, ct, sm⟩ nr = x := ⟨_, rfl⟩
 obtain ⟨h0, hh0⟩ : ∃ x, hdN ⟨m, q, ks, hd, tl, ct, sm⟩ nr = x := ⟨_, rfl⟩
 have HTO := Lib.hid (show (if tl = ⟨#[]⟩ then nr else nr - 1) = tn from hto)
 have HH0 := Lib.hid (show (if hd ≠ ⟨#[]⟩ /\ 0 < tn then 1 else 0) = h0 by rw [<- hto]; exact hh0)
 rw [hto] at HFN HDL
 rw [hh0] at HFN
 have hton : tn <= nr := by rw [<- hto]; exact toN_le _ _
 have hh0n : h0 <= tn := by rw [<- hh0, <- hto]; exact hdN_le _ _
 have HTO9 := Lib.hid hto
 clear hto hh0
 have hpos := HOK1.out.2.2
 have HPOS := Lib.hid hpos
 clear hpos
 go_upto_region 9 with fail
 go_upto_if 51 with fail
 go_cut [13] (fun v wx => v = .int .i64 (tn : Int) /\ w5 = wx)
 case first => as_aux_lemma =>
  cases TE with
  | true =>
   have HQ := Lib.hid (show (nr : Int) = (tn : Int) by have h := HTO.out; rw [if_pos (of_decide_eq_true HTE.out)] at h; omega)
   go_wp2_with fail
   go_meet
   exact ⟨by rw [HQ.out], rfl⟩
  | false =>
   have HQ := Lib.hid (show (nr : Int) - 1 = (tn : Int) by
    have h := HTO.out
    have hp := HPOS.out (of_decide_eq_false HTE.out)
    rw [if_neg (of_decide_eq_false HTE.out)] at h
    omega)
   have hp := HPOS.out (of_decide_eq_false HTE.out)
   go_wp2_with fail
   go_meet
   exact ⟨by rw [HQ.out], rfl⟩
 case rest =>
 obtain ⟨rfl, rfl⟩ := hcut
 clear e1
 obtain ⟨HH, hHH⟩ : ∃ x, decide (h0 = 1) = x := ⟨_, rfl⟩
 have HHH := Lib.hid hHH
 clear hHH
 go_upto_region 11 with fail
 go_cut [60] (fun v wx => v = .bool HH /\ w5 = wx)
 case first => as_aux_lemma =>
  cases DE with
  | true =>
   have HQ := Lib.hid (show HH = false by rw [<- HHH.out]; have h := HH0.out; rw [if_neg (fun k => k.1 (of_decide_eq_true HDE.out))] at h; exact decide_eq_false (by omega))
   go_wp2_with fail
   go_meet
   exact ⟨by rw [HQ.out], rfl⟩
  | false =>
   by_cases k2 : 0 < tn
   ·have HQ := Lib.hid (show HH = true by rw [<- HHH.out]; have h := HH0.out; rw [if_pos ⟨of_decide_eq_false HDE.out, k2⟩] at h; exact decide_eq_true h.symm)
    have k3 : decide ((0 : Int) < (tn : Int)) = true := decide_eq_true (by omega)
    have k4 : decide (0 < tn) = true := decide_eq_true (by omega)
    clear k2
    go_wp2_with fail
    go_meet
    exact ⟨by rw [HQ.out], rfl⟩
   ·have HQ := Lib.hid (show HH = false by rw [<- HHH.out]; have h := HH0.out; rw [if_neg (fun k => k2 k.2)] at h; exact decide_eq_false (by omega))
    have k3 : decide ((0 : Int) < (tn : Int)) = false := decide_eq_false (by omega)
    have k4 : decide (0 < tn) = false := decide_eq_false (by omega)
    clear k2
    go_wp2_with fail
    go_meet
    exact ⟨by rw [HQ.out], rfl⟩
 case rest =>
 obtain ⟨rfl, rfl⟩ := hcut
 go_upto_if 60 with fail
 go_cut [12] (fun v wx => v = .int .i64 (h0 : Int) /\ w5 = wx)
 case first => as_aux_lemma =>
  cases HH with
  | true =>
   have HQ := Lib.hid (show h0 = 1 from of_decide_eq_true HHH.out)
   go_wp2_with fail
   go_meet
   exact ⟨by rw [HQ.out]; rfl, rfl⟩
  | false =>
   have HQ := Lib.hid (show h0 = 0 by
    have h1 := of_decide_eq_false HHH.out
    have h := HH0.out
    split at h <;> omega)
   go_wp2_with fail
   go_meet
   exact ⟨by rw [HQ.out]; rfl, rfl⟩
 case rest =>
 obtain ⟨rfl, rfl⟩ := hcut
 clear e2 f0 f1 f2 f3 f4 f5 f6 f7
 have HKC := Lib.hid (show ∀ wx, Below w5.heap.size w5 wx -> ∀ t, Cols wx (katA ⟨m, q, ks, hd, tl, ct, sm⟩ FA t) (katK ⟨m, q, ks, hd, tl, ct, sm⟩ t).fields from fun wx h t => by
  rcases HCC.out t with ⟨-, e2, e3, -⟩ | ⟨k, hk, -, e2, e3, -⟩
  ·rw [e2, e3]
   exact ⟨⟨fun c hc => (by cases hc), Nat.zero_le _⟩, fun h => absurd h (Nat.not_lt_zero _)⟩
  ·rw [e2, e3]
   exact ((HW5.out wx h).2.1.2.2 k hk).1)
 clear HCC
 go_upto_block 0 with fail
 go_cut [12] from 61 to 78 (fun v wx => ∃ fr : Nat, v = .int .i64 (fr : Int) /\ Hid (fromN ⟨m, q, ks, hd, tl, ct, sm⟩ rs = fr) /\ Hid (fr <= tn) /\ Hid (Below w5.heap.size w5 wx))
 case first => as_aux_lemma =>
  go_wp2_with fail
  go_loopw [12] (fun v wr => ∃ j : Nat, h0 <= j /\ j <= tn /\ v = .int .i64 j /\ Hid (∀ k, h0 <= k -> k < j -> undR ⟨m, q, ks, hd, tl, ct, sm⟩ (rA rs k) = true) /\ Hid (Below w5.heap.size w5 wr)) (fun v _ => tn - (intOf v).toNat)
  case atStart => exact ⟨h0, Nat.le_refl _, hh0n, rfl, Lib.hid (fun k h1 h2 => by omega), Lib.hid (Below.refl _ _)⟩
  case round =>
   obtain ⟨j, hj0, hj, rfl, HU, HB⟩ := hrel
   rcases Nat.lt_or_ge j tn with hlt | hge
   ·obtain ⟨q1, q2, q3, q4, q5⟩ := HW5.out _ HB.out
    obtain ⟨xb, xo, rfl, hxb, c0, c1⟩ := q3.cells (j := j) (by rw [HNR.out]; omega)
    have hjn : (j : Int) < (nr : Int) := by omega
    have HUR := Lib.hid (show undR ⟨m, q, ks, hd, tl, ct, sm⟩ (rA rs j) = !decide ((katK ⟨m, q, ks, hd, tl, ct, sm⟩ (rA rs j).tag).under = ⟨#[]⟩) from rfl)
    obtain ⟨rt, hrt⟩ : ∃ x, (rA rs j).tag = x := ⟨_, rfl⟩
    rw [hrt] at c0 HUR
    have HKJ := Lib.hid (fun wx (h : Below w5.heap.size w5 wx) => HKA.out rt wx (HW5.out wx h).2.1)
    have HSB := Lib.hid (show ∀ wy, Below wr.heap.size wr wy -> (fun w' : World => w'.cell? ⟨w.heap.size, 0, none⟩ = some (.int .u8 m) /\ w'.cell? ⟨w.heap.size, 1, none⟩ = some (.int .u8 q) /\ w'.cell? ⟨w.heap.size, 2, none⟩ = some (.slice A n cp) /\ w'.cell? ⟨w.heap.size, 3, none⟩ = some (.string hd) /\ w'.cell? ⟨w.heap.size, 4, none⟩ = some (.string tl) /\ w'.cell? ⟨w.heap.size, 5, none⟩ = some (.string ct) /\ w'.cell? ⟨w.heap.size, 6, none⟩ = some (.string sm) /\ w'.cell? ⟨xb, xo + j * 2, none⟩ = some (.string rt)) wy from fun wy T => by
     obtain ⟨⟨f0, f1, f2, f3, f4, f5, f6⟩, f7⟩ := obox7 (heap_below q1 T)
     exact ⟨f0, f1, f2, f3, f4, f5, f6, (T.cell (p := ⟨xb, xo + j * 2, none⟩) hxb).trans c0⟩)
    clear q1 q2 q3 q4 q5 c0 c1 hxb hrt
    obtain ⟨K, hK⟩ : ∃ x, katK ⟨m, q, ks, hd, tl, ct, sm⟩ rt = x := ⟨_, rfl⟩
    rw [hK] at HKJ HUR
    generalize katA ⟨m, q, ks, hd, tl, ct, sm⟩ FA rt = KA at HKJ
    generalize katC ⟨m, q, ks, hd, tl, ct, sm⟩ FC rt = KC at HKJ
    generalize decide (0 <= katI ⟨m, q, ks, hd, tl, ct, sm⟩ rt) = KB at HKJ
    clear hK
    obtain ⟨kt, fs, km, ku⟩ := K
    unfold kindG at HKJ
    simp only at HKJ HUR
    generalize fs.length = nf at HKJ
    go_upto_region 14 with fail
    go_cut [14] from 64 to 73 (fun v wx => ∃ g, v = .pointer (some ⟨g, 0, none⟩) /\ Hid (wx.heap[g]? = some (.cells #[.string kt, .slice KA nf KC, .int .i64 km, .string ku] 46 (0, 0))) /\ Hid (Below wr.heap.size wr wx))
    case first =>
     go_wp2_with fail
     go_region_held3 (fun w' : World => w'.cell? ⟨w.heap.size, 0, none⟩ = some (.int .u8 m) /\ w'.cell? ⟨w.heap.size, 1, none⟩ = some (.int .u8 q) /\ w'.cell? ⟨w.heap.size, 2, none⟩ = some (.slice A n cp) /\ w'.cell? ⟨w.heap.size, 3, none⟩ = some (.string hd) /\ w'.cell? ⟨w.heap.size, 4, none⟩ = some (.string tl) /\ w'.cell? ⟨w.heap.size, 5, none⟩ = some (.string ct) /\ w'.cell? ⟨w.heap.size, 6, none⟩ = some (.string sm) /\ w'.cell? ⟨xb, xo + j * 2, none⟩ = some (.string rt))
      (first | (with_reducible exact HSB.out _ T2) | (refine HSB.out _ ?_; go_grown))
      (first | (go_at_call 16; refine (HKJ.out _ (by first | exact HB.out.drew | exact (HB.out.alloc HB.out.size (.cells #[.string ⟨#[]⟩, .slice none 0 0, .int .i64 0, .string ⟨#[]⟩] 46)).drew)).mono ?_; rintro e w2 ⟨rfl, hb2⟩; (have T2 : Below wr.heap.size wr w2 := by first | exact ⟨hb2.os, hb2.tape, hb2.output, hb2.size, hb2.block⟩ | exact (((Below.refl wr.heap.size wr).alloc (Nat.le_refl _) (.cells #[.string ⟨#[]⟩, .slice none 0 0, .int .i64 0, .string ⟨#[]⟩] 46)).drew).trans (hb2.mono (by show _ <= (wr.alloc (.cells #[.string ⟨#[]⟩, .slice none 0 0, .int .i64 0, .string ⟨#[]⟩] 46)).heap.size; simp))); (have z2 := T2.size); (first | (have G2 : w2.heap[wr.heap.size]? = some (.cells #[.string ⟨#[]⟩, .slice none 0 0, .int .i64 0, .string ⟨#[]⟩] 46 (0, 0)) := (by exact heap_below (w := (wr.alloc (.cells #[.string ⟨#[]⟩, .slice none 0 0, .int .i64 0, .string ⟨#[]⟩] 46)).drew) (heap_new wr _ rfl) hb2); have hf := obox4 G2; obtain ⟨⟨q0, q1, q2, q3⟩, ⟨p0, p1, p2, p3⟩, q4⟩ := hf) | skip)))
     all_goals
      go_wp2_with fail
      go_meet
      first
       | (with_reducible exact ⟨w2.heap.size, rfl, Lib.hid (heap_new _ _ rfl), Lib.hid (T2.alloc z2 _)⟩)
       | exact ⟨wr.heap.size, rfl, Lib.hid (by have := heap_set (heap_set (heap_set (heap_set G2 0 (.string kt)) 1 (.slice KA nf KC)) 2 (.int .i64 km)) 3 (.string ku); simpa using this), Lib.hid ((((T2.setCell (p := ⟨wr.heap.size, 0, none⟩) (Nat.le_refl _) _).setCell (p := ⟨wr.heap.size, 1, none⟩) (Nat.le_refl _) _).setCell (p := ⟨wr.heap.size, 2, none⟩) (Nat.le_refl _) _).setCell (p := ⟨wr.heap.size, 3, none⟩) (Nat.le_refl _) _)⟩
    case rest =>
     obtain ⟨g, rfl, HG, HT⟩ := hcut
     have HB6 := Lib.hid (below_then HT.out HB.out HB.out.size)
     obtain ⟨⟨y0, y1, y2, y3⟩, -, y4⟩ := obox4 HG.out
     have e3 := emp_dec ku
     obtain ⟨UE, hUE⟩ : ∃ x, decide (ku = ⟨#[]⟩) = x := ⟨_, rfl⟩
     rw [hUE] at e3 HUR
     clear hUE HT HG
     cases UE with
     | true =>
      have HFR := Lib.hid (HFN.out j hj0 hj HU.out (.inr (by rw [HUR.out]; rfl)))
      have HJ := Lib.hid hj
      go_wp2_with fail
      go_meet
      exact ⟨j, rfl, HFR, HJ, HB6⟩
     | false =>
      have HU2 := Lib.hid (show ∀ k, h0 <= k -> k < j + 1 -> undR ⟨m, q, ks, hd, tl, ct, sm⟩ (rA rs k) = true from fun k h1 h2 => by
       rcases Nat.lt_or_ge k j with h | h
       ·exact HU.out k h1 h
       ·obtain rfl : k = j := by omega
        rw [HUR.out]; rfl)
      go_wp2
      go_roundw
      case rel => exact ⟨j + 1, by omega, by omega, by go_num, HU2, HB6⟩
      case measure => simp [intOf]; omega
   ·obtain rfl : j = tn := by omega
    have HFR := Lib.hid (HFN.out j hj0 (Nat.le_refl _) HU.out (.inl rfl))
    go_wp2_with fail
    go_meet
    exact ⟨j, rfl, HFR, Lib.hid (Nat.le_refl _), HB⟩
 case rest =>
 obtain ⟨fr, rfl, HFR, HFL, HB6⟩ := hcut
 have HDL2 := Lib.hid (show DL = rs.take fr ++ sortM sb (spansL ⟨m, q, ks, hd, tl, ct, sm⟩ name ((rs.take tn).drop fr)) ++ rs.drop tn by
  have h := HDL.out
  unfold midL at h
  rw [HNR.out, HTO9.out, HFR.out] at h
  exact h)
 have hfl := HFL.out
 obtain ⟨MID, hMID⟩ : ∃ x, (rs.take tn).drop fr = x := ⟨_, rfl⟩
 have HML := Lib.hid (show MID.length = tn - fr by rw [<- hMID, List.length_drop, List.length_take, HNR.out]; omega)
 have HMA := Lib.hid (show ∀ p, p < tn - fr -> rA MID p = rA rs (fr + p) from fun p hp => by rw [<- hMID, rA_drop, rA_take (by omega)])
 rw [hMID] at HDL2
 have HSPT := Lib.hid (fun p (h : p < MID.length) => spansL_take (f := ⟨m, q, ks, hd, tl, ct, sm⟩) (name := name) h)
 have HSPL := Lib.hid (fun p (h : p <= MID.length) => spansL_len ⟨m, q, ks, hd, tl, ct, sm⟩ name MID p h)
 have HSPE := Lib.hid (show spansL ⟨m, q, ks, hd, tl, ct, sm⟩ name (MID.take MID.length) = spansL ⟨m, q, ks, hd, tl, ct, sm⟩ name MID by rw [List.take_length])
 have HSP0 := Lib.hid (show spansL ⟨m, q, ks, hd, tl, ct, sm⟩ name (MID.take 0) = [] from rfl)
 have HSTP := Lib.hid (show ∀ sp r, spanSt ⟨m, q, ks, hd, tl, ct, sm⟩ name sp r = if undR ⟨m, q, ks, hd, tl, ct, sm⟩ r = true /\ 0 < sp.length then upSp sp r else sp ++ [⟨[r], valQ ⟨m, q, ks, hd, tl, ct, sm⟩ name r⟩] from fun _ _ => rfl)
 rw [HML.out] at HSPT HSPL HSPE
 have HQV := Lib.hid (show ∀ r, valQ ⟨m, q, ks, hd, tl, ct, sm⟩ name r = if ixF (nameIs name) (katK ⟨m, q, ks, hd, tl, ct, sm⟩ r.tag).fields < 0 then ⟨#[]⟩ else wd r.vals (ixF (nameIs name) (katK ⟨m, q, ks, hd, tl, ct, sm⟩ r.tag).fields).toNat from fun _ => rfl)
 have HUN := Lib.hid (show ∀ r, undR ⟨m, q, ks, hd, tl, ct, sm⟩ r = !decide ((katK ⟨m, q, ks, hd, tl, ct, sm⟩ r.tag).under = ⟨#[]⟩) from fun _ => rfl)
 have HROK := Lib.hid HOK1.out.2.1
 clear hMID HDL HTO HTO9 HH0 HFN HFR HOK1 hh0n HTE HDE HHH HPOS
 generalize wc = w6 at HB6 ⊢
 obtain ⟨nm, hnm⟩ : ∃ x, tn - fr = x := ⟨_, rfl⟩
 have HNM := Lib.hid (show fr + nm = tn by omega)
 rw [hnm] at HMA HSPT HSPL HSPE HML
 clear hnm
 go_upto_region 18 with fail
 go_cut [82, 83, 84] (fun a b c wx => ∃ MA mc, a = .slice MA nm mc /\ b = .int .i64 (nm : Int) /\ c = .int .i64 0 /\ Hid (0 < nm -> ∃ g, XA = some ⟨g, 0, none⟩ /\ MA = some ⟨g, fr * 2, none⟩) /\ w6 = wx)
 case first => as_aux_lemma =>
  rcases HXA.out with ⟨rfl, hn0, hc0⟩ | ⟨g, rfl⟩
  ·subst hc0
   have hq := HNM.out
   obtain rfl : tn = 0 := by omega
   obtain rfl : fr = 0 := by omega
   obtain rfl : nm = 0 := by omega
   clear hn0 hq
   go_wp2_with fail
   go_meet
   exact ⟨none, 0, rfl, rfl, rfl, Lib.hid (fun h => absurd h (Nat.lt_irrefl _)), rfl⟩
  ·have hft : (fr : Int) <= (tn : Int) := by omega
   have htc : (tn : Int) <= (xc : Int) := by omega
   by_cases hcf : xc = fr
   ·have hcf2 : (xc : Int) = (fr : Int) := by omega
    have HN0 := Lib.hid (show nm = 0 by have := HNM.out; omega)
    go_wp2_with fail
    go_meet
    exact ⟨_, _, by rw [show nm = tn - fr by have := HNM.out; omega], by congr 1; have := HNM.out; omega, rfl, Lib.hid (fun h => by have := HN0.out; omega), rfl⟩
   ·have hcf2 : ¬ (xc : Int) = (fr : Int) := by omega
    go_wp2_with fail
    go_meet
    exact ⟨some ⟨g, fr * 2, none⟩, xc - fr, by rw [show nm = tn - fr by have := HNM.out; omega], by congr 1; have := HNM.out; omega, rfl, Lib.hid (fun _ => ⟨g, rfl, rfl⟩), rfl⟩
 case rest =>
 obtain ⟨MA, mc, rfl, rfl, rfl, HMX, rfl⟩ := hcut
 have HW6 := Lib.hid (show ∀ wx, Below w6.heap.size w6 wx -> wx.heap[w.heap.size]? = some (.cells #[.int .u8 m, .int .u8 q, .slice A n cp, .string hd, .string tl, .string ct, .string sm] 24 (0, 0)) /\ Kinds wx A ks FA FC /\ RowsM wx XA rs XRA XRC /\ Below w.heap.size w wx /\ wx.heap[nb]? = some (.cells #[.bool sb] 4 (0, 0)) /\ (∀ t, Cols wx (katA ⟨m, q, ks, hd, tl, ct, sm⟩ FA t) (katK ⟨m, q, ks, hd, tl, ct, sm⟩ t).fields) from fun wx h => by
  have h2 := below_then h HB6.out HB6.out.size
  obtain ⟨q1, q2, q3, q4, q5⟩ := HW5.out _ h2
  exact ⟨q1, q2, q3, q4, q5, HKC.out wx h2⟩)
 obtain ⟨s0, hs0, ht0, ht1, ht2⟩ := info_parts Tryz.infoSpn
 have HRK := Lib.hid (fun j (h : j < nr) => (HROK.out j h).many)
 clear HW5 HKC HB6
 go_upto_block 2 with fail
 go_cut [16] from 79 to 136 (fun v wx => ∃ (S : Option Addr) (c ns : Nat) (G GC : Nat -> Nat), v = .slice S ns c /\ Hid (ns <= nm) /\ Hid (SpO w6 wx S ns c (spansL ⟨m, q, ks, hd, tl, ct, sm⟩ name MID) G GC))
 case first => as_aux_lemma =>
  go_wp2_with fail
  go_loopw [84, 16] (fun i sv wr => ∃ (p : Nat) (S : Option Addr) (ns c : Nat) (G GC : Nat -> Nat), p <= nm /\ i = .int .i64 p /\ sv = .slice S ns c /\ ns <= p /\ Hid (SpO w6 wr S ns c (spansL ⟨m, q, ks, hd, tl, ct, sm⟩ name (MID.take p)) G GC)) (fun i _ _ => nm - (intOf i).toNat)
  case atStart => exact ⟨0, none, 0, 0, fun _ => 0, fun _ => 0, Nat.zero_le _, rfl, rfl, Nat.le_refl _, Lib.hid (by rw [HSP0.out]; exact SpO.nil w6 _ _)⟩
  case round =>
   obtain ⟨p, S, ns, c, G, GC, hp, rfl, rfl, hns, HO⟩ := hrel
   rcases Nat.lt_or_ge p nm with hlt | hge
   ·obtain ⟨q1, q2, q3, q4, q5, q6⟩ := HW6.out _ HO.out.2.2.2.2
    obtain ⟨g, hg1, hg2⟩ := HMX.out (by omega)
    have hjr : fr + p < nr := by have := HNM.out; omega
    obtain ⟨xb, xo, hx, hxb, c0, c1⟩ := q3.cells (j := fr + p) (by rw [HNR.out]; exact hjr)
    rw [hg1] at hx
    cases hx
    rw [Nat.zero_add, show (fr + p) * 2 = fr * 2 + p * 2 by omega] at c0 c1
    have HRM := Lib.hid (fun wx h => (HW6.out wx h).2.2.1.each (fr + p) (by rw [HNR.out]; exact hjr))
    have HRKJ := Lib.hid (HRK.out (fr + p) hjr)
    have HST := Lib.hid (show spansL ⟨m, q, ks, hd, tl, ct, sm⟩ name (MID.take (p + 1)) = spanSt ⟨m, q, ks, hd, tl, ct, sm⟩ name (spansL ⟨m, q, ks, hd, tl, ct, sm⟩ name (MID.take p)) (rA rs (fr + p)) by rw [HSPT.out p hlt, HMA.out p hlt])
    subst hg2
    clear hg1
    obtain ⟨r, hr⟩ : ∃ x, rA rs (fr + p) = x := ⟨_, rfl⟩
    obtain ⟨RJ, hRJ⟩ : ∃ x, XRA (fr + p) = x := ⟨_, rfl⟩
    obtain ⟨CJ, hCJ⟩ : ∃ x, XRC (fr + p) = x := ⟨_, rfl⟩
    rw [hr] at c0 HRM HRKJ HST
    rw [hr] at c1
    rw [hRJ, hCJ] at c1 HRM
    clear hr hRJ hCJ
    obtain ⟨rt, vs⟩ := r
    simp only at c0 c1 HRKJ
    obtain ⟨nv, hnv⟩ : ∃ x, vs.length = x := ⟨_, rfl⟩
    have HNV := Lib.hid hnv
    rw [hnv] at c1 HRKJ
    clear hnv q1 q2 q3 q4 q5 q6
    have HR7 := Lib.hid (heap_new wr (.cells #[.string rt, .slice RJ nv CJ] 51) rfl)
    have hb7 : Below wr.heap.size wr (wr.alloc (.cells #[.string rt, .slice RJ nv CJ] 51)) := by go_grown
    have HO7 := Lib.hid (HO.out.below hb7)
    go_upto_region 21 with fail
    obtain ⟨rb, hrb⟩ : ∃ x, wr.heap.size = x := ⟨_, rfl⟩
    rw [hrb] at HR7
    try rw [hrb]
    generalize wr.alloc (.cells #[.string rt, .slice RJ nv CJ] 51) = w7 at HR7 HO7 ⊢
    clear hrb hb7 c0 c1 hxb HO
    obtain ⟨r0, r1, -, -, r2⟩ := box2 HR7.out
    obtain ⟨⟨f0, f1, f2, f3, f4, f5, f6⟩, f7⟩ := obox7 (HW6.out _ HO7.out.2.2.2.2).1
    have HKJ := Lib.hid (fun wx (h : Below w6.heap.size w6 wx) => HKA.out rt wx (HW6.out wx h).2.1)
    have HCOL := Lib.hid (fun wx (h : Below w6.heap.size w6 wx) => (HW6.out wx h).2.2.2.2.2 rt)
    have HUR := Lib.hid (HUN.out ⟨rt, vs⟩)
    have HQR := Lib.hid (HQV.out ⟨rt, vs⟩)
    simp only at HUR HQR
    obtain ⟨K, hK⟩ : ∃ x, katK ⟨m, q, ks, hd, tl, ct, sm⟩ rt = x := ⟨_, rfl⟩
    rw [hK] at HKJ HUR HQR HRKJ HCOL
    generalize katA ⟨m, q, ks, hd, tl, ct, sm⟩ FA rt = KA at HKJ HCOL
    generalize katC ⟨m, q, ks, hd, tl, ct, sm⟩ FC rt = KC at HKJ
    generalize decide (0 <= katI ⟨m, q, ks, hd, tl, ct, sm⟩ rt) = KB at HKJ
    clear hK
    have HCA := Lib.hid (fun w h => colat_c K KA KC name w h)
    have HIX := Lib.hid (ixF_spec (nameIs name) K.fields)
    obtain ⟨kt, fs, km, ku⟩ := K
    unfold kindG at HKJ HCA
    simp only at HKJ HUR HQR HRKJ HCOL HCA HIX
    obtain ⟨nf, hnf⟩ : ∃ x, fs.length = x := ⟨_, rfl⟩
    have HNF := Lib.hid hnf
    rw [hnf] at HKJ HRKJ HCA
    clear hnf
    go_wp2_with fail
    refine (HKJ.out _ HO7.out.2.2.2.2).mono ?_
    rintro _ w8 ⟨rfl, hb8⟩
    have hb89 : Below w7.heap.size w7 (w8.alloc (.cells #[.string kt, .slice KA nf KC, .int .i64 km, .string ku] 46)) := hb8.alloc hb8.size _
    have HR9 := Lib.hid (heap_below HR7.out hb89); have HO9 := Lib.hid (HO7.out.below hb89)
    have HK9 := Lib.hid (heap_new w8 (.cells #[.string kt, .slice KA nf KC, .int .i64 km, .string ku] 46) rfl)
    clear f0 f1 f2 f3 f4 f5 f6 f7 r0 r1 r2 hb8 hb89 HR7 HO7
    go_upto_region 22 with fail
    obtain ⟨k0, hk0⟩ : ∃ x, w8.heap.size = x := ⟨_, rfl⟩
    rw [hk0] at HK9
    try rw [hk0]
    generalize w8.alloc (.cells #[.string kt, .slice KA nf KC, .int .i64 km, .string ku] 46) = w9 at HR9 HO9 HK9 ⊢
    clear hk0
    obtain ⟨⟨y0, y1, y2, y3⟩, -, y4⟩ := obox4 HK9.out
    have e3 := emp_dec ku
    obtain ⟨UE, hUE⟩ : ∃ x, decide (ku = ⟨#[]⟩) = x := ⟨_, rfl⟩
    rw [hUE] at e3 HUR
    clear hUE
    obtain ⟨BB, hBB⟩ : ∃ x, (!UE && decide (0 < ns)) = x := ⟨_, rfl⟩
    have HBB := Lib.hid hBB
    clear hBB
    go_cut [102] (fun v wx => v = .bool BB /\ w9 = wx)
    case first =>
     cases UE with
     | true =>
      have HQ := Lib.hid (show BB = false by rw [<- HBB.out]; rfl)
      go_wp2_with fail
      go_meet
      exact ⟨by rw [HQ.out], rfl⟩
     | false =>
      have HQ := Lib.hid (show BB = decide (0 < ns) by rw [<- HBB.out]; rfl)
      by_cases k2 : 0 < ns
      ·have k3 : decide ((0 : Int) < (ns : Int)) = true := decide_eq_true (by omega)
       have k4 : decide (0 < ns) = true := decide_eq_true k2
       clear k2
       go_wp2_with fail
       go_meet
       exact ⟨by rw [HQ.out, k4], rfl⟩
      ·have k3 : decide ((0 : Int) < (ns : Int)) = false := decide_eq_false (by omega)
       have k4 : decide (0 < ns) = false := decide_eq_false k2
       clear k2
       go_wp2_with fail
       go_meet
       exact ⟨by rw [HQ.out, k4], rfl⟩
    case rest =>
    obtain ⟨rfl, rfl⟩ := hcut
    clear e3
    obtain ⟨SP, hSP⟩ : ∃ x, spansL ⟨m, q, ks, hd, tl, ct, sm⟩ name (MID.take p) = x := ⟨_, rfl⟩
    rw [hSP] at HO9 HST
    have HSLE := Lib.hid (fun j (h : j < SP.length) => show (spA SP j).rows.length <= p by
     have h1 : j < (spansL ⟨m, q, ks, hd, tl, ct, sm⟩ name (MID.take p)).length := by rw [hSP]; exact h
     have h2 := spansL_le h1
     rw [hSP] at h2
     exact Nat.le_trans h2 (List.length_take_le _ _))
    clear hSP
    have hsl := HO9.out.1
    have HSL := Lib.hid hsl
    clear hsl
    have hnsb : ns <= 3518437208883 := by omega
    cases BB with
    | true =>
     have hu : UE = false /\ 0 < ns := by
      have h := HBB.out
      rw [Bool.and_eq_true] at h
      exact ⟨by simpa using h.1, of_decide_eq_true h.2⟩
     obtain ⟨hu1, hu2⟩ := hu
     have HST2 := Lib.hid (show spansL ⟨m, q, ks, hd, tl, ct, sm⟩ name (MID.take (p + 1)) = upSp SP ⟨rt, vs⟩ by rw [HST.out, HSTP.out, if_pos ⟨by rw [HUR.out, hu1]; rfl, by rw [HSL.out]; exact hu2⟩])
     clear hu1 HBB HUR y0 y1 y2 y3 y4 HK9 HCA HIX HQR HCOL
     obtain ⟨l, rfl⟩ : ∃ l, ns = l + 1 := ⟨ns - 1, by omega⟩
     obtain ⟨sg, rfl, hsb, hsl, hsc⟩ := own_rowF HO9.out.2.1 (by omega)
     have c0 := (hsc (l * 2) (by omega)).trans (rowsC_at (k := 2) (f := spanV SP G GC) (j := l) (i := 0) (by omega) (by decide))
     have hfz := (HO9.out.2.1).frozenAt (l * 2)
     simp only [spanV] at c0
     obtain ⟨RA', RC', k1, k2, k3, k4⟩ := HO9.out.2.2.1 l (by omega)
     have HK2 := Lib.hid k2; have HK3 := Lib.hid k3
     obtain ⟨lr, hlr⟩ : ∃ x, (spA SP l).rows = x := ⟨_, rfl⟩
     have HLR := Lib.hid hlr
     rw [hlr] at c0 HK2
     obtain ⟨gl, hgl⟩ : ∃ x, G l = x := ⟨_, rfl⟩
     obtain ⟨cl, hcl⟩ : ∃ x, GC l = x := ⟨_, rfl⟩
     have HGL := Lib.hid hgl; have HCL := Lib.hid hcl
     rw [hgl, hcl] at c0 HK2
     obtain ⟨ln, hln⟩ : ∃ x, lr.length = x := ⟨_, rfl⟩
     have HLN := Lib.hid hln
     rw [hln] at c0 HK2
     clear hsc k1 k2 k3 k4 hlr hgl hcl hln
     have hlb := (own_cap HK2.out)
     obtain ⟨r0, r1, -, -, r2⟩ := box2 HR9.out
     have hlnp : ln <= p := by
      rw [<- HLN.out, <- HLR.out]
      exact HSLE.out l (by rw [HSL.out]; omega)
     obtain ⟨ck, hck, -⟩ := own_obj HO9.out.2.1
     have HCKK := Lib.hid hck
     have HNE := Lib.hid (show some sg ≠ (Value.slice (some ⟨gl, 0, none⟩) ln cl).ownBlock from fun e => by
      obtain ⟨cg, hcg, -⟩ := own_obj HK2.out
      exact heap_ne hcg hck (by decide) (Option.some.inj e).symm)
     have HC0 := Lib.hid c0
     clear hck
     go_upto_region 24 with fail
     go_region_law (first | (refine step_append_lies _ rfl (.tmp 112) (.tmp 114) 25 rfl w6.heap.size 51 i0 (.agg #[.string ⟨#[]⟩, .slice none 0 0]) 2 40 Tryz.underlying25 hi hz0 hz1 hz2 rfl (by decide) (.slice (some ⟨gl, 0, none⟩) ln cl) ln (rowsC 2 ln (rowV lr RA' RC')) rfl (by exact HK2.out.alloc (.cells #[.string rt, .slice RJ nv CJ] 51)) ⟨w9.heap.size, 0, none⟩ 1 1 [.string rt, .slice RJ nv CJ] rfl rfl (by exact k_cellsF w9 [.string rt, .slice RJ nv CJ] 51) (by intro u hu; simp at hu; rcases hu with rfl | rfl <;> rfl) (by decide) (by unfold maxLen; omega) (by omega) (by have := HO9.out.2.2.2.2.size; simp; omega) _ rfl ?_; intro g4 cap w4 hown4 hg4 hat4 hlt4; (have hg4 := grown_alloc (grown_drewF hg4)); (have hK4 := grown_type HK2.out hg4 HCKK.out (by decide)); (have kc4 : w4.cell? ⟨sg, l * 2, none⟩ = some (.slice (some ⟨gl, 0, none⟩) ln cl) := (hg4.cell HC0.out (fun e => HNE.out e))); (have hfz4 : w4.frozen? ⟨sg, l * 2, none⟩ = false := by simp [World.frozen?, hK4])))
     all_goals
      have HMO := Lib.hid (SpO.more (H := w9.heap.size + 1) (r := ⟨rt, vs⟩) (A := RJ) (d := CJ) (c' := cap) (g := g4) (RA := RA') (RC := RC') HO9.out (by omega) (by rw [show l + 1 - 1 = l from rfl, HLR.out, HGL.out, HCL.out, HLN.out]; exact HK2.out) HK3.out (by rw [show l + 1 - 1 = l from rfl, HLR.out, HLN.out]; unfold rwL; simp only; rw [HNV.out]; exact hown4) (by rw [show l + 1 - 1 = l from rfl, HLR.out, HGL.out, HCL.out, HLN.out]; exact hg4) (by rcases hat4 with h | h; exact .inl (by rw [show G (l + 1 - 1) = gl from HGL.out]; exact (Option.some.inj h).symm); exact .inr (by rw [h]; simp)) (by omega) HRM.out)
      have HMO2 := Lib.hid (show SpO w6 (w4.setCell ⟨sg, l * 2, none⟩ (.slice (some ⟨g4, 0, none⟩) (ln + 1) cap)) (some ⟨sg, 0, none⟩) (l + 1) c (spansL ⟨m, q, ks, hd, tl, ct, sm⟩ name (MID.take (p + 1))) (kndN G l g4) (kndN GC l cap) by
       rw [HST2.out]
       have h := HMO.out
       rw [show l + 1 - 1 = l from rfl, HLR.out, HLN.out] at h
       exact h)
      clear HMO hown4 hg4 hat4 hlt4 hK4 kc4 hfz4
      go_wp2
      go_roundw
      case rel => first | exact ⟨p + 1, some ⟨sg, 0, none⟩, l + 1, c, _, _, by omega, by go_num, rfl, by omega, HMO2⟩ | ((repeat apply Exists.intro); exact ⟨⟨p + 1, some ⟨sg, 0, none⟩, l + 1, c, _, _, by omega, by go_num, rfl, by omega, HMO2⟩, rfl⟩)
      case measure => simp [intOf]; omega
    | false =>
     have HST2 := Lib.hid (show spansL ⟨m, q, ks, hd, tl, ct, sm⟩ name (MID.take (p + 1)) = SP ++ [⟨[⟨rt, vs⟩], valQ ⟨m, q, ks, hd, tl, ct, sm⟩ name ⟨rt, vs⟩⟩] by
      rw [HST.out, HSTP.out, if_neg]
      rintro ⟨h1, h2⟩
      rw [HUR.out] at h1
      rw [HSL.out] at h2
      have h := HBB.out
      rw [h1, decide_eq_true h2] at h
      cases h)
     clear HBB HUR y0 y1 y2 y3 y4
     obtain ⟨r0, r1, -, -, r2⟩ := box2 HR9.out
     have hb10 : Below w9.heap.size w9 (w9.alloc (.cells #[.string rt, .slice RJ nv CJ] 51)) := by go_grown
     have HGB0 := Lib.hid (heap_new w9 (.cells #[.string rt, .slice RJ nv CJ] 51) rfl)
     have HGBL0 := Lib.hid HO9.out.2.2.2.2.size
     have HFRE0 := Lib.hid (show ∀ j, j < ns -> G j ≠ w9.heap.size from fun j hj => by have := (HO9.out.2.2.1 j hj).lt; omega)
     obtain ⟨gb, hgb⟩ : ∃ x, w9.heap.size = x := ⟨_, rfl⟩
     have HGBE := Lib.hid hgb
     rw [hgb] at HGB0 HGBL0 HFRE0
     have HGBL := HGBL0; have HFRE := HFRE0
     have hb11 : Below w9.heap.size w9 ((w9.alloc (.cells #[.string rt, .slice RJ nv CJ] 51)).alloc (.cells #[.slice (some ⟨gb, 0, none⟩) 1 1, .string ⟨#[]⟩] 55)) := hb10.alloc hb10.size _
     have HGB11 := Lib.hid (heap_old HGB0.out (.cells #[.slice (some ⟨gb, 0, none⟩) 1 1, .string ⟨#[]⟩] 55))
     have HSB11 := Lib.hid (heap_new (w9.alloc (.cells #[.string rt, .slice RJ nv CJ] 51)) (.cells #[.slice (some ⟨gb, 0, none⟩) 1 1, .string ⟨#[]⟩] 55) (g := gb + 1) (by simp [hgb]))
     have HR11 := Lib.hid (heap_below HR9.out hb11); have HO11 := Lib.hid (HO9.out.below hb11); have HK11 := Lib.hid (heap_below HK9.out hb11)
     have hz11 : ((w9.alloc (.cells #[.string rt, .slice RJ nv CJ] 51)).alloc (.cells #[.slice (some ⟨gb, 0, none⟩) 1 1, .string ⟨#[]⟩] 55)).heap.size = gb + 1 + 1 := by simp [hgb]
     go_upto_region 26 with fail
     try rw [hgb]
     have hs10 : (w9.alloc (.cells #[.string rt, .slice RJ nv CJ] 51)).heap.size = gb + 1 := by simp [hgb]
     try rw [hs10]
     have HB911 := Lib.hid hb11
     have HO9K := HO9
     clear hb10 hb11 hs10 r0 r1 r2 HGB0 HFRE0 HGBL0 HR9 HO9 HK9 hgb
     generalize (w9.alloc (.cells #[.string rt, .slice RJ nv CJ] 51)).alloc (.cells #[.slice (some ⟨gb, 0, none⟩) 1 1, .string ⟨#[]⟩] 55) = w11 at HGB11 HSB11 HR11 HO11 HK11 HB911 hz11 ⊢
     obtain ⟨⟨y0, y1, y2, y3⟩, -, y4⟩ := obox4 HK11.out
     go_wp2_with fail
     refine (HCA.out _ (HCOL.out _ HO11.out.2.2.2.2)).mono ?_
     rintro _ w12 ⟨rfl, hb12⟩
     have HGB := Lib.hid (heap_below HGB11.out hb12); have HSB := Lib.hid (heap_below HSB11.out hb12); have HR12 := Lib.hid (heap_below HR11.out hb12); have HO12 := Lib.hid (HO11.out.below hb12)
     have HB912 := Lib.hid (below_then hb12 HB911.out HB911.out.size)
     clear y0 y1 y2 y3 y4 hb12 hz11 HGB11 HSB11 HR11 HO11 HK11
     obtain ⟨r0, r1, -, -, r2⟩ := box2 HR12.out
     obtain ⟨b0, b1, b2, b3, b4⟩ := box2 HSB.out
     rcases HIX.out with ⟨h1, -⟩ | ⟨ic, hi', h1, -, -⟩
     ·have HVQ := Lib.hid (show valQ ⟨m, q, ks, hd, tl, ct, sm⟩ name ⟨rt, vs⟩ = ⟨#[]⟩ by rw [HQR.out, h1]; rfl)
      rw [h1]
      rw [HVQ.out] at HST2
      clear h1
      go_upto_region 30 with (at_builtin; refine wpList_zpush rfl _ _ 52 rfl w6.heap.size 55 s0 (.agg #[.slice none 0 0, .string ⟨#[]⟩]) 2 40 Tryz.underlying52 hs0 ht0 ht1 ht2 rfl (by decide) (.slice S ns c) ns (rowsC 2 ns (spanV SP G GC)) rfl HO12.out.2.1 [.slice (some ⟨gb, 0, none⟩) 1 1, .string ⟨#[]⟩] rfl rfl (by intro u hu; simp at hu; rcases hu with rfl | rfl <;> rfl) (by unfold maxLen; omega) (by omega) HO12.out.2.2.2.2.size ?_; intro S9 c9 w13 hown9 hg9)
      have HO13 := Lib.hid (show SpO w6 w13 S9 (ns + 1) c9 (SP ++ [⟨[⟨rt, vs⟩], ⟨#[]⟩⟩]) (kndN G ns gb) (kndN GC ns 1) from SpO.new HO12.out hown9 hg9 (by simp only; rw [HNV.out]; exact HGB.out) HGBL.out HFRE.out HRM.out)
      have HO14 := Lib.hid (show SpO w6 w13 S9 (ns + 1) c9 (spansL ⟨m, q, ks, hd, tl, ct, sm⟩ name (MID.take (p + 1))) (kndN G ns gb) (kndN GC ns 1) by rw [HST2.out]; exact HO13.out)
      clear hown9 hg9 HO13
      go_wp2
      go_roundw
      case rel => first | exact ⟨p + 1, S9, ns + 1, c9, _, _, by omega, by go_num, rfl, by omega, HO14⟩ | ((repeat apply Exists.intro); exact ⟨⟨p + 1, S9, ns + 1, c9, _, _, by omega, by go_num, rfl, by omega, HO14⟩, rfl⟩)
      case measure => simp [intOf]; omega
     ·have HVQ := Lib.hid (show valQ ⟨m, q, ks, hd, tl, ct, sm⟩ name ⟨rt, vs⟩ = wd vs ic by rw [HQR.out, h1, if_neg (by omega), Int.toNat_natCast])
      have hicn : ic < nv := by rw [HRKJ.out, <- HNF.out]; exact hi'
      obtain ⟨vb, vo, rfl, hvb, hcs⟩ := (HRM.out _ HO12.out.2.2.2.2).vals.cells (by show 0 < vs.length; rw [HNV.out]; omega)
      have s1 := hcs ic (by show ic < vs.length; rw [HNV.out]; exact hicn)
      have hlen := (HRM.out _ HO12.out.2.2.2.2).len
      simp only at s1 hlen
      rw [HNV.out] at hlen
      obtain ⟨sv, hsv⟩ : ∃ x, wd vs ic = x := ⟨_, rfl⟩
      rw [hsv] at s1 HVQ
      rw [HVQ.out] at HST2
      rw [h1]
      have hdec : decide ((0 : Int) <= (ic : Int)) = true := decide_eq_true (by omega)
      clear h1 hi' hcs hsv
      go_upto_region 29 with fail
      have HGB' := Lib.hid (show (w12.setCell ⟨gb + 1, 1, none⟩ (.string sv)).heap[gb]? = _ from heap_far HGB.out (p := ⟨gb + 1, 1, none⟩) (by show gb ≠ gb + 1; omega) _)
      have HSB' := Lib.hid (show (w12.setCell ⟨gb + 1, 1, none⟩ (.string sv)).heap[gb + 1]? = some (.cells #[.slice (some ⟨gb, 0, none⟩) 1 1, .string sv] 55 (0, 0)) from heap_set HSB.out 1 _)
      have HO12' := Lib.hid (HO9K.out.below (HB912.out.setCell (p := ⟨gb + 1, 1, none⟩) (by show w9.heap.size <= gb + 1; rw [HGBE.out]; omega) (.string sv)))
      clear HGB HSB HO12 HB912 HO9K b0 b1 b2 b3 b4 r0 r1 r2 s1 hvb HR12
      generalize w12.setCell ⟨gb + 1, 1, none⟩ (.string sv) = w12' at HGB' HSB' HO12' ⊢
      have HGB := HGB'; have HO12 := HO12'
      obtain ⟨b0, b1, b2, b3, b4⟩ := box2 HSB'.out
      go_upto_region 30 with (at_builtin; refine wpList_zpush rfl _ _ 52 rfl w6.heap.size 55 s0 (.agg #[.slice none 0 0, .string ⟨#[]⟩]) 2 40 Tryz.underlying52 hs0 ht0 ht1 ht2 rfl (by decide) (.slice S ns c) ns (rowsC 2 ns (spanV SP G GC)) rfl HO12.out.2.1 [.slice (some ⟨gb, 0, none⟩) 1 1, .string sv] rfl rfl (by intro u hu; simp at hu; rcases hu with rfl | rfl <;> rfl) (by unfold maxLen; omega) (by omega) HO12.out.2.2.2.2.size ?_; intro S9 c9 w13 hown9 hg9)
      have HO13 := Lib.hid (show SpO w6 w13 S9 (ns + 1) c9 (SP ++ [⟨[⟨rt, vs⟩], sv⟩]) (kndN G ns gb) (kndN GC ns 1) from SpO.new HO12.out hown9 hg9 (by simp only; rw [HNV.out]; exact HGB.out) HGBL.out HFRE.out HRM.out)
      have HO14 := Lib.hid (show SpO w6 w13 S9 (ns + 1) c9 (spansL ⟨m, q, ks, hd, tl, ct, sm⟩ name (MID.take (p + 1))) (kndN G ns gb) (kndN GC ns 1) by rw [HST2.out]; exact HO13.out)
      clear hown9 hg9 HO13
      go_wp2
      go_roundw
      case rel => first | exact ⟨p + 1, S9, ns + 1, c9, _, _, by omega, by go_num, rfl, by omega, HO14⟩ | ((repeat apply Exists.intro); exact ⟨⟨p + 1, S9, ns + 1, c9, _, _, by omega, by go_num, rfl, by omega, HO14⟩, rfl⟩)
      case measure => simp [intOf]; omega
   ·obtain rfl : p = nm := by omega
    have HO9 := Lib.hid (show SpO w6 wr S ns c (spansL ⟨m, q, ks, hd, tl, ct, sm⟩ name MID) G GC by rw [<- HSPE.out]; exact HO.out)
    have HNS := Lib.hid hns
    go_wp2_with fail
    go_meet
    exact ⟨S, c, ns, G, GC, rfl, HNS, HO9⟩
 case rest =>
 obtain ⟨S, c, ns, G, GC, rfl, HNS, HO⟩ := hcut
 have HSVZ0 := Lib.hid (show ∀ j, j < (spansL ⟨m, q, ks, hd, tl, ct, sm⟩ name MID).length -> (spV (spansL ⟨m, q, ks, hd, tl, ct, sm⟩ name MID) j).size <= 9223372036854775807 from fun j hj => by
  obtain ⟨r, hr, e⟩ := spansL_val hj
  obtain ⟨k, hk, rfl⟩ := List.getElem_of_mem hr
  have hk2 : k < nm := by rw [<- HML.out]; exact hk
  unfold spV
  rw [e]
  refine valQ_size fun s hs => ?_
  rw [rA_get hk, HMA.out k hk2] at hs
  exact ((HW6.out _ (Below.refl _ _)).2.2.1.each (fr + k) (by rw [HNR.out]; have := HNM.out; omega)).size s hs)
 have HSFL0 := Lib.hid (spansL_flat ⟨m, q, ks, hd, tl, ct, sm⟩ name MID)
 obtain ⟨SP, hSP⟩ : ∃ x, spansL ⟨m, q, ks, hd, tl, ct, sm⟩ name MID = x := ⟨_, rfl⟩
 rw [hSP] at HO HDL2 HSVZ0 HSFL0
 have HSL := Lib.hid HO.out.1
 have HSVZ := Lib.hid (show ∀ j, j < ns -> (spV SP j).size <= 9223372036854775807 from fun j hj => HSVZ0.out j (by rw [HSL.out]; exact hj))
 have HSML := Lib.hid (show (sortM sb SP).length = nm by rw [(sortM_perm sb SP).length_eq, HSFL0.out, HML.out])
 have HSMD := Lib.hid (show sortM sb SP = (ordI (rankV sb (spV SP) ns) ns).flatMap fun j => (spA SP j).rows by unfold sortM; rw [HSL.out])
 clear hSP HSVZ0 HSFL0 HSPT HSPL HSPE HSP0 HSTP HQV HUN HMA HRK HROK HKA
 have hns3 : ns <= 1000000000000000000 := by have h1 := HNS.out; have h2 := HNM.out; omega
 generalize wc = w7 at HO ⊢
 go_upto_region 31 with fail
 go_cut [] (fun wx => ∃ g : Nat -> Nat, Hid (∀ j, j < ns -> ∃ sg, S = some ⟨sg, 0, none⟩ /\ sg < wx.heap.size /\ wx.cell? ⟨sg, j * 2, none⟩ = some (.slice (some ⟨G (g j), 0, none⟩) (spA SP (g j)).rows.length (GC (g j))) /\ wx.cell? ⟨sg, j * 2 + 1, none⟩ = some (.string (spV SP (g j)))) /\ Hid (∀ j, j < ns -> g j < ns) /\ Hid (ordI (rankV sb (spV SP) ns) ns = (List.range ns).map g) /\ Hid (∀ j, j < ns -> RwsI w6 wx (some ⟨G j, 0, none⟩) (spA SP j).rows.length (GC j) (spA SP j).rows) /\ Hid (Below w6.heap.size w6 wx))
 case first => as_aux_lemma =>
  rcases HO.out.2.1.2 with ⟨hv, hn0⟩ | ⟨sg, cap, cur, hv, hb, hh, -⟩
  ·cases hv
   go_wp2_with fail
   refine (spnil_c _ _ _).mono ?_
   rintro _ w8 ⟨rfl, rfl⟩
   go_wp2_with fail
   go_meet
   exact ⟨id, Lib.hid (fun j h => absurd h (Nat.not_lt_zero _)), Lib.hid (fun j h => absurd h (Nat.not_lt_zero _)), Lib.hid (by simp [ordI]), Lib.hid (fun j h => absurd h (Nat.not_lt_zero _)), Lib.hid HO.out.2.2.2.2⟩
  ·cases hv
   obtain ⟨F, hF⟩ : ∃ F : Fam, F = ⟨ns, sg, 0, w7, sb, nb, spV SP, fun j => some ⟨G j, 0, none⟩, fun j => (spA SP j).rows.length, GC⟩ := ⟨_, rfl⟩
   have HG : Hid F.Good := Lib.hid (by
    subst hF
    exact ⟨HSVZ.out, hns3, (HW6.out _ HO.out.2.2.2.2).2.2.2.2.1, ⟨cur, hh⟩⟩)
   have HR : Hid (F.Row id w7) := Lib.hid (by
    subst hF
    refine ⟨fun j hj c' v hv => ?_, ⟨cur, hh⟩, rfl, rfl, rfl, Nat.le_refl _, fun k _ _ => rfl, id, fun x hx => ⟨hx, hx, rfl, rfl⟩⟩
    have hc' : c' < 2 := (List.getElem?_eq_some_iff.1 hv).1
    have hj : j < ns := hj
    have hce := (HO.out.2.1.cellAt (j * 2 + c') (by omega)).trans (rowsC_at (k := 2) (f := spanV SP G GC) (j := j) (i := c') hj hc')
    show w7.cell? ⟨sg, 0 + j * 2 + c', none⟩ = _
    rw [Nat.zero_add, hce, <- hv]
    rcases (show c' = 0 ∨ c' = 1 by omega) with rfl | rfl <;> rfl)
   have HSO := Lib.hid (show Calls Tryz.prog 18 #[.slice (some ⟨sg, 0, none⟩) ns c, (.func (.func 19) #[] #[.pointer (some ⟨nb, 0, none⟩)])] w7 fun e w' => e = .returned (.tuple #[]) /\ ∃ g, F.Row g w' /\ Stab.Srt F.r g 0 F.n by
    have h := sort_c F HG.out HR.out c (fun x _ => rfl)
    subst hF
    exact h)
   have HFF := Lib.hid hF
   clear hF
   go_wp2_with fail
   refine HSO.out.mono ?_
   rintro _ w8 ⟨rfl, g, R8, hS⟩
   have HR8 := Lib.hid R8; have HS8 := Lib.hid hS
   clear R8 hS HSO
   go_wp2_with fail
   go_meet
   have hF := HFF.out
   have R8 := HR8.out
   have hS := HS8.out
   subst hF
   have hBW : Below w6.heap.size w6 w8 := ⟨R8.os.trans HO.out.2.2.2.2.os, R8.tape.trans HO.out.2.2.2.2.tape, R8.output.trans HO.out.2.2.2.2.output, Nat.le_trans HO.out.2.2.2.2.size R8.size, fun k hk => (R8.other k (Nat.lt_of_lt_of_le hk HO.out.2.2.2.2.size) (by show k ≠ sg; omega)).trans (HO.out.2.2.2.2.block k hk)⟩
   refine ⟨g, Lib.hid (fun j hj => ?_), Lib.hid (fun j hj => ?_), Lib.hid (ordI_of R8.bij hS), Lib.hid (fun j hj => ?_), Lib.hid hBW⟩
   ·have h2 := R8.two (j := j) hj
    refine ⟨sg, rfl, R8.lt, ?_, ?_⟩
    ·have h3 := h2.1
     show w8.cell? ⟨sg, j * 2, none⟩ = _
     rw [show j * 2 = 0 + j * 2 by omega]
     exact h3
    ·have h3 := h2.2
     show w8.cell? ⟨sg, j * 2 + 1, none⟩ = _
     rw [show j * 2 + 1 = 0 + j * 2 + 1 by omega]
     exact h3
   ·obtain ⟨k, hk⟩ := R8.bij
    exact (hk j hj).1
   ·have hrj := HO.out.2.2.1 j hj
    refine hrj.keepG ((R8.other _ hrj.lt (by
     obtain ⟨RA', RC', k1, k2, k3, k4⟩ := hrj
     obtain ⟨cg, hcg, -⟩ := own_obj k2
     exact heap_ne hcg hh (by decide))).symm) hBW
 case rest =>
 obtain ⟨g, HCE, HGN, HORD, HRW, HB8⟩ := hcut
 generalize wc = w8 at HCE HRW HB8 ⊢
 have hkM : nr * 40 <= 140737488355328 := hbz
 have HW8 := Lib.hid (show ∀ wx, Below w8.heap.size w8 wx -> RowsM wx XA rs XRA XRC /\ Below w.heap.size w wx from fun wx h => by
  have h2 := below_then h HB8.out HB8.out.size
  exact ⟨(HW6.out wx h2).2.2.1, (HW6.out wx h2).2.2.2.1⟩)
 have HRS := Lib.hid (show ∀ j, j < ns -> ∃ RB RD, (spA SP j).rows.length = (spA SP j).rows.length /\ ∀ wx, Below w8.heap.size w8 wx -> RowsM wx (some ⟨G j, 0, none⟩) (spA SP j).rows RB RD from fun j hj => (HRW.out j hj).srcs)
 have HHL : Hid ((rs.take fr).length = fr) := Lib.hid (by rw [List.length_take, HNR.out]; omega)
 have HTL : Hid ((rs.drop tn).length = nr - tn) := Lib.hid (by rw [List.length_drop, HNR.out])
 obtain ⟨M, hM⟩ : ∃ M : Nat -> List RowP, (fun j => rs.take fr ++ (((List.range ns).map g).take j).flatMap fun j => (spA SP j).rows) = M := ⟨_, rfl⟩
 have HM0 := Lib.hid (show rs.take fr = M 0 by rw [<- hM]; simp)
 have HMS := Lib.hid (show ∀ j, j < ns -> M (j + 1) = M j ++ (spA SP (g j)).rows from fun j hj => by
  rw [<- hM]
  simp only
  rw [List.take_add_one, List.getElem?_map, List.getElem?_range hj, List.flatMap_append, List.append_assoc]
  simp)
 have HMLE := Lib.hid (show ∀ j, (M j).length <= nr from fun j => by
  rw [<- hM]
  simp only
  rw [List.length_append, HHL.out]
  have h1 := take_flat_le (fun j => (spA SP j).rows) ((List.range ns).map g) j
  rw [<- HORD.out, <- HSMD.out, HSML.out, HORD.out] at h1
  have h2 := HNM.out
  omega)
 have HMN := Lib.hid (show M ns ++ rs.drop tn = DL by
  rw [<- hM, HDL2.out, HSMD.out, HORD.out]
  simp only
  rw [List.take_of_length_le (l := (List.range ns).map g) (by simp)])
 have HMNL := Lib.hid (show (M ns).length = tn by
  rw [<- hM]
  simp only
  rw [List.take_of_length_le (l := (List.range ns).map g) (by simp), <- HORD.out, <- HSMD.out, List.length_append, HHL.out, HSML.out]
  exact HNM.out)
 clear hM HORD HSMD HSML HDL2 HW6 HRW HO HSL HSVZ hs0 ht0 ht1 ht2 HMX HML HNS
 go_upto_region 32 with fail
 go_cut [24] (fun v wx => ∃ (X : Option Addr) (d : Nat), v = .slice X fr d /\ Hid (RwsI w8 wx X fr d (M 0)))
 case first => as_aux_lemma =>
  have HCQ : Hid (Calls Tryz.prog 21 #[.slice XA fr xc] w8 (RetCR (rs.take fr) XRA XRC w8)) := Lib.hid (by
   have h := cloneR_c (rs.take fr) XRA XRC XA xc w8 ((HW8.out _ (Below.refl _ _)).1.take fr).rows (by rw [HHL.out]; omega)
   rw [HHL.out] at h
   exact h)
  have HFIN : Hid (∀ (X : Option Addr) (d : Nat) (w9 : World), w9.ownsRow w8.heap.size 51 2 (.slice X fr d) fr (rowsC 2 fr (rowV (rs.take fr) XRA XRC)) -> Below w8.heap.size w8 w9 -> RwsI w8 w9 X fr d (M 0)) := Lib.hid (fun X d w9 h1 h2 => by
   rw [<- HM0.out]
   exact ⟨XRA, XRC, HHL.out, h1, fun j hj wx hx => ((HW8.out wx hx).1.take fr).each j hj, h2⟩)
  unfold RetCR at HCQ
  rw [HHL.out] at HCQ
  rcases HXA.out with ⟨rfl, hn0, hc0⟩ | ⟨g0, rfl⟩
  ·subst hc0
   have hf0 : fr = 0 := by omega
   subst hf0 hn0
   go_wp2_with fail
   refine HCQ.out.mono ?_
   rintro _ w9 ⟨X, d, rfl, ho, hb⟩
   have HFI := Lib.hid (HFIN.out X d w9 ho hb)
   clear ho hb
   go_wp2_with fail
   go_meet
   exact ⟨X, d, rfl, HFI⟩
  ·have hfc : (fr : Int) <= (xc : Int) := by omega
   go_wp2_with fail
   refine HCQ.out.mono ?_
   rintro _ w9 ⟨X, d, rfl, ho, hb⟩
   have HFI := Lib.hid (HFIN.out X d w9 ho hb)
   clear ho hb
   go_wp2_with fail
   go_meet
   exact ⟨X, d, rfl, HFI⟩
 case rest =>
 obtain ⟨X, d, rfl, HX0⟩ := hcut
 generalize wc = w9 at HX0 ⊢
 clear HHL HM0
 go_wp2_with fail
 go_loopw [146, 24] (fun i v wr => ∃ (j k : Nat) (X : Option Addr) (d : Nat), j <= ns /\ i = .int .i64 j /\ v = .slice X k d /\ Hid (RwsI w8 wr X k d (M j))) (fun i _ _ => ns - (intOf i).toNat)
 case atStart => exact ⟨0, fr, X, d, Nat.zero_le _, rfl, rfl, HX0⟩
 case round =>
  obtain ⟨j, k, X, d, hj, rfl, rfl, HO⟩ := hrel
  rcases Nat.lt_or_ge j ns with hlt | hge
  ·obtain ⟨sg, hS, hsg, cA, cB⟩ := HCE.out j hlt
   subst hS
   have hkb := (bcell HO.out.bel).1
   rw [<- hkb _ _ hsg] at cA cB
   have hsg2 : sg < wr.heap.size := Nat.lt_of_lt_of_le hsg HO.out.bel.size
   obtain ⟨RB, RD, -, hsr⟩ := HRS.out (g j) (HGN.out j hlt)
   have HSR := Lib.hid hsr
   have HMJ := Lib.hid (HMS.out j hlt)
   have HMZ := Lib.hid (HMLE.out (j + 1))
   clear hkb hsr
   obtain ⟨XR, hXR⟩ : ∃ x, (spA SP (g j)).rows = x := ⟨_, rfl⟩
   rw [hXR] at cA HSR HMJ
   obtain ⟨SV, hSV⟩ : ∃ x, spV SP (g j) = x := ⟨_, rfl⟩
   rw [hSV] at cB
   obtain ⟨gj, hgj⟩ : ∃ x, G (g j) = x := ⟨_, rfl⟩
   rw [hgj] at cA HSR
   obtain ⟨cj, hcj⟩ : ∃ x, GC (g j) = x := ⟨_, rfl⟩
   rw [hcj] at cA
   obtain ⟨m2, hm2⟩ : ∃ x, XR.length = x := ⟨_, rfl⟩
   have HM2 := Lib.hid hm2
   rw [hm2] at cA
   have hMk : Hid ((M j).length = k) := Lib.hid HO.out.len
   have hkm : k + m2 <= nr := by
    have h1 := HMZ.out
    rw [HMJ.out, List.length_append, hMk.out, hm2] at h1
    exact h1
   clear hXR hSV hgj hcj hm2
   have HN10 := Lib.hid (heap_new wr (.cells #[.slice (some ⟨gj, 0, none⟩) m2 cj, .string SV] 55) rfl)
   have hb10 : Below wr.heap.size wr (wr.alloc (.cells #[.slice (some ⟨gj, 0, none⟩) m2 cj, .string SV] 55)) := by go_grown
   have HO10 := Lib.hid (HO.out.below hb10)
   go_upto_region 36 with fail
   obtain ⟨rb, hrb⟩ : ∃ x, wr.heap.size = x := ⟨_, rfl⟩
   rw [hrb] at HN10
   try rw [hrb]
   generalize wr.alloc (.cells #[.slice (some ⟨gj, 0, none⟩) m2 cj, .string SV] 55) = w10 at HN10 HO10 ⊢
   clear hrb hb10 cA cB hsg hsg2 HO
   obtain ⟨r0, r1, -, -, r2⟩ := box2 HN10.out
   obtain ⟨RA', RC', h1, h2, h3, h4⟩ := HO10.out
   have hM10 := HSR.out _ h4
   go_upto_region 37 with (at_builtin; refine wpList_zapp rfl _ _ 25 rfl w8.heap.size 51 i0 (.agg #[.string ⟨#[]⟩, .slice none 0 0]) 2 40 Tryz.underlying25 hi hz0 hz1 hz2 rfl (by decide) X k d (rowsC 2 k (rowV (M j) RA' RC')) rfl h2 (some ⟨gj, 0, none⟩) m2 cj (rowsC 2 m2 (rowV XR RB RD)) (rowsC_len _ _ _) rfl (by have h5 := rws_src hM10.rows; rw [HM2.out] at h5; exact h5) (rowsV_one _ _ _ _) (by unfold maxLen; omega) (by omega) h4.size ?_; intro X9 d9 w11 hown9 hg9)
   have HO11 := Lib.hid (show RwsI w8 w11 X9 (k + m2) d9 (M (j + 1)) from by
    rw [HMJ.out]
    exact RwsI.app hMk.out h2 h3 h4 HM2.out (fun j hj wx hx => (HSR.out wx hx).each j hj) hown9 hg9)
   clear hown9 hg9 h1 h2 h3 h4 hM10 r0 r1 r2
   go_wp2
   go_roundw
   case rel => first | exact ⟨j + 1, k + m2, X9, d9, by omega, by go_num, rfl, HO11⟩ | ((repeat apply Exists.intro); exact ⟨⟨j + 1, k + m2, X9, d9, by omega, by go_num, rfl, HO11⟩, rfl⟩)
   case measure => simp [intOf]; omega
  ·obtain rfl : j = ns := by omega
   have hkt : k = tn := by rw [<- HO.out.len, HMNL.out]
   subst hkt
   have HRT := Lib.hid (show ∀ (Y : Option Addr) (e : Nat) (w12 : World), RwsI w8 w12 Y (k + (nr - k)) e DL -> RetSo DL R w (.returned (.tuple #[.slice Y (k + (nr - k)) e, .int .i64 0])) w12 from fun Y e w12 h => by
    have hl := h.len
    have hcp2 := own_cap (show w12.ownsRow w8.heap.size 51 2 (.slice Y (k + (nr - k)) e) _ _ from h.choose_spec.choose_spec.2.1)
    obtain ⟨RA9, RC9, h9⟩ := h.rowsM
    refine ⟨Y, e, RA9, RC9, ?_, h9, ?_, (HW8.out _ h.bel).2⟩
    ·rw [hl, HE.out]
    ·rw [hl]; unfold maxLen at hcp2; exact hcp2)
   obtain ⟨RA', RC', h1, h2, h3, h4⟩ := HO.out
   have hM10 := (HW8.out _ h4).1
   have hMk := Lib.hid h1
   have HEN := Lib.hid (show ∀ (Z : Option Addr), (k < rs.length -> ∀ b off, XA = some ⟨b, off, none⟩ -> Z = some ⟨b, off + k * 2, none⟩) -> ∀ X9 d9 w12, w12.ownsRow w8.heap.size 51 2 (.slice X9 (k + (nr - k)) d9) (k + (nr - k)) (rowsC 2 k (rowV (M j) RA' RC') ++ rowsC 2 (nr - k) (rowV (rs.drop k) (fun j => XRA (k + j)) (fun j => XRC (k + j)))) -> wr.grownBy w12 (Value.slice X k d).ownBlock -> RwsI w8 w12 X9 (k + (nr - k)) d9 DL from fun Z hZ X9 d9 w12 ho hg => by
    rw [<- HMN.out]
    exact RwsI.app h1 h2 h3 h4 HTL.out (fun j hj wx hx => ((HW8.out wx hx).1.dropAt k hZ).each j hj) ho hg)
   go_upto_region 38 with fail
   go_cut [6, 7] (fun v e wx => ∃ (Y : Option Addr) (q : Nat), v = .slice Y (k + (nr - k)) q /\ e = .int .i64 0 /\ Hid (RwsI w8 wx Y (k + (nr - k)) q DL))
   case first => as_aux_lemma =>
    clear HRT HCE HRS HMS HMLE HGN
    rcases HXA.out with ⟨rfl, hn0, hc0⟩ | ⟨g0, rfl⟩
    · have hq1 : (xc = k) = True := by rw [show xc = k by omega]; simp
      have hq2 : ((xc : Int) = (k : Int)) = True := by rw [show xc = k by omega]; simp
      have hck : (k : Int) <= (nr : Int) := by omega
      have hnc : (nr : Int) <= (xc : Int) := by omega
      have HNK := Lib.hid (show nr <= k by omega)
      clear hn0 hc0
      go_wp2_with (at_builtin; refine wpList_zapp rfl _ _ 25 rfl w8.heap.size 51 i0 (.agg #[.string ⟨#[]⟩, .slice none 0 0]) 2 40 Tryz.underlying25 hi hz0 hz1 hz2 rfl (by decide) X k d (rowsC 2 k (rowV (M j) RA' RC')) rfl h2 none (nr - k) _ (rowsC 2 (nr - k) (rowV (rs.drop k) (fun j => XRA (k + j)) (fun j => XRC (k + j)))) (rowsC_len _ _ _) rfl (fun h => absurd h (by have := HNK.out; omega)) (rowsV_one _ _ _ _) (by unfold maxLen; omega) (by omega) h4.size ?_; intro X9 d9 w12 hown9 hg9; have HF := Lib.hid (HEN.out none (fun _ b off h => by cases h) X9 d9 w12 hown9 hg9); clear hown9 hg9)
      go_meet
      exact ⟨X9, d9, by first | rfl | rw [show k + (nr - k) = nr by omega], rfl, HF⟩
    · have hck : (k : Int) <= (nr : Int) := by omega
      have hnc : (nr : Int) <= (xc : Int) := by omega
      have HZ := Lib.hid (show k < rs.length -> ∀ b off, (some ⟨g0, 0, none⟩ : Option Addr) = some ⟨b, off, none⟩ -> (some ⟨g0, k * 2, none⟩ : Option Addr) = some ⟨b, off + k * 2, none⟩ from fun _ b off h => by
        cases h
        rw [Nat.zero_add])
      by_cases hcf : xc = k
      · have hq1 : (xc = k) = True := by rw [hcf]; simp
        have hq2 : ((xc : Int) = (k : Int)) = True := by rw [hcf]; simp
        have HNK := Lib.hid (show nr <= k by omega)
        clear hcf
        go_wp2_with (at_builtin; refine wpList_zapp rfl _ _ 25 rfl w8.heap.size 51 i0 (.agg #[.string ⟨#[]⟩, .slice none 0 0]) 2 40 Tryz.underlying25 hi hz0 hz1 hz2 rfl (by decide) X k d (rowsC 2 k (rowV (M j) RA' RC')) rfl h2 _ (nr - k) _ (rowsC 2 (nr - k) (rowV (rs.drop k) (fun j => XRA (k + j)) (fun j => XRC (k + j)))) (rowsC_len _ _ _) rfl (fun h => absurd h (by have := HNK.out; omega)) (rowsV_one _ _ _ _) (by unfold maxLen; omega) (by omega) h4.size ?_; intro X9 d9 w12 hown9 hg9; have HF := Lib.hid (HEN.out _ HZ.out X9 d9 w12 hown9 hg9); clear hown9 hg9)
        go_meet
        exact ⟨X9, d9, by first | rfl | rw [show k + (nr - k) = nr by omega], rfl, HF⟩
      · have hcf2 : ¬ (xc : Int) = (k : Int) := by omega
        have HSC : Hid (0 < nr - k -> ∃ b off, (some ⟨g0, k * 2, none⟩ : Option Addr) = some ⟨b, off, none⟩ /\ ∀ j u, (rowsC 2 (nr - k) (rowV (rs.drop k) (fun j => XRA (k + j)) (fun j => XRC (k + j))))[j]? = some u -> wr.cell? ⟨b, off + j, none⟩ = some u) := Lib.hid (by have h5 := rws_src (hM10.dropAt k HZ.out).rows; rw [HTL.out] at h5; exact h5)
        clear hM10
        go_wp2_with (at_builtin; refine wpList_zapp rfl _ _ 25 rfl w8.heap.size 51 i0 (.agg #[.string ⟨#[]⟩, .slice none 0 0]) 2 40 Tryz.underlying25 hi hz0 hz1 hz2 rfl (by decide) X k d (rowsC 2 k (rowV (M j) RA' RC')) rfl h2 (some ⟨g0, k * 2, none⟩) (nr - k) _ (rowsC 2 (nr - k) (rowV (rs.drop k) (fun j => XRA (k + j)) (fun j => XRC (k + j)))) (rowsC_len _ _ _) rfl HSC.out (rowsV_one _ _ _ _) (by unfold maxLen; omega) (by omega) h4.size ?_; intro X9 d9 w12 hown9 hg9; have HF := Lib.hid (HEN.out _ HZ.out X9 d9 w12 hown9 hg9); clear hown9 hg9)
        go_meet
        exact ⟨X9, d9, by first | rfl | rw [show k + (nr - k) = nr by omega], rfl, HF⟩
   case rest =>
   obtain ⟨Y, q, rfl, rfl, HF⟩ := hcut
   go_wp2_with fail
   go_ret2
   exact HRT.out _ _ _ HF.out
end Go.Proofs.YtbnjejenejoibaaGreatDoor
