/- The reference's turned. (Printed by genB2.py.) Words for a region that makes two boxes among its calls. The walk of the reference's Turned. -/
import Derived.Test.YtaiabjiehpcaoaaGreatDoorB1
import Derived.Test.YtaiabjiehpcaoaaGreatDoorC6
import Derived.Test.YtaiabjiehpcaoaaGreatDoorU1
import Derived.Test.YtaiabjiehpcaoaaGreatDoorZA
import Derived.Test.YtaiabjiehpcaoaaGreatDoorG5
-- merged: B2 RX B3
namespace Go.Proofs.YtaiabjiehpcaoaaGreatDoor
open Go.RowKit Limb Nmb Work
set_option linter.unusedVariables false
set_option linter.unusedSimpArgs false
def rturnV (k o : RKd) (vs : List ByteArray) : Nat -> List ByteArray
 | 0 => List.replicate o.fields.length ⟨#[]⟩
 | i + 1 => if ixF (nameIs (cA k.fields i).name) o.fields < 0 then rturnV k o vs i else (rturnV k o vs i).set (ixF (nameIs (cA k.fields i).name) o.fields).toNat (wd vs i)
theorem rturn_len (k o : RKd) (vs : List ByteArray) : ∀ i, (rturnV k o vs i).length = o.fields.length
 | 0 => by unfold rturnV; rw [List.length_replicate]
 | i + 1 => by
  unfold rturnV
  split
  ·exact rturn_len k o vs i
  ·rw [List.length_set, rturn_len k o vs i]
theorem rturn_get {k o : RKd} (hk : ∀ j j', j < k.fields.length -> j' < j -> (cA k.fields j').name ≠ (cA k.fields j).name) (ho : ∀ j j', j < o.fields.length -> j' < j -> (cA o.fields j').name ≠ (cA o.fields j).name) (vs : List ByteArray) :
  ∀ i, i <= k.fields.length -> ∀ j, j < o.fields.length -> (rturnV k o vs i)[j]? = some (if 0 <= ixF (nameIs (cA o.fields j).name) k.fields /\ ixF (nameIs (cA o.fields j).name) k.fields < (i : Int) then wd vs (ixF (nameIs (cA o.fields j).name) k.fields).toNat else ⟨#[]⟩) := by
 intro i
 induction i with
 | zero =>
  intro _ j hj
  unfold rturnV
  rw [if_neg (by omega), List.getElem?_replicate, if_pos hj]
 | succ i ih =>
  intro hi j hj
  have hI := ih (by omega) j hj
  have key : ixF (nameIs (cA o.fields j).name) k.fields = (i : Int) -> (cA k.fields i).name = (cA o.fields j).name := fun h => by
   rcases ixF_spec (nameIs (cA o.fields j).name) k.fields with ⟨h1, -⟩ | ⟨x, hx, h1, h2, -⟩
   ·omega
   ·obtain rfl : x = i := by omega
    rw [cA_get hx] at h2
    unfold nameIs at h2
    exact of_decide_eq_true h2
  unfold rturnV
  rcases ixF_spec (nameIs (cA k.fields i).name) o.fields with ⟨h1, h2⟩ | ⟨m, hm, h1, h2, -⟩
  ·rw [if_pos (by omega), hI]
   have hne : ixF (nameIs (cA o.fields j).name) k.fields ≠ (i : Int) := fun h => by
    have h3 := key h
    have h4 := h2 j hj
    rw [cA_get hj] at h4
    unfold nameIs at h4
    exact of_decide_eq_false h4 h3.symm
   by_cases hc : 0 <= ixF (nameIs (cA o.fields j).name) k.fields /\ ixF (nameIs (cA o.fields j).name) k.fields < (i : Int)
   ·rw [if_pos hc, if_pos (by omega)]
   ·rw [if_neg hc, if_neg (by omega)]
  ·rw [cA_get hm] at h2
   unfold nameIs at h2
   have h2 := of_decide_eq_true h2
   rw [if_neg (by omega), h1, Int.toNat_natCast]
   by_cases hjm : m = j
   ·subst hjm
    rw [List.getElem?_set_self (by rw [rturn_len]; exact hj)]
    have e : ixF (nameIs (cA o.fields m).name) k.fields = (i : Int) := by rw [h2]; exact ix_self hk (by omega)
    rw [e, if_pos (by omega), Int.toNat_natCast]
   ·rw [List.getElem?_set_ne hjm, hI]
    have hne : ixF (nameIs (cA o.fields j).name) k.fields ≠ (i : Int) := fun h => by
     have h3 := key h
     rw [<- h2] at h3
     rcases Nat.lt_or_ge m j with h4 | h4
     ·exact ho j m hj h4 h3
     ·exact ho m j hm (by omega) h3.symm
    by_cases hc : 0 <= ixF (nameIs (cA o.fields j).name) k.fields /\ ixF (nameIs (cA o.fields j).name) k.fields < (i : Int)
    ·rw [if_pos hc, if_pos (by omega)]
    ·rw [if_neg hc, if_neg (by omega)]
theorem rturn_all {k o : RKd} (hk : ∀ j j', j < k.fields.length -> j' < j -> (cA k.fields j').name ≠ (cA k.fields j).name) (ho : ∀ j j', j < o.fields.length -> j' < j -> (cA o.fields j').name ≠ (cA o.fields j).name) (vs : List ByteArray) : rturnV k o vs k.fields.length = turnV k o vs := by
 unfold turnV
 refine List.ext_getElem? fun j => ?_
 rcases Nat.lt_or_ge j o.fields.length with hj | hj
 ·rw [rturn_get hk ho vs _ (Nat.le_refl _) j hj, List.getElem?_map, List.getElem?_eq_getElem hj, cA_get hj]
  show some _ = some (turnW k vs (cA o.fields j))
  unfold turnW
  rcases ixF_spec (nameIs (cA o.fields j).name) k.fields with ⟨h1, -⟩ | ⟨m, hm, h1, -, -⟩
  ·rw [h1, if_neg (by omega), if_pos (by omega)]
  ·rw [h1, if_pos (by omega), if_neg (by omega)]
 ·rw [List.getElem?_eq_none (by rw [rturn_len]; exact hj), List.getElem?_eq_none (by rw [List.length_map]; exact hj)]
set_option maxHeartbeats 8000000 in
set_option maxRecDepth 100000 in
theorem rturned_c (k o : RKd) (KA OA : Option Addr) (KC OC : Nat) (r : RowP) (RA : Option Addr) (RC : Nat) (w : World) (hk : Cols w KA k.fields) (ho : Cols w OA o.fields) (hr : RowM w r RA RC) (hlen : r.vals.length = k.fields.length) (hk50 : k.fields.length <= 50) (ho50 : o.fields.length <= 50)
  (hk1 : ∀ j j', j < k.fields.length -> j' < j -> (cA k.fields j').name ≠ (cA k.fields j).name) (ho1 : ∀ j j', j < o.fields.length -> j' < j -> (cA o.fields j').name ≠ (cA o.fields j).name) :
  Calls Tryz.prog 28 #[kindG k KA KC, kindG o OA OC, rowG r RA RC] w (RetTurn k o r w) := by
 have HCO := Lib.hid (fun t wx (h : Below w.heap.size w wx) => rcolof_c o OA OC t wx (ho.below h))
 have HIO := Lib.hid (fun t => ixF_spec (nameIs t) o.fields)
 have HK := Lib.hid hk; have HO := Lib.hid ho; have HR := Lib.hid hr
 have HV := Lib.hid hlen
 have HTV := Lib.hid (show (turnV k o r.vals).length = o.fields.length by unfold turnV; rw [List.length_map])
 have HRA := Lib.hid (rturn_all hk1 ho1 r.vals)
 have HRL := Lib.hid (fun i => rturn_len k o r.vals i)
 have HR0 := Lib.hid (show rturnV k o r.vals 0 = List.replicate o.fields.length ⟨#[]⟩ from rfl)
 have HRS := Lib.hid (show ∀ i, rturnV k o r.vals (i + 1) = if ixF (nameIs (cA k.fields i).name) o.fields < 0 then rturnV k o r.vals i else (rturnV k o r.vals i).set (ixF (nameIs (cA k.fields i).name) o.fields).toNat (wd r.vals i) from fun i => rfl)
 have HLE := Lib.hid (fun j => lostN_le k o r.vals j)
 have HLS := Lib.hid (show ∀ j, lostN k o r.vals (j + 1) = lostN k o r.vals j + if lostB o (cA k.fields j) (wd r.vals j) = true then 1 else 0 from fun j => rfl)
 have HLB := Lib.hid (show ∀ c s, lostB o c s = (decide (s ≠ ⟨#[]⟩) && decide (ixF (nameIs c.name) o.fields < 0)) from fun c s => rfl)
 unfold RetTurn
 obtain ⟨TV, hTV⟩ : ∃ x, turnV k o r.vals = x := ⟨_, rfl⟩
 obtain ⟨LN, hLN⟩ : ∃ x, lostN k o r.vals = x := ⟨_, rfl⟩
 obtain ⟨LB, hLB⟩ : ∃ x, lostB o = x := ⟨_, rfl⟩
 obtain ⟨RV, hRV⟩ : ∃ x, rturnV k o r.vals = x := ⟨_, rfl⟩
 rw [hTV] at HTV HRA
 rw [hRV] at HRA HRL HR0 HRS
 rw [hLN] at HLE HLS
 rw [hLB] at HLS HLB
 rw [hTV, hLN]
 clear hTV hLN hLB hRV hk ho hr hlen hk1 ho1
 obtain ⟨kt, kfs, km, ku⟩ := k
 obtain ⟨ot, ofs, om, ou⟩ := o
 obtain ⟨rt, vs⟩ := r
 unfold kindG at HCO ⊢
 unfold rowG
 simp only at HCO HIO HK HO HV HTV HRA HRL HR0 HRS HLS HLB HR hk50 ho50 ⊢
 obtain ⟨nf, hnf⟩ : ∃ x, kfs.length = x := ⟨_, rfl⟩
 obtain ⟨no, hno⟩ : ∃ x, ofs.length = x := ⟨_, rfl⟩
 obtain ⟨nv, hnv⟩ : ∃ x, vs.length = x := ⟨_, rfl⟩
 obtain ⟨nt, hnt⟩ : ∃ x, TV.length = x := ⟨_, rfl⟩
 have HNF := Lib.hid hnf; have HNO := Lib.hid hno; have HNV := Lib.hid hnv; have HNT := Lib.hid hnt
 rw [hnf] at HV HRA hk50 ⊢
 rw [hno] at HCO HTV HRL HR0 ho50 ⊢
 rw [hnt] at HTV ⊢
 rw [hnv] at HV ⊢
 have HTN := Lib.hid HTV.out; have HVN := Lib.hid HV.out
 clear hnf hno hnv hnt
 have h1 := heap_old (heap_old (heap_old (heap_new w (.cells #[.string kt, .slice KA nf KC, .int .i64 km, .string ku] 52) rfl) (.cells #[.string ot, .slice OA no OC, .int .i64 om, .string ou] 52)) (.cells #[.string rt, .slice RA nv RC] 49)) (.cells #[.string ⟨#[]⟩, .slice none 0 0] 49)
 have h2 := heap_old (heap_old (heap_new (w.alloc (.cells #[.string kt, .slice KA nf KC, .int .i64 km, .string ku] 52)) (.cells #[.string ot, .slice OA no OC, .int .i64 om, .string ou] 52) (g := w.heap.size + 1) (by simp)) (.cells #[.string rt, .slice RA nv RC] 49)) (.cells #[.string ⟨#[]⟩, .slice none 0 0] 49)
 have h3 := heap_old (heap_new ((w.alloc (.cells #[.string kt, .slice KA nf KC, .int .i64 km, .string ku] 52)).alloc (.cells #[.string ot, .slice OA no OC, .int .i64 om, .string ou] 52)) (.cells #[.string rt, .slice RA nv RC] 49) (g := w.heap.size + 1 + 1) (by simp)) (.cells #[.string ⟨#[]⟩, .slice none 0 0] 49)
 have h4 := heap_new (((w.alloc (.cells #[.string kt, .slice KA nf KC, .int .i64 km, .string ku] 52)).alloc (.cells #[.string ot, .slice OA no OC, .int .i64 om, .string ou] 52)).alloc (.cells #[.string rt, .slice RA nv RC] 49)) (.cells #[.string ⟨#[]⟩, .slice none 0 0] 49) (g := w.heap.size + 1 + 1 + 1) (by simp)
 have hB : Below w.heap.size w ((((w.alloc (.cells #[.string kt, .slice KA nf KC, .int .i64 km, .string ku] 52)).alloc (.cells #[.string ot, .slice OA no OC, .int .i64 om, .string ou] 52)).alloc (.cells #[.string rt, .slice RA nv RC] 49)).alloc (.cells #[.string ⟨#[]⟩, .slice none 0 0] 49)) := by go_grown
 go_enter Tryz.func28, Tryz.ntmps28
 go_upto_region 1 with fail
 generalize (((w.alloc (.cells #[.string kt, .slice KA nf KC, .int .i64 km, .string ku] 52)).alloc (.cells #[.string ot, .slice OA no OC, .int .i64 om, .string ou] 52)).alloc (.cells #[.string rt, .slice RA nv RC] 49)).alloc (.cells #[.string ⟨#[]⟩, .slice none 0 0] 49) = w4 at h1 h2 h3 h4 hB ⊢
 have HW := Lib.hid (show ∀ wx, Below w4.heap.size w4 wx -> wx.heap[w.heap.size]? = some (.cells #[.string kt, .slice KA nf KC, .int .i64 km, .string ku] 52 (0, 0)) /\ wx.heap[w.heap.size + 1]? = some (.cells #[.string ot, .slice OA no OC, .int .i64 om, .string ou] 52 (0, 0)) /\ wx.heap[w.heap.size + 1 + 1]? = some (.cells #[.string rt, .slice RA nv RC] 49 (0, 0)) /\ wx.heap[w.heap.size + 1 + 1 + 1]? = some (.cells #[.string ⟨#[]⟩, .slice none 0 0] 49 (0, 0)) /\ Below w.heap.size w wx from fun wx h =>
  ⟨heap_below h1 h, heap_below h2 h, heap_below h3 h, heap_below h4 h, below_then h hB hB.size⟩)
 have HBZ := Lib.hid hB.size
 have hmk := run_make_row' (P := Tryz.prog) 47 9 (.string ⟨#[]⟩) 16 Tryz.underlying47 Tryz.infoStr rfl .i64 .i64 no (by omega) (by omega)
 go_cut [8] (fun v wx => ∃ TB, v = .pointer (some ⟨TB, 0, none⟩) /\ Hid (TailSt w4 wx TB rt (RV 0)))
 case first =>
  obtain ⟨⟨k0, k1, k2, k3⟩, -, -⟩ := obox4 h2
  obtain ⟨r0, r1, -, -, -⟩ := box2 h3
  have r0a : ∀ o, (w4.alloc o).cell? ⟨w.heap.size + 1 + 1, 0, none⟩ = some (.string rt) := fun o => (World.cell?_alloc_some w4 _ o (by rw [r0]; rfl)).trans r0
  have k1a : ∀ o, (w4.alloc o).cell? ⟨w.heap.size + 1, 1, none⟩ = some (.slice OA no OC) := fun o => (World.cell?_alloc_some w4 _ o (by rw [k1]; rfl)).trans k1
  have r0b : ∀ o o', ((w4.alloc o).alloc o').cell? ⟨w.heap.size + 1 + 1, 0, none⟩ = some (.string rt) := fun o o' => (World.cell?_alloc_some _ _ o' (by rw [r0a]; rfl)).trans (r0a o)
  have k1b : ∀ o o', ((w4.alloc o).alloc o').cell? ⟨w.heap.size + 1, 1, none⟩ = some (.slice OA no OC) := fun o o' => (World.cell?_alloc_some _ _ o' (by rw [k1a]; rfl)).trans (k1a o)
  clear h1 h2 h3 h4 hB
  go_region
  all_goals
   go_wp2_with fail
   go_meet
   first
    | exact ⟨w4.heap.size + 1, rfl, Lib.hid (by rw [HR0.out]; exact TailSt.made1 w4 rt no ho50)⟩
    | exact ⟨w4.heap.size, rfl, Lib.hid (by rw [HR0.out]; exact TailSt.made2 w4 rt no ho50)⟩
 case rest =>
 obtain ⟨TB, rfl, HT0⟩ := hcut
 clear h1 h2 h3 h4 hB hmk
 obtain ⟨q1, -, -, -, -⟩ := HW.out _ HT0.out.bel
 obtain ⟨⟨k0, k1, k2, k3⟩, -, -⟩ := obox4 q1
 go_wp2_with fail
 go_loopw [23, 9] (fun i t wx => ∃ (i' : Nat), i' <= nf /\ i = .int .i64 i' /\ t = .int .i64 (LN i' : Nat) /\ Hid (TailSt w4 wx TB rt (RV i'))) (fun i t _ => nf - (intOf i).toNat)
 case atStart => exact ⟨0, by omega, rfl, by first | rfl | (rw [show LN 0 = 0 from by have := HLE.out 0; omega]; rfl), HT0⟩
 case round =>
  clear q1 k0 k1 k2 k3 HT0
  obtain ⟨i, hi', rfl, rfl, HT⟩ := hrel
  have hle := HLE.out i
  have HB := Lib.hid HT.out.bel
  have hzr := HB.out.size
  obtain ⟨-, -, q3, -, qb⟩ := HW.out _ HB.out
  have QB := Lib.hid qb
  rcases Nat.lt_or_ge i nf with hlt2 | hge2
  ·have tk : decide ((i : Int) < (nf : Int)) = true := decide_eq_true (by omega)
   have hil : i < kfs.length := by rw [HNF.out]; exact hlt2
   have hiv : i < nv := by rw [HVN.out]; exact hlt2
   obtain ⟨cb, co, rfl, hcb, d0, d1, d2, d3, d4, d5, d6, d7⟩ := (HK.out.below QB.out).cells hil
   have HVC := Lib.hid (fun wx h => (HR.out.vals.below (w' := wx) h) (by show 0 < vs.length; rw [HNV.out]; omega))
   have HL1 := Lib.hid (HLS.out i)
   have HL2 := Lib.hid (HLB.out (cA kfs i) (wd vs i))
   have HS1 := Lib.hid (HRS.out i)
   obtain ⟨C, hC⟩ : ∃ x, cA kfs i = x := ⟨_, rfl⟩
   obtain ⟨sv, hsv⟩ : ∃ x, wd vs i = x := ⟨_, rfl⟩
   have HSV := Lib.hid hsv
   rw [hC] at d0 d1 d2 d3 d4 d5 d6 d7 HL1 HL2 HS1
   rw [hsv] at HL1 HL2 HS1
   obtain ⟨cn, ck, cw, cl, cm, cr, ci, ce⟩ := C
   simp only at d0 d1 d2 d3 d4 d5 d6 d7 HL2 HS1
   have HCB := Lib.hid (heap_new wr (.cells #[.string cn, .int .i64 ck, .int .i64 cw, .int .i64 cl, .int .i64 cm, .bool cr, .int .u8 ci, .bool ce] 60) rfl)
   have HT6 := Lib.hid (show TailSt w4 (wr.alloc (.cells #[.string cn, .int .i64 ck, .int .i64 cw, .int .i64 cl, .int .i64 cm, .bool cr, .int .u8 ci, .bool ce] 60)) TB rt (RV i) from HT.out.below (by go_grown))
   have HIOC := Lib.hid (HIO.out cn)
   have HCC := Lib.hid (fun wx h => HCO.out cn wx h)
   obtain ⟨IX, hIX⟩ : ∃ x, ixF (nameIs cn) ofs = x := ⟨_, rfl⟩
   rw [hIX] at HL2 HS1 HIOC HCC
   have hem := emp_dec sv
   clear hC hil hsv hIX q3 qb
   go_upto_region 6 with fail
   obtain ⟨cb2, hcb2⟩ : ∃ x, wr.heap.size = x := ⟨_, rfl⟩
   rw [hcb2] at HCB
   try rw [hcb2]
   generalize wr.alloc (.cells #[.string cn, .int .i64 ck, .int .i64 cw, .int .i64 cl, .int .i64 cm, .bool cr, .int .u8 ci, .bool ce] 60) = w6 at HCB HT6 ⊢
   clear hcb2 d0 d1 d2 d3 d4 d5 d6 d7 hcb HB HT QB hzr
   obtain ⟨-, q2, -, -, qb⟩ := HW.out _ HT6.out.bel
   obtain ⟨⟨k0, k1, k2, k3⟩, -, -⟩ := obox4 q2
   obtain ⟨⟨x0, x1, x2, x3, x4, x5, x6, x7⟩, -⟩ := obox8 HCB.out
   go_wp2_with fail
   refine (HCC.out _ qb).mono ?_
   rintro _ w7 ⟨rfl, hb7⟩
   have HT7 := Lib.hid (HT6.out.below hb7)
   clear k0 k1 k2 k3 x0 x1 x2 x3 x4 x5 x6 x7 q2 qb hb7 HT6 HCB
   obtain ⟨-, -, q3, -, qb⟩ := HW.out _ HT7.out.bel
   obtain ⟨r0, r1, -, -, -⟩ := box2 q3
   obtain ⟨vb, vo, rfl, hvb, hvc⟩ := HVC.out _ qb
   have s0 : w7.cell? ⟨vb, vo + i, none⟩ = some (.string (wd vs i)) := hvc i (by show i < vs.length; rw [HNV.out]; exact hiv)
   rw [HSV.out] at s0
   clear q3 qb hvc HVC
   rcases HIOC.out with ⟨e1, -⟩ | ⟨ic, hic, e1, -, -⟩
   ·have HS := Lib.hid (show RV (i + 1) = RV i by rw [HS1.out, e1]; exact if_pos (by decide))
    rw [e1] at HL2 ⊢
    have td : decide ((0 : Int) <= -1) = false := by decide
    have hsL : LB ⟨cn, ck, cw, cl, cm, cr, ci, ce⟩ sv = decide (sv ≠ ⟨#[]⟩) := by rw [HL2.out]; simp
    have HLS2 := Lib.hid hsL
    clear hsL e1
    by_cases h0 : sv = ⟨#[]⟩
    ·have HN := Lib.hid (show LN (i + 1) = LN i by rw [HL1.out, HLS2.out, decide_eq_false (fun h => h h0)]; rfl)
     rw [decide_eq_true h0] at hem
     clear h0
     go_wp2
     go_roundw
     case rel => exact ⟨i + 1, by omega, by go_num, by rw [HN.out], by rw [HS.out]; first | exact HT7 | exact Lib.hid (HT7.out.drewN _)⟩
     case measure => simp [intOf]; omega
    ·have HN := Lib.hid (show LN (i + 1) = LN i + 1 by rw [HL1.out, HLS2.out, decide_eq_true h0]; rfl)
     rw [decide_eq_false h0] at hem
     clear h0
     go_wp2
     go_roundw
     case rel => exact ⟨i + 1, by omega, by go_num, by rw [HN.out]; go_num, by rw [HS.out]; first | exact HT7 | exact Lib.hid (HT7.out.drewN _)⟩
     case measure => simp [intOf]; omega
   ·have HN := Lib.hid (show LN (i + 1) = LN i by rw [HL1.out, HL2.out, e1, decide_eq_false (show ¬ ((ic : Int) < 0) by omega), Bool.and_false]; rfl)
    have HS := Lib.hid (show RV (i + 1) = (RV i).set ic sv by rw [HS1.out, e1, if_neg (by omega), Int.toNat_natCast])
    have hicn : ic < no := by rw [<- HNO.out]; exact hic
    rw [e1]
    have td : decide ((0 : Int) <= (ic : Int)) = true := decide_eq_true (by omega)
    obtain ⟨TX, TN, t1, t2, t3, t4⟩ := HT7.out
    rw [HRL.out] at t2 t3
    obtain ⟨g, hg, hgb, hgs, hcells⟩ := own_rowF t3 (by omega)
    subst hg
    have hcb := t3.cellAt ic (by omega)
    have hfz := t3.frozenAt ic
    have hVi := HRL.out i
    obtain ⟨VI, hVI⟩ : ∃ x, RV i = x := ⟨_, rfl⟩
    rw [hVI] at hcb t3 hVi HS HT7
    rw [ystrV_get (by rw [hVi]; exact hicn)] at hcb
    have HVi := Lib.hid hVi
    have HT9 := Lib.hid (show TailSt w4 (w7.setCell ⟨g, ic, none⟩ (.string sv)) TB rt (RV (i + 1)) by
     rw [HS.out]
     refine TailSt.put t1 (TC := TN) ?_ ?_ t4 (by rw [HVi.out]; exact hicn)
     ·rw [HVi.out]; exact t2
     ·rw [HVi.out]; exact t3)
    obtain ⟨z0, z1, z2, z3, z5⟩ := box2 t2
    have b1 : (0 : Int) <= (ic : Int) := by omega
    have b2 : (ic : Int) < (no : Int) := by omega
    have b3 : (0 : Int) <= (i : Int) := by omega
    have b4 : (i : Int) < (nv : Int) := by omega
    clear e1 hic hVI hVi t1 t2 t3 t4 hcells hgb hgs
    go_upto_region 8 with fail
    go_region
    all_goals
     go_wp2
     go_roundw
     case rel => exact ⟨i + 1, by omega, by go_num, by rw [HN.out], Lib.hid (HT9.out.drewN _)⟩
     case measure => simp [intOf]; omega
  ·obtain rfl : i = nf := by omega
   obtain ⟨TX, TN, t1, t2, t3, t4⟩ := HT.out
   rw [HRA.out] at t2 t3
   rw [HNT.out] at t2 t3
   obtain ⟨-, -, -, q4, qb⟩ := HW.out _ t4
   have HX9 := Lib.hid t2; have HO9 := Lib.hid t3; have HZ9 := Lib.hid q4; have QB9 := Lib.hid qb
   have HD := Lib.hid t1
   obtain ⟨x0, x1, -, -, -⟩ := box2 t2
   obtain ⟨z0, z1, z2, z3, z5⟩ := box2 q4
   clear t1 t2 t3 t4 q3 q4 qb
   go_wp2
   have hz9 : ((wr.setCell ⟨w.heap.size + 1 + 1 + 1, 0, none⟩ (.string rt)).setCell ⟨w.heap.size + 1 + 1 + 1, 1, none⟩ (.slice TX nt TN)).heap[w.heap.size + 1 + 1 + 1]? = some (.cells #[.string rt, .slice TX nt TN] 49 (0, 0)) := heap_set (heap_set HZ9.out 0 _) 1 _
   obtain ⟨u0, u1, -, -, -⟩ := box2 hz9
   refine bodyPost_ret (v := .tuple #[.agg #[.string rt, .slice TX nt TN], .int .i64 (LN i : Nat)]) (by simp [results, Tryz.results28, go_sem, u0, u1]) rfl ⟨TX, TN, rfl, ?_, ?_⟩
   ·exact own_mono (own_set9 (own_set9 HO9.out HZ9.out (by decide) _) (heap_set HZ9.out 0 _) (by decide) _) HBZ.out
   ·exact (QB9.out.setCell (p := ⟨w.heap.size + 1 + 1 + 1, 0, none⟩) (by show w.heap.size <= w.heap.size + 1 + 1 + 1; omega) _).setCell (p := ⟨w.heap.size + 1 + 1 + 1, 1, none⟩) (by show w.heap.size <= w.heap.size + 1 + 1 + 1; omega) _
end Go.Proofs.YtaiabjiehpcaoaaGreatDoor
namespace Go.Proofs.YtaiabjiehpcaoaaGreatDoor
open Go.RowKit Limb
theorem heap_store2 {w : World} {g : Nat} {x y u v : Value} {T : TypeId} (h : w.heap[g]? = some (.cells #[x, y] T (0, 0))) : ((w.setCell ⟨g, 0, none⟩ u).setCell ⟨g, 1, none⟩ v).heap[g]? = some (.cells #[u, v] T (0, 0)) := by
 simpa using heap_set (heap_set h 0 u) 1 v
theorem news1 {w w' : World} {o : Obj} (h : Below (w.alloc o).heap.size (w.alloc o) w') : w'.heap[w.heap.size]? = some o := heap_below (heap_new w o rfl) h
theorem news1d {w w' : World} {o : Obj} (h : Below (w.alloc o).drew.heap.size (w.alloc o).drew w') : w'.heap[w.heap.size]? = some o := heap_below (w := (w.alloc o).drew) (heap_new w o rfl) h
end Go.Proofs.YtaiabjiehpcaoaaGreatDoor
namespace Go.Proofs.YtaiabjiehpcaoaaGreatDoor
open Go.RowKit Limb Nmb Work
set_option linter.unusedVariables false
set_option linter.unusedSimpArgs false
theorem RowS.below {w w' : World} {r : RowP} {A : Option Addr} {c : Nat} (h : RowS w r A c) (hb : Below w.heap.size w w') : RowS w' r A c := ⟨h.vals.below hb, h.len, h.size, h.tag⟩
def NewSt (w1 wx : World) (NB : Nat) (r : RowP) (nt : Nat) (X : Option Addr) (n c : Nat) (l : List RowP) : Prop := ∃ (XT : Option Addr) (ct : Nat), wx.heap[NB]? = some (.cells #[.string r.tag, .slice XT nt ct] 49 (0, 0)) /\ RwsO w1 wx X n c l /\ RowS wx r XT ct
theorem NewSt.late {w1 w2 w4 : World} {r : RowP} {nt : Nat} {X XT : Option Addr} {n c ct B : Nat} {l : List RowP} (ho : RwsO w1 w2 X n c l) (ht : Below w2.heap.size w2 w4) (hown : w4.ownsRow B 9 1 (.slice XT nt ct) nt (ystrV r.vals)) (hn : r.vals.length = nt) (hs : ∀ s ∈ r.vals, s.size <= 9223372036854775807) (hg : r.tag.size <= 9223372036854775807) :
  NewSt w1 (w4.alloc (.cells #[.string r.tag, .slice XT nt ct] 49)) w4.heap.size r nt X n c l := by
 subst hn
 exact ⟨XT, ct, heap_new _ _ rfl, ho.below (ht.alloc ht.size _), (own_rowS hown hs hg).below (by go_grown)⟩
theorem NewSt.store {w1 w2 w4 : World} {NB : Nat} {x y : Value} {r : RowP} {nt : Nat} {X XT : Option Addr} {n c ct B : Nat} {l : List RowP} (ho : RwsO w1 w2 X n c l) (ht : Below w2.heap.size w2 w4) (hb : w2.heap.size <= NB) (hN : w4.heap[NB]? = some (.cells #[x, y] 49 (0, 0))) (hown : w4.ownsRow B 9 1 (.slice XT nt ct) nt (ystrV r.vals)) (hn : r.vals.length = nt) (hs : ∀ s ∈ r.vals, s.size <= 9223372036854775807) (hg : r.tag.size <= 9223372036854775807) :
  NewSt w1 ((w4.setCell ⟨NB, 0, none⟩ (.string r.tag)).setCell ⟨NB, 1, none⟩ (.slice XT nt ct)) NB r nt X n c l := by
 subst hn
 exact ⟨XT, ct, heap_store2 hN, ho.below ((ht.setCell (p := ⟨NB, 0, none⟩) hb _).setCell (p := ⟨NB, 1, none⟩) hb _), own_rowS (own_set9 (own_set9 hown hN (by decide) _) (heap_set hN 0 _) (by decide) _) hs hg⟩
set_option maxHeartbeats 8000000 in
set_option maxRecDepth 100000 in
theorem rTurned_c (f g : Fmt) (A B : Option Addr) (cp cq : Nat) (FA GA : Nat -> Option Addr) (FC GC : Nat -> Nat) (L : Option Addr) (LC : Nat) (rs : List RowP) (RA : Nat -> Option Addr) (RC : Nat -> Nat) (w : World) (ho : Kinds w A f.kinds FA FC) (hg : Kinds w B g.kinds GA GC) (hl : RowsM w L rs RA RC) (hc : f.kinds.length <= cp) (hd : g.kinds.length <= cq) (hm : 0 <= f.mark /\ f.mark <= 255) (hq : 0 <= f.quote /\ f.quote <= 255) (hm2 : 0 <= g.mark /\ g.mark <= 255) (hq2 : 0 <= g.quote /\ g.quote <= 255) (ht : Tab w) :
  Calls Tryz.prog 6 #[fmtG f A cp, fmtG g B cq, .slice L rs.length LC] w (RetTd (turnR f g rs) w) := by
 obtain ⟨i0, hi, hz0, hz1, hz2⟩ := info_parts Tryz.infoRow
 have HC1 := Lib.hid (fun w h => rcheck_c f A cp FA FC w h hc hm hq)
 have HC2 := Lib.hid (fun w h => rcheck_c g B cq GA GC w h hd hm2 hq2)
 have HRF := Lib.hid (fun w h h2 ht => askrows_c f A cp FA FC L LC rs RA RC w h h2 hc hm hq ht)
 have HTY := Lib.hid (fun h0 h1 w h h2 => risother_c f g A B cp cq FA GA FC GC w h h2 h0 hd h1)
 have HCR := Lib.hid (fun h0 X c l RA RC w h h2 ht => rchkrows_c g B cq GA GC X c l RA RC w h h2 hd h0 hm2 ht)
 have HKF := Lib.hid ho; have HKG := Lib.hid hg; have HLM := Lib.hid hl; have HTB := Lib.hid ht
 have HKA1 := Lib.hid (fun t w h => rkindof_c f A cp FA FC t w h)
 have HKA2 := Lib.hid (fun t w h => rkindof_c g B cq GA GC t w h)
 have HFK := Lib.hid (fun h => checkF_ok (f := f) h); have HGK := Lib.hid (fun h => checkF_ok (f := g) h)
 have HAK := Lib.hid (fun h => askF_ok (f := f) (rs := rs) h)
 have HTL := Lib.hid (fun h j => turnLs_le (f := f) (g := g) h rs j)
 have HTS := Lib.hid (show ∀ j, turnLs f g rs (j + 1) = turnLs f g rs j + turnC f g (rA rs j) from fun _ => rfl)
 obtain ⟨F1, hF1⟩ : ∃ x, checkF f = x := ⟨_, rfl⟩
 obtain ⟨F2, hF2⟩ : ∃ x, checkF g = x := ⟨_, rfl⟩
 obtain ⟨AK, hAK⟩ : ∃ x, askF f rs = x := ⟨_, rfl⟩
 obtain ⟨TB, hTB⟩ : ∃ x, typeB f g = x := ⟨_, rfl⟩
 obtain ⟨R, hR⟩ : ∃ x, turnR f g rs = x := ⟨_, rfl⟩
 have HR := Lib.hid (show (if F1 ≠ 0 then ([], 0, F1) else if F2 ≠ 0 then ([], 0, F2) else if AK ≠ 0 then ([], 0, AK) else if TB = true then ([], 0, 6) else if (rowsF g (turnRs f g rs)).2 ≠ 0 then ([], 0, (rowsF g (turnRs f g rs)).2) else (turnRs f g rs, turnLs f g rs rs.length, 0)) = R by
  rw [<- hR, <- hF1, <- hF2, <- hAK, <- hTB]
  unfold turnR turnE
  by_cases h1 : checkF f = 0
  ·rw [if_neg (c := checkF f ≠ 0) (fun h => h h1), if_neg (c := checkF f ≠ 0) (fun h => h h1)]
   by_cases h2 : checkF g = 0
   ·rw [if_neg (c := checkF g ≠ 0) (fun h => h h2), if_neg (c := checkF g ≠ 0) (fun h => h h2)]
    by_cases h3 : askF f rs = 0
    ·rw [if_neg (c := askF f rs ≠ 0) (fun h => h h3), if_neg (c := askF f rs ≠ 0) (fun h => h h3)]
     cases typeB f g with
     | true => rw [if_pos rfl, if_pos rfl]; rfl
     | false => simp only [Bool.false_eq_true, if_false]
    ·rw [if_pos (c := askF f rs ≠ 0) h3, if_pos (c := askF f rs ≠ 0) h3, if_pos h3]
   ·rw [if_pos (c := checkF g ≠ 0) h2, if_pos (c := checkF g ≠ 0) h2, if_pos h2]
  ·rw [if_pos (c := checkF f ≠ 0) h1, if_pos (c := checkF f ≠ 0) h1, if_pos h1])
 rw [hF1] at HC1 HFK HTY
 rw [hF2] at HC2 HGK HCR HTY
 rw [hAK] at HRF HAK
 rw [hTB] at HTY
 rw [hR]
 clear hF1 hF2 hR hAK hTB ho hg hl ht
 obtain ⟨TL, hTLe⟩ : ∃ x, turnLs f g rs = x := ⟨_, rfl⟩
 obtain ⟨TO, hTO⟩ : ∃ x, turnO f g = x := ⟨_, rfl⟩
 have HTR := Lib.hid (show turnRs f g rs = rs.flatMap TO by rw [<- hTO]; rfl)
 obtain ⟨TR, hTR⟩ : ∃ x, turnRs f g rs = x := ⟨_, rfl⟩
 have HTO := Lib.hid (show ∀ r, TO r = if katI g r.tag < 0 then [] else [⟨r.tag, turnV (katK f r.tag) (katK g r.tag) r.vals⟩] from fun r => by rw [<- hTO]; rfl)
 have HTC := Lib.hid (show ∀ r, turnC f g r = if katI g r.tag < 0 then 1 else lostN (katK f r.tag) (katK g r.tag) r.vals (katK f r.tag).fields.length from fun r => rfl)
 obtain ⟨TC, hTC⟩ : ∃ x, turnC f g = x := ⟨_, rfl⟩
 rw [hTC] at HTC HTS
 rw [hTLe] at HTL HTS HR
 rw [hTR] at HR HTR
 clear hTLe hTO hTR hTC
 unfold RetI at HC1 HC2 HRF
 unfold RetB at HTY
 unfold RetNF at HCR
 obtain ⟨fm, fq, fks, fd, ft, fc, fs0⟩ := f
 obtain ⟨gm, gq, gks, gd, gt, gc, gs⟩ := g
 unfold fmtG at HC1 HC2 HKA1 HKA2 HRF HTY HCR ⊢
 simp only at HC1 HC2 HKA1 HKA2 HRF HTY HCR HKF HKG hc hd ⊢
 have hnk' : fks.length <= 9223372036854775807 := HKF.out.1.2
 have hng' : gks.length <= 9223372036854775807 := HKG.out.1.2
 obtain ⟨nk, hnk⟩ : ∃ x, fks.length = x := ⟨_, rfl⟩
 obtain ⟨ng, hng⟩ : ∃ x, gks.length = x := ⟨_, rfl⟩
 obtain ⟨nr, hnr⟩ : ∃ x, rs.length = x := ⟨_, rfl⟩
 have HNK := Lib.hid hnk; have HNG := Lib.hid hng; have HNR := Lib.hid hnr
 rw [hnk] at HC1 HKA1 HRF HTY hc hnk' ⊢
 rw [hng] at HC2 HKA2 HTY HCR hd hng' ⊢
 rw [hnr] at HRF HAK HR ⊢
 have hnrm : nr <= 9223372036854775807 := by rw [<- hnr]; exact HLM.out.len
 clear hnk hng hnr
 have hP1 := heap_old (heap_new w (.cells #[.int .u8 fm, .int .u8 fq, .slice A nk cp, .string fd, .string ft, .string fc, .string fs0] 24) rfl) (.cells #[.int .u8 gm, .int .u8 gq, .slice B ng cq, .string gd, .string gt, .string gc, .string gs] 24)
 have hP2 := heap_new (w.alloc (.cells #[.int .u8 fm, .int .u8 fq, .slice A nk cp, .string fd, .string ft, .string fc, .string fs0] 24)) (.cells #[.int .u8 gm, .int .u8 gq, .slice B ng cq, .string gd, .string gt, .string gc, .string gs] 24) (g := w.heap.size + 1) (by simp)
 have hB1 : Below w.heap.size w ((w.alloc (.cells #[.int .u8 fm, .int .u8 fq, .slice A nk cp, .string fd, .string ft, .string fc, .string fs0] 24)).alloc (.cells #[.int .u8 gm, .int .u8 gq, .slice B ng cq, .string gd, .string gt, .string gc, .string gs] 24)) := by go_grown
 go_enter Tryz.func6, Tryz.ntmps6
 go_upto_region 1 with fail
 generalize (w.alloc (.cells #[.int .u8 fm, .int .u8 fq, .slice A nk cp, .string fd, .string ft, .string fc, .string fs0] 24)).alloc (.cells #[.int .u8 gm, .int .u8 gq, .slice B ng cq, .string gd, .string gt, .string gc, .string gs] 24) = w1 at hP1 hP2 hB1 ⊢
 have HW := Lib.hid (show ∀ wx, Below w1.heap.size w1 wx -> wx.heap[w.heap.size]? = some (.cells #[.int .u8 fm, .int .u8 fq, .slice A nk cp, .string fd, .string ft, .string fc, .string fs0] 24 (0, 0)) /\ wx.heap[w.heap.size + 1]? = some (.cells #[.int .u8 gm, .int .u8 gq, .slice B ng cq, .string gd, .string gt, .string gc, .string gs] 24 (0, 0)) /\ Kinds wx A fks FA FC /\ Kinds wx B gks GA GC /\ RowsM wx L rs RA RC /\ Tab wx /\ Below w.heap.size w wx from fun wx h => by
  have h2 := below_then h hB1 hB1.size
  exact ⟨heap_below hP1 h, heap_below hP2 h, HKF.out.below h2, HKG.out.below h2, HLM.out.below h2, HTB.out.below h2, h2⟩)
 clear hP1 hP2 hB1
 obtain ⟨q1, q2, qk, qg, ql, qt, -⟩ := HW.out _ (Below.refl _ _)
 obtain ⟨⟨p0, p1, p2, p3, p4, p5, p6⟩, -⟩ := obox7 q1
 go_wp2_with fail
 refine (HC1.out _ qk).mono ?_
 rintro _ w2 ⟨rfl, hb2⟩
 have HB2 := Lib.hid hb2
 clear q1 q2 qk qg ql qt p0 p1 p2 p3 p4 p5 p6 hb2 HC1
 by_cases hf0 : F1 = 0
 case neg =>
  have HE := Lib.hid (show R = ([], 0, F1) from HR.out.symm.trans (if_pos hf0))
  have he2 : (F1 != 0) = true := by simpa using hf0
  have he3 : ¬ F1 = 0 := hf0
  clear hf0
  go_wp2
  go_ret3
  rw [HE.out]
  exact RetTd.no (HW.out _ HB2.out).2.2.2.2.2.2
 subst hf0
 obtain ⟨q1, q2, qk, qg, ql, qt, -⟩ := HW.out _ HB2.out
 obtain ⟨⟨p0, p1, p2, p3, p4, p5, p6⟩, -⟩ := obox7 q2
 go_wp2_with fail
 refine (HC2.out _ qg).mono ?_
 rintro _ w3 ⟨rfl, hb3⟩
 have HB3 := Lib.hid (below_then hb3 HB2.out HB2.out.size)
 clear q1 q2 qk qg ql qt p0 p1 p2 p3 p4 p5 p6 hb3 HC2 HB2
 by_cases hg0 : F2 = 0
 case neg =>
  have HE := Lib.hid (show R = ([], 0, F2) from HR.out.symm.trans ((if_neg (fun h => h rfl)).trans (if_pos hg0)))
  have he2 : (F2 != 0) = true := by simpa using hg0
  have he3 : ¬ F2 = 0 := hg0
  clear hg0
  go_wp2
  go_ret3
  rw [HE.out]
  exact RetTd.no (HW.out _ HB3.out).2.2.2.2.2.2
 subst hg0
 have HR2 := Lib.hid ((if_neg (fun h => h rfl)).symm.trans ((if_neg (fun h => h rfl)).symm.trans HR.out) : (if AK ≠ 0 then ([], 0, AK) else if TB = true then ([], 0, 6) else if (rowsF ⟨gm, gq, gks, gd, gt, gc, gs⟩ TR).2 ≠ 0 then ([], 0, (rowsF ⟨gm, gq, gks, gd, gt, gc, gs⟩ TR).2) else (TR, TL nr, 0)) = R)
 have HFM := Lib.hid (HFK.out (by trivial)); have HGM := Lib.hid (HGK.out (by trivial))
 have HTY2 := Lib.hid (HTY.out (by trivial) (by trivial))
 have HCR2 := Lib.hid (fun X c l RA RC w h h2 ht => HCR.out (by trivial) X c l RA RC w h h2 ht)
 clear HR HFK HGK HTY HCR
 obtain ⟨q1, q2, qk, qg, ql, qt, -⟩ := HW.out _ HB3.out
 obtain ⟨⟨p0, p1, p2, p3, p4, p5, p6⟩, -⟩ := obox7 q1
 go_wp2_with fail
 refine (HRF.out _ qk ql qt).mono ?_
 rintro _ w4 ⟨rfl, hb4⟩
 have HB4 := Lib.hid (below_then hb4 HB3.out HB3.out.size)
 clear q1 q2 qk qg ql qt p0 p1 p2 p3 p4 p5 p6 hb4 HB3 HRF
 by_cases hak : AK = 0
 case neg =>
  have HE := Lib.hid (show R = ([], 0, AK) from HR2.out.symm.trans (if_pos hak))
  have he2 : (AK != 0) = true := by simpa using hak
  have he3 : ¬ AK = 0 := hak
  clear hak
  go_wp2
  go_ret3
  rw [HE.out]
  exact RetTd.no (HW.out _ HB4.out).2.2.2.2.2.2
 subst hak
 have HR3 := Lib.hid ((if_neg (fun h => h rfl)).symm.trans HR2.out : (if TB = true then ([], 0, 6) else if (rowsF ⟨gm, gq, gks, gd, gt, gc, gs⟩ TR).2 ≠ 0 then ([], 0, (rowsF ⟨gm, gq, gks, gd, gt, gc, gs⟩ TR).2) else (TR, TL nr, 0)) = R)
 have HAK2 := Lib.hid (HAK.out rfl)
 have h2000 : nr <= 2000 := HAK2.out.2.1
 clear HR2 HAK
 obtain ⟨q1, q2, qk, qg, ql, qt, -⟩ := HW.out _ HB4.out
 obtain ⟨⟨p0, p1, p2, p3, p4, p5, p6⟩, -⟩ := obox7 q1; obtain ⟨⟨u0, u1, u2, u3, u4, u5, u6⟩, -⟩ := obox7 q2
 go_wp2_with fail
 refine (HTY2.out _ qk qg).mono ?_
 rintro _ w5 ⟨rfl, hb5⟩
 have HB5 := Lib.hid (below_then hb5 HB4.out HB4.out.size)
 clear q1 q2 qk qg ql qt p0 p1 p2 p3 p4 p5 p6 u0 u1 u2 u3 u4 u5 u6 hb5 HB4 HTY2
 cases TB with
 | true =>
  have HE := Lib.hid (show R = ([], 0, 6) from HR3.out.symm.trans (if_pos rfl))
  go_wp2
  go_ret3
  rw [HE.out]
  exact RetTd.no (HW.out _ HB5.out).2.2.2.2.2.2
 | false =>
  have HR4 := Lib.hid ((if_neg (by decide)).symm.trans HR3.out : (if (rowsF ⟨gm, gq, gks, gd, gt, gc, gs⟩ TR).2 ≠ 0 then ([], 0, (rowsF ⟨gm, gq, gks, gd, gt, gc, gs⟩ TR).2) else (TR, TL nr, 0)) = R)
  have HTLF := Lib.hid (fun j => HTL.out HFM.out j)
  clear HR3 HTL
  go_wp2_with fail
  go_loopw [42, 12, 13] (fun i o t wr => ∃ (j : Nat) (X : Option Addr) (n c : Nat), j <= nr /\ i = .int .i64 j /\ o = .slice X n c /\ t = .int .i64 (TL j : Nat) /\ n <= j /\ Hid (RwsO w1 wr X n c ((rs.take j).flatMap TO))) (fun i o t _ => nr - (intOf i).toNat)
  case atStart => exact ⟨0, none, 0, 0, by omega, rfl, rfl, by first | rfl | (rw [show TL 0 = 0 from by have := HTLF.out 0; omega]; rfl), by omega, Lib.hid (RwsO.nil w1 HB5.out)⟩
  case round =>
   clear HB5
   obtain ⟨j, X, n, c, hj, rfl, rfl, rfl, hn, HO⟩ := hrel
   have hbw := HO.out.bel
   have hzr := hbw.size
   have htl := HTLF.out j
   have HBW := Lib.hid hbw
   clear hbw
   rcases Nat.lt_or_ge j nr with hlt | hge
   ·have tk : decide ((j : Int) < (nr : Int)) = true := decide_eq_true (by omega)
    have hjl : j < rs.length := by rw [HNR.out]; exact hlt
    obtain ⟨q1, q2, qk, qg, ql, qt, qb⟩ := HW.out _ HBW.out
    obtain ⟨b, off, rfl, hbk, c0, c1⟩ := ql.cells hjl
    have HRJ := Lib.hid (fun wx h => (HW.out wx h).2.2.2.2.1.each j hjl)
    have HRK := Lib.hid (HAK2.out.2.2 j hlt)
    have HNX := Lib.hid (show (rs.take (j + 1)).flatMap TO = (rs.take j).flatMap TO ++ TO (rA rs j) by rw [<- rA_get hjl]; exact flat_take hjl)
    have HTLN := Lib.hid (show TL (j + 1) = TL j + TC (rA rs j) from HTS.out j)
    have HTOJ := Lib.hid (HTO.out (rA rs j)); have HTCJ := Lib.hid (HTC.out (rA rs j))
    obtain ⟨r, hr⟩ : ∃ x, rA rs j = x := ⟨_, rfl⟩
    rw [hr] at c0 c1 HRJ HRK HNX HTLN HTOJ HTCJ
    generalize RA j = RJ at c1 HRJ
    generalize RC j = CJ at c1 HRJ
    obtain ⟨rt, vs⟩ := r
    simp only at c0 c1 HTOJ HTCJ
    have hkind := HRK.out.kind
    have hmany := HRK.out.many
    simp only at hkind hmany
    obtain ⟨nv, hnv⟩ : ∃ x, vs.length = x := ⟨_, rfl⟩
    have HNV := Lib.hid hnv
    rw [hnv] at c1
    have HMN := Lib.hid hmany
    have HRD := Lib.hid (heap_new wr (.cells #[.string rt, .slice RJ nv CJ] 49) rfl)
    have hbd : Below wr.heap.size wr (wr.alloc (.cells #[.string rt, .slice RJ nv CJ] 49)) := by go_grown
    have HO2 := Lib.hid (HO.out.below hbd)
    clear hr hnv hjl q1 q2 qk qg ql qt qb hmany
    go_upto_region 17 with fail
    obtain ⟨rb, hrb⟩ : ∃ x, wr.heap.size = x := ⟨_, rfl⟩
    rw [hrb] at HRD
    try rw [hrb]
    generalize wr.alloc (.cells #[.string rt, .slice RJ nv CJ] 49) = w2' at HRD HO2 ⊢
    clear hrb c0 c1 hbk hbd HO HBW hzr
    obtain ⟨-, q2, -, qg, -, -, -⟩ := HW.out _ HO2.out.bel
    obtain ⟨⟨p0, p1, p2, p3, p4, p5, p6⟩, -⟩ := obox7 q2
    obtain ⟨r0, r1, -, -, -⟩ := box2 HRD.out
    have HCC := Lib.hid (kat_cases ⟨gm, gq, gks, gd, gt, gc, gs⟩ GA GC rt)
    go_wp2_with fail
    refine (HKA2.out rt _ qg).mono ?_
    rintro _ w3' ⟨rfl, hb3⟩
    have HRD3 := Lib.hid (heap_below HRD.out hb3); have HO3 := Lib.hid (HO2.out.below hb3)
    clear q2 qg p0 p1 p2 p3 p4 p5 p6 r0 r1 hb3 HRD HO2
    rcases HCC.out with ⟨e1, e2, -, -⟩ | ⟨k', hk', e1, e2, -, -⟩
    ·have HN1 := Lib.hid (show (rs.take (j + 1)).flatMap TO = (rs.take j).flatMap TO by rw [HNX.out, HTOJ.out, e1, if_pos (by decide), List.append_nil])
     have HN2 := Lib.hid (show TL (j + 1) = TL j + 1 by rw [HTLN.out, HTCJ.out, e1, if_pos (by decide)])
     have e3 : ixF (tagIs rt) gks = -1 := e1
     rw [e3]
     have td : decide ((-1 : Int) < 0) = true := by decide
     clear e1 e2 e3 HCC
     have HO6 := Lib.hid (show RwsO w1 w3' X n c ((rs.take (j + 1)).flatMap TO) by rw [HN1.out]; exact HO3.out)
     go_wp2
     go_roundw
     case rel => first | exact ⟨j + 1, X, n, c, by omega, by go_num, rfl, by rw [HN2.out]; go_num, by omega, HO6⟩ | ((repeat apply Exists.intro); exact ⟨⟨j + 1, X, n, c, by omega, by go_num, rfl, by rw [HN2.out]; go_num, by omega, HO6⟩, rfl⟩)
     case measure => simp [intOf]; omega
    rcases kat_cases ⟨fm, fq, fks, fd, ft, fc, fs0⟩ FA FC rt with ⟨e, -⟩ | ⟨k, hk, f1, f2, -, -⟩
    ·omega
    have HN1 := Lib.hid (show TO ⟨rt, vs⟩ = [⟨rt, turnV (kA fks k) (kA gks k') vs⟩] by rw [HTOJ.out, e1, e2, f2, if_neg (by omega)])
    have HN2 := Lib.hid (show TC ⟨rt, vs⟩ = lostN (kA fks k) (kA gks k') vs (kA fks k).fields.length by rw [HTCJ.out, e1, e2, f2, if_neg (by omega)])
    rw [f2] at HMN
    have hk1 : k < fks.length := hk
    have hk2 : k' < gks.length := hk'
    have hkn : k < nk := by rw [<- HNK.out]; exact hk1
    have hkn2 : k' < ng := by rw [<- HNG.out]; exact hk2
    have e3 : ixF (tagIs rt) gks = (k' : Int) := e1
    have f3 : ixF (tagIs rt) fks = (k : Int) := f1
    have HKAJ := Lib.hid (fun w h => HKA1.out rt w h)
    rw [f3] at HKAJ
    rw [e3]
    have td : decide ((k' : Int) < 0) = false := decide_eq_false (by omega)
    clear e1 e2 e3 f1 f2 f3 HCC hk hk' hkind HTOJ HTCJ
    have HCK := Lib.hid (fun wx h => kinds_cols (HW.out wx h).2.2.1 hk1)
    have HCG := Lib.hid (fun wx h => kinds_cols (HW.out wx h).2.2.2.1 hk2)
    have HKC := Lib.hid (fun wx h => (HW.out wx h).2.2.1.cells hk1)
    have HGC := Lib.hid (fun wx h => (HW.out wx h).2.2.2.1.cells hk2)
    have hk50 := (HFM.out.kinds k hk1).many; have hg50 := (HGM.out.kinds k' hk2).many
    have ho1 := (HFM.out.kinds k hk1).once; have ho2 := (HGM.out.kinds k' hk2).once
    simp only at hk50 hg50 ho1 ho2
    rw [show kA (⟨fm, fq, fks, fd, ft, fc, fs0⟩ : Fmt).kinds k = kA fks k from rfl] at HMN
    have hln := lostN_le (kA fks k) (kA gks k') vs (kA fks k).fields.length
    obtain ⟨K, hK⟩ : ∃ x, kA fks k = x := ⟨_, rfl⟩
    obtain ⟨O, hO⟩ : ∃ x, kA gks k' = x := ⟨_, rfl⟩
    rw [hK] at HN1 HN2 HCK HKC hk50 ho1 hln HMN
    rw [hO] at HN1 HN2 HCG HGC hg50 ho2 hln
    generalize FA k = KA at HCK HKC
    generalize FC k = KC at HKC
    generalize GA k' = OA at HCG HGC
    generalize GC k' = OC at HGC
    have HTU := Lib.hid (fun wx (h : Below w1.heap.size w1 wx) => rturned_c K O KA OA KC OC ⟨rt, vs⟩ RJ CJ wx (HCK.out wx h) (HCG.out wx h) (HRJ.out wx h) HMN.out hk50 hg50 ho1 ho2)
    unfold RetTurn kindG rowG at HTU
    clear hK hO ho1 ho2 HMN
    obtain ⟨TV, hTV⟩ : ∃ x, turnV K O vs = x := ⟨_, rfl⟩
    have HTVS := Lib.hid (show ∀ s ∈ TV, s.size <= 9223372036854775807 by
     rw [<- hTV]
     intro s hs
     unfold turnV at hs
     obtain ⟨x, -, rfl⟩ := List.mem_map.1 hs
     exact turnW_size (HRJ.out _ HO3.out.bel).size x)
    have HTAG := Lib.hid (HRJ.out _ HO3.out.bel).tag
    obtain ⟨LN, hLN⟩ : ∃ x, lostN K O vs K.fields.length = x := ⟨_, rfl⟩
    simp only at HTU HTAG
    rw [hTV, hLN] at HTU
    rw [hTV] at HN1
    rw [hLN] at HN2 hln
    rw [HNV.out] at HTU
    obtain ⟨nt, hnt⟩ : ∃ x, TV.length = x := ⟨_, rfl⟩
    have HNT := Lib.hid hnt
    rw [hnt] at HTU
    obtain ⟨kt, kfs, km, ku⟩ := K
    obtain ⟨ot, ofs, om, ou⟩ := O
    simp only at HTU HKC HGC hk50 hln
    obtain ⟨nf, hnf⟩ : ∃ x, kfs.length = x := ⟨_, rfl⟩
    obtain ⟨no, hno⟩ : ∃ x, ofs.length = x := ⟨_, rfl⟩
    rw [hnf] at HTU HKC hk50 hln
    rw [hno] at HTU HGC
    clear hnf hno hnt hTV hLN
    obtain ⟨ab, ao, rfl, -, -, -, -, -⟩ := HKC.out _ HO3.out.bel
    obtain ⟨bb, bo, rfl, -, -, -, -, -⟩ := HGC.out _ HO3.out.bel
    have HSB := Lib.hid (show ∀ wx, Below w3'.heap.size w3' wx -> (fun w' : World => w'.cell? ⟨w.heap.size, 0, none⟩ = some (.int .u8 fm) /\ w'.cell? ⟨w.heap.size, 1, none⟩ = some (.int .u8 fq) /\ w'.cell? ⟨w.heap.size, 2, none⟩ = some (.slice (some ⟨ab, ao, none⟩) nk cp) /\ w'.cell? ⟨w.heap.size, 3, none⟩ = some (.string fd) /\ w'.cell? ⟨w.heap.size, 4, none⟩ = some (.string ft) /\ w'.cell? ⟨w.heap.size, 5, none⟩ = some (.string fc) /\ w'.cell? ⟨w.heap.size, 6, none⟩ = some (.string fs0) /\ w'.cell? ⟨w.heap.size + 1, 2, none⟩ = some (.slice (some ⟨bb, bo, none⟩) ng cq) /\ w'.cell? ⟨ab, ao + k * 4, none⟩ = some (.string kt) /\ w'.cell? ⟨ab, ao + k * 4 + 1, none⟩ = some (.slice KA nf KC) /\ w'.cell? ⟨ab, ao + k * 4 + 2, none⟩ = some (.int .i64 km) /\ w'.cell? ⟨ab, ao + k * 4 + 3, none⟩ = some (.string ku) /\ w'.cell? ⟨bb, bo + k' * 4, none⟩ = some (.string ot) /\ w'.cell? ⟨bb, bo + k' * 4 + 1, none⟩ = some (.slice OA no OC) /\ w'.cell? ⟨bb, bo + k' * 4 + 2, none⟩ = some (.int .i64 om) /\ w'.cell? ⟨bb, bo + k' * 4 + 3, none⟩ = some (.string ou) /\ w'.cell? ⟨rb, 0, none⟩ = some (.string rt) /\ w'.cell? ⟨rb, 1, none⟩ = some (.slice RJ nv CJ)) wx from fun wx h => by
     have h2 := below_then h HO3.out.bel HO3.out.bel.size
     obtain ⟨q1, q2, -⟩ := HW.out _ h2
     obtain ⟨⟨p0, p1, p2, p3, p4, p5, p6⟩, -⟩ := obox7 q1
     obtain ⟨⟨-, -, u2, -, -, -, -⟩, -⟩ := obox7 q2
     obtain ⟨r0, r1, -, -, -⟩ := box2 (heap_below HRD3.out h)
     obtain ⟨b2, o2, h3, -, x0, x1, x2, x3⟩ := HKC.out wx h2
     obtain ⟨b4, o4, h4, -, y0, y1, y2, y3⟩ := HGC.out wx h2
     injection h3 with h3
     injection h3 with h5 h6
     injection h4 with h4
     injection h4 with h7 h8
     subst h5 h6 h7 h8
     exact ⟨p0, p1, p2, p3, p4, p5, p6, u2, x0, x1, x2, x3, y0, y1, y2, y3, r0, r1⟩)
    have HQB := Lib.hid (show ∀ wx, Below w3'.heap.size w3' wx -> Below w1.heap.size w1 wx from fun wx h => below_then h HO3.out.bel HO3.out.bel.size)
    have HQK := Lib.hid (show ∀ wx, Below w3'.heap.size w3' wx -> Kinds wx (some ⟨ab, ao, none⟩) fks FA FC from fun wx h => (HW.out wx (HQB.out wx h)).2.2.1)
    have a1 : (0 : Int) <= (k : Int) := by omega
    have a2 : (k : Int) < (nk : Int) := by omega
    have a3 : (0 : Int) <= (k' : Int) := by omega
    have a4 : (k' : Int) < (ng : Int) := by omega
    clear HKA1 HKC HGC HCK HCG HRJ HRK
    go_upto_region 20 with fail
    go_cut [17, 18] (fun v t wx => ∃ NB, v = .pointer (some ⟨NB, 0, none⟩) /\ t = .int .i64 (LN : Nat) /\ Hid (NewSt w1 wx NB ⟨rt, TV⟩ nt X n c ((rs.take j).flatMap TO)))
    case first =>
     go_region_held3 (fun w' : World => w'.cell? ⟨w.heap.size, 0, none⟩ = some (.int .u8 fm) /\ w'.cell? ⟨w.heap.size, 1, none⟩ = some (.int .u8 fq) /\ w'.cell? ⟨w.heap.size, 2, none⟩ = some (.slice (some ⟨ab, ao, none⟩) nk cp) /\ w'.cell? ⟨w.heap.size, 3, none⟩ = some (.string fd) /\ w'.cell? ⟨w.heap.size, 4, none⟩ = some (.string ft) /\ w'.cell? ⟨w.heap.size, 5, none⟩ = some (.string fc) /\ w'.cell? ⟨w.heap.size, 6, none⟩ = some (.string fs0) /\ w'.cell? ⟨w.heap.size + 1, 2, none⟩ = some (.slice (some ⟨bb, bo, none⟩) ng cq) /\ w'.cell? ⟨ab, ao + k * 4, none⟩ = some (.string kt) /\ w'.cell? ⟨ab, ao + k * 4 + 1, none⟩ = some (.slice KA nf KC) /\ w'.cell? ⟨ab, ao + k * 4 + 2, none⟩ = some (.int .i64 km) /\ w'.cell? ⟨ab, ao + k * 4 + 3, none⟩ = some (.string ku) /\ w'.cell? ⟨bb, bo + k' * 4, none⟩ = some (.string ot) /\ w'.cell? ⟨bb, bo + k' * 4 + 1, none⟩ = some (.slice OA no OC) /\ w'.cell? ⟨bb, bo + k' * 4 + 2, none⟩ = some (.int .i64 om) /\ w'.cell? ⟨bb, bo + k' * 4 + 3, none⟩ = some (.string ou) /\ w'.cell? ⟨rb, 0, none⟩ = some (.string rt) /\ w'.cell? ⟨rb, 1, none⟩ = some (.slice RJ nv CJ))
      (first | (with_reducible exact HSB.out _ T4) | (with_reducible exact HSB.out _ (T4.alloc T4.size _)) | (with_reducible exact HSB.out _ T3) | (with_reducible exact HSB.out _ (T3.alloc T3.size _)) | (exact HSB.out _ ((T4.setCell (p := ⟨w4'.heap.size, 0, none⟩) T3.size _).setCell (p := ⟨w4'.heap.size, 1, none⟩) T3.size _)) | (exact HSB.out _ ((T4.setCell (p := ⟨w3'.heap.size, 0, none⟩) (Nat.le_refl _) _).setCell (p := ⟨w3'.heap.size, 1, none⟩) (Nat.le_refl _) _)) | (refine HSB.out _ ?_; go_grown))
      (first
       | (go_at_call 27; refine (HKAJ.out _ (HQK.out _ (by go_grown))).mono ?_; rintro e w4' ⟨rfl, hb4'⟩; (have T3 : Below w3'.heap.size w3' w4' := below_then hb4' (by go_grown) (by first | exact Nat.le_refl _ | (simp only [World.size_alloc, World.size_drew]; omega))); (first | (have hN3 := news1d hb4'; obtain ⟨y0, y1, y2, y3, y4⟩ := box2 hN3) | skip))
       | (go_at_call 28; refine (HTU.out _ (HQB.out _ (by first | exact T3 | exact T3.alloc T3.size _ | exact T3.drew | exact (T3.alloc T3.size _).drew))).mono ?_; rintro e w5' ⟨XT, ct, rfl, hown, hb5'⟩; (have T4 : Below w3'.heap.size w3' w5' := by first | exact below_then hb5' T3 T3.size | exact below_then hb5' (T3.alloc T3.size _) (T3.alloc T3.size _).size); (first | (have hN4 := heap_below hN3 hb5'; obtain ⟨z0, z1, z2, z3, z4⟩ := box2 hN4) | (have hN4 := news1 hb5'; obtain ⟨z0, z1, z2, z3, z4⟩ := box2 hN4) | skip)))
     all_goals
      go_wp2_with fail
      go_meet
      first
       | exact ⟨w5'.heap.size, rfl, rfl, Lib.hid (NewSt.late (r := ⟨rt, TV⟩) HO3.out T4 hown HNT.out HTVS.out HTAG.out)⟩
       | exact ⟨w4'.heap.size, rfl, rfl, Lib.hid (NewSt.store (r := ⟨rt, TV⟩) HO3.out T4 T3.size hN4 hown HNT.out HTVS.out HTAG.out)⟩
       | exact ⟨w3'.heap.size, rfl, rfl, Lib.hid (NewSt.store (r := ⟨rt, TV⟩) HO3.out T4 (Nat.le_refl _) hN4 hown HNT.out HTVS.out HTAG.out)⟩
    case rest =>
    clear HSB HQB HQK HTU HKAJ
    obtain ⟨NB, rfl, rfl, HNS⟩ := hcut
    obtain ⟨XT, ct, g5, g6, g7⟩ := HNS.out
    have HN8 := Lib.hid g5; have HO8 := Lib.hid g6; have HRS8 := Lib.hid g7
    simp only at HN8
    obtain ⟨r0, r1, -, -, -⟩ := box2 HN8.out
    have hz8 := HO8.out.bel.size
    obtain ⟨RA8, RC8, g1, g2, g3, g4⟩ := HO8.out
    have G1 := Lib.hid g1; have G2 := Lib.hid g2; have G3 := Lib.hid g3; have G4 := Lib.hid g4
    clear g1 g2 g3 g4 g5 g6 g7 HO8 HNS HO3 HRD3
    go_upto_region 22 with (at_builtin; refine wpList_zpush rfl _ _ 25 rfl w1.heap.size 49 i0 (.agg #[.string ⟨#[]⟩, .slice none 0 0]) 2 40 Tryz.underlying25 hi hz0 hz1 hz2 rfl (by decide) (.slice X n c) n (rowsC 2 n (rowV ((rs.take j).flatMap TO) RA8 RC8)) rfl G2.out [.string rt, .slice XT nt ct] rfl rfl (by intro u hu; simp at hu; rcases hu with rfl | rfl <;> rfl) (by unfold maxLen; omega) (by omega) hz8 ?_; intro X9 c9 w9 hown9 hg9)
    have HO9 := Lib.hid (show RwsO w1 w9 X9 (n + 1) c9 ((rs.take (j + 1)).flatMap TO) by
     rw [HNX.out, HN1.out]
     refine RwsO.push G1.out G2.out G3.out G4.out HRS8.out ?_ hg9
     unfold rwL
     simp only
     rw [HNT.out]
     exact hown9)
    have HN3 := Lib.hid (show TL (j + 1) = TL j + LN by rw [HTLN.out, HN2.out])
    clear r0 r1 hown9 hg9 G1 G2 G3 G4 HN8 HRS8
    go_wp2
    go_roundw
    case rel => first | exact ⟨j + 1, X9, n + 1, c9, by omega, by go_num, rfl, by rw [HN3.out]; go_num, by omega, HO9⟩ | ((repeat apply Exists.intro); exact ⟨⟨j + 1, X9, n + 1, c9, by omega, by go_num, rfl, by rw [HN3.out]; go_num, by omega, HO9⟩, rfl⟩)
    case measure => simp [intOf]; omega
   ·obtain rfl : j = nr := by omega
    have hl := HO.out.len
    rw [show rs.take j = rs by rw [<- HNR.out, List.take_length], <- HTR.out] at hl
    obtain ⟨RA9, RC9, hrm⟩ := HO.out.rowsM
    rw [show rs.take j = rs by rw [<- HNR.out, List.take_length], <- HTR.out] at hrm
    have HRM := Lib.hid hrm
    have HHL := Lib.hid hl
    obtain ⟨q1, q2, qk, qg, ql, qt, qb⟩ := HW.out _ HBW.out
    obtain ⟨⟨p0, p1, p2, p3, p4, p5, p6⟩, -⟩ := obox7 q2
    have HCC := Lib.hid (HCR2.out X c TR RA9 RC9 _ qg HRM.out qt)
    rw [hl] at HCC
    have QB := Lib.hid qb
    generalize rowsF ⟨gm, gq, gks, gd, gt, gc, gs⟩ TR = CE at HCC HR4
    obtain ⟨ci, ce⟩ := CE
    simp only at HCC HR4
    clear hl hrm q1 q2 qk qg ql qt qb
    go_wp2_with fail
    refine HCC.out.mono ?_
    rintro _ w9 ⟨rfl, hb9⟩
    have HQ9 := Lib.hid (below_then hb9 QB.out QB.out.size)
    have HRM9 := Lib.hid (HRM.out.below hb9)
    clear p0 p1 p2 p3 p4 p5 p6 hb9 QB HRM HCC
    by_cases hce : ce = 0
    ·subst hce
     have HE := Lib.hid (show R = (TR, TL j, 0) from HR4.out.symm.trans (if_neg (fun h => h rfl)))
     go_wp2
     go_ret3
     rw [HE.out]
     exact ⟨X, c, by rw [HHL.out]; rfl, ⟨RA9, RC9, HRM9.out⟩, HQ9.out⟩
    ·have HE := Lib.hid (show R = ([], 0, ce) from HR4.out.symm.trans (if_pos hce))
     have he2 : (ce != 0) = true := by simpa using hce
     have he3 : ¬ ce = 0 := hce
     clear hce
     go_wp2
     go_ret3
     rw [HE.out]
     exact RetTd.no HQ9.out
end Go.Proofs.YtaiabjiehpcaoaaGreatDoor
