
/- The walks of the program's isValue and written. (Printed by genV2.py.) -/
import Derived.Test.YtbnjejenejoibaaGreatDoorV1
import Derived.Test.YtbnjejenejoibaaGreatDoorT14
import Derived.Test.YtbnjejenejoibaaGreatDoorUN
import Derived.Test.YtbnjejenejoibaaGreatDoorF7
import Derived.Laws.StructEq
namespace Go.Proofs.YtbnjejenejoibaaGreatDoor
open Go.RowKit Limb Nmb Work
set_option linter.unusedVariables false
set_option linter.unusedSimpArgs false
theorem trim_blank (s : ByteArray) (w : World) (hs : s.size <= 9223372036854775807) : Calls Tryz.prog 114 #[.string s, .string ⟨#[32]⟩] w fun e w' => e = .returned (.string (bs (Lib.trimS s.data.toList [32]))) /\ Below w.heap.size w w' :=
 Tryz.strings_Trim_laid s ⟨#[32]⟩ w hs (by decide) (ascii_of_all (by decide))
set_option maxHeartbeats 2000000 in
set_option maxRecDepth 100000 in
theorem readday1w_c (s : ByteArray) (pv : Int) (w : World) (hs : s.size <= 9223372036854775807) (hpv : 1 <= pv /\ pv <= 9900) :
  Calls Tryz.prog 240 #[.string s, .int .i64 1, .int .i64 pv] w (RetO (readO 1 pv s.data.toList) w) := by
 obtain ⟨p1, p2⟩ := hpv
 have hT := row3 w 4 2 2 3
 obtain ⟨O, hO⟩ : ∃ O, readO 1 pv s.data.toList = O := ⟨_, rfl⟩
 rw [hO]
 rw [readO_1] at hO
 have HP := Lib.hid (parts_c s [4, 2, 2] w.heap.size 3 (w.alloc (.cells #[.int .i64 (4 : Nat), .int .i64 (2 : Nat), .int .i64 (2 : Nat)] 3)) (by omega) (widths3 (by decide) (by decide) (by decide)) (by decide) (by simp) hT)
 clear hT
 have hal : Below w.heap.size w (w.alloc (.cells #[.int .i64 (4 : Nat), .int .i64 (2 : Nat), .int .i64 (2 : Nat)] 3)) := by go_grown
 have HAL := Lib.hid hal
 clear hal
 cases hp : prt [4, 2, 2] s.data.toList with
 | none =>
  rw [hp] at HP hO
  have HO := Lib.hid (show O = none from hO.symm)
  clear hp hO
  go_enter Tryz.func240, Tryz.ntmps240
  go_wp2_with fail
  refine HP.out.mono ?_
  rintro e w1 ⟨v, rfl, hb1, -⟩
  have hbb := below_then hb1 HAL.out (by simp)
  go_wp2
  go_ret2
  rw [HO.out]
  exact retO_none rfl hbb
 | some xs =>
  obtain ⟨x, y, z, rfl, bx, by_, bz, bz2, by2, bz1⟩ := prt_three (by decide) hp
  obtain ⟨bx0, bx9⟩ := bx (by decide)
  obtain ⟨by0, by9⟩ := by_ (by decide)
  obtain ⟨bz0, bz9⟩ := bz (by decide)
  clear bx by_ bz bz2 by2 bz1
  rw [hp] at HP hO
  have HO := Lib.hid (show O = dayO x y z from hO.symm)
  clear hp hO
  have HC := Lib.hid (fun w => dayof_c x y z w ⟨by omega, by omega⟩)
  go_enter Tryz.func240, Tryz.ntmps240
  go_wp2_with fail
  refine HP.out.mono ?_
  rintro e w1 ⟨v, rfl, hb1, hv⟩
  obtain ⟨g, c, rfl, hcl⟩ := hv _ rfl (by simp)
  have c0 := hcl 0 (by simp)
  have c1 := hcl 1 (by simp)
  have c2 := hcl 2 (by simp)
  dsimp only [List.getElem_cons_zero, List.getElem_cons_succ, List.length_cons, List.length_nil] at c0 c1 c2
  have hg : g < w1.heap.size := World.block_lt_of_cell? _ _ c0
  have hbb := below_then hb1 HAL.out (by simp)
  clear hcl hv hb1
  go_wp2_with fail
  go_region_held3 (fun w' => w'.cell? ⟨g, 0, none⟩ = some (.int .i64 x) /\ w'.cell? ⟨g, 1, none⟩ = some (.int .i64 y) /\ w'.cell? ⟨g, 2, none⟩ = some (.int .i64 z)) (first | exact ⟨c0, c1, c2⟩ | exact ⟨(hb2.cell (p := ⟨g, 0, none⟩) hg).trans c0, (hb2.cell (p := ⟨g, 1, none⟩) hg).trans c1, (hb2.cell (p := ⟨g, 2, none⟩) hg).trans c2⟩ | (go_keep; done)) (first | (go_at_call 271; (with_reducible refine (HC.out _).mono ?_); rintro e w2 ⟨rfl, hb2⟩))
  go_wp2
  go_ret2
  rw [HO.out]
  exact retO_day (below_then hb2 hbb.drew hbb.size)
theorem readlong_c (s : ByteArray) (w : World) (hs : s.size <= 9223372036854775807) :
  Calls Tryz.prog 200 #[.string s, .int .i64 1, .int .i64 1] w (RetNF (rdN 1 1 s.data.toList) (rdF 1 1 s.data.toList) w) := by
  have HF := Lib.hid (show formB 1 = true by decide)
  have hp : (1 : Int) <= 1 /\ (1 : Int) <= 9900 := by decide
  unfold rdN rdF
  rw [HF.out, if_pos ⟨rfl, hp⟩, if_neg (by simp), if_neg (fun h => h hp)]
  have HR := Lib.hid (fun w => readday1w_c s 1 w hs (by decide))
  cases ho : readO 1 1 s.data.toList with
  | none =>
   rw [ho] at HR
   clear ho
   go_enter Tryz.func200, Tryz.ntmps200
   go_wp2_with fail
   refine (isform_c _ _).mono ?_
   rw [HF.out]
   rintro e w1 ⟨rfl, rfl⟩
   go_wp2_with fail
   refine (out_no _ _ _ _ hp).mono ?_
   rintro e w1 ⟨rfl, rfl⟩
   go_wp2_with fail
   refine (HR.out _).mono ?_
   rintro e w1 ⟨n, rfl, -, hb⟩
   go_wp2
   go_ret2
   exact ⟨rfl, hb⟩
  | some v =>
   rw [ho] at HR
   clear ho
   go_enter Tryz.func200, Tryz.ntmps200
   go_wp2_with fail
   refine (isform_c _ _).mono ?_
   rw [HF.out]
   rintro e w1 ⟨rfl, rfl⟩
   go_wp2_with fail
   refine (out_no _ _ _ _ hp).mono ?_
   rintro e w1 ⟨rfl, rfl⟩
   go_wp2_with fail
   refine (HR.out _).mono ?_
   rintro e w1 ⟨n, rfl, hn, hb⟩
   obtain rfl := hn _ rfl
   clear hn
   go_wp2
   go_ret2
   exact ⟨rfl, hb⟩
theorem rd_long (l : List UInt8) : decide (rdF 1 1 l = 0) = dayOk l /\ rdN 1 1 l = dayN 1 l := by
 have hf : formB 1 = true := by decide
 have hp : (1 : Int) <= 1 /\ (1 : Int) <= 9900 := by decide
 have a : rdF 1 1 l = if (readO 1 1 l).isSome = true then 0 else 10 := by unfold rdF; rw [hf, if_neg (by simp), if_neg (fun h => h hp)]
 have b : rdN 1 1 l = (readO 1 1 l).getD 0 := by unfold rdN; rw [hf, if_pos ⟨rfl, hp⟩]
 refine ⟨?_, b⟩
 rw [a]
 unfold dayOk
 cases (readO 1 1 l).isSome <;> rfl
theorem rd_longF (l : List UInt8) : (rdF 1 1 l == 0) = dayOk l := by
 rw [<- (rd_long l).1]
 rfl
theorem eql_dec (a b c d : Int) (w : World) : (binOp .eql 106 (.agg #[.int .i64 a, .int .i64 b]) (.agg #[.int .i64 c, .int .i64 d])).run Tryz.prog w = .ok (.bool (decide ((a, b) = (c, d)))) w := by
 have u3 := Tryz.underlying3
 have a3 := Tryz.isAgg3
 have z3 := Tryz.sizeOf3
 have hS : Tryz.prog.underlying 106 = some (.struct (Tryz.prog.fieldsOf 106)) := by kernel_rfl
 have hp : Tryz.prog.stoodInHeld 106 = false := by kernel_rfl
 rw [run_eql_struct, show (10000 : Nat) = 9999 + 1 from rfl, run_equalIn_agg w 9999 106 _ _ hS hp]
 simp only [Program.fieldsOf, Tryz.underlying106]
 go_simp
 by_cases h1 : a = c <;> by_cases h2 : b = d <;> simp [h1, h2]
theorem grd_dec (op : BinOp) (x y : Operand) (xs ys : Array Value) (w : World) : (eqGuard op 106 x y (.agg xs) (.agg ys)).run Tryz.prog w = .ok () w := run_eqGuard_agg w op _ x y xs ys (by kernel_rfl)
set_option maxHeartbeats 2000000 in
set_option maxRecDepth 100000 in
theorem isvalue_c (c : Col) (s : ByteArray) (w : World) (hs : s.size <= 9223372036854775807) :
  Calls Tryz.prog 148 #[colG c, .string s] w (RetB (valOk c s.data.toList) w) := by
 obtain ⟨nm, kd, wd, pl, fm, rt, fl, nd⟩ := c
 unfold colG valOk
 simp only
 have hX := heap_new w (.cells #[.string nm, .int .i64 kd, .int .i64 wd, .int .i64 pl, .int .i64 fm, .bool rt, .int .u8 fl, .bool nd] 85) rfl
 have hB0 : Below w.heap.size w (w.alloc (.cells #[.string nm, .int .i64 kd, .int .i64 wd, .int .i64 pl, .int .i64 fm, .bool rt, .int .u8 fl, .bool nd] 85)) := by go_grown
 by_cases h2 : kd = 2
 ·subst h2
  rw [if_pos rfl]
  have HR := Lib.hid (fun w => readtext_c s w hs)
  obtain ⟨⟨u, p, e⟩, hr⟩ : ∃ x, readText s.data.toList = x := ⟨_, rfl⟩
  have hC := dec_cases pl s.data.toList
  rw [hr] at HR hC
  simp only at hC
  have HO := Lib.hid hC
  clear hr hC
  unfold RetD at HR
  rcases HO.out with ⟨h1, h3⟩ | ⟨h1, q, h3, h4, h5⟩
  ·rw [h3]
   have h1' : (e == 0) = false := beq_eq_false_iff_ne.2 h1
   clear h1 h3
   go_enter Tryz.func148, Tryz.ntmps148
   go_wp2_with fail
   refine (HR.out _).mono ?_
   rintro e w1 ⟨rfl, hb1⟩
   have hX1 := heap_below hX hb1
   have hB1 := below_then hb1 hB0 hB0.size
   obtain ⟨⟨x0, x1, x2, x3, x4, x5, x6, x7⟩, x8⟩ := obox8 hX1
   clear hX hX1 hb1
   have hBD : Below w.heap.size w (w1.alloc (.cells #[.int .i64 u, .int .i64 p] 106)) := by go_grown
   go_wp2
   go_quiet (fail)
   go_wp2
   go_ret
   exact ⟨rfl, below_drewN hBD _⟩
  ·subst h1
   subst h3
   rw [h5]
   have HL := Lib.hid (fun w => least_c u q w h4)
   unfold RetLe at HL
   obtain ⟨⟨v, r⟩, hv⟩ : ∃ x, leastF u q = x := ⟨_, rfl⟩
   rw [hv] at HL ⊢
   clear h5 hv h4
   go_enter Tryz.func148, Tryz.ntmps148
   go_wp2_with fail
   refine (HR.out _).mono ?_
   rintro e w1 ⟨rfl, hb1⟩
   have hX1 := heap_below hX hb1
   have hB1 := below_then hb1 hB0 hB0.size
   obtain ⟨⟨x0, x1, x2, x3, x4, x5, x6, x7⟩, x8⟩ := obox8 hX1
   have HX1 := Lib.hid hX1
   clear hX hb1
   have hD := heap_new w1 (.cells #[.int .i64 u, .int .i64 (q : Int)] 106) rfl
   have hX2 := heap_old HX1.out (.cells #[.int .i64 u, .int .i64 (q : Int)] 106)
   have hBD : Below w.heap.size w (w1.alloc (.cells #[.int .i64 u, .int .i64 (q : Int)] 106)) := by go_grown
   clear x0 x1 x2 x3 x4 x5 x6 x7 x8 hX1 HX1
   go_upto_region 4 with fail
   obtain ⟨D, hDD⟩ : ∃ D, w1.heap.size = D := ⟨_, rfl⟩
   rw [hDD] at hD ⊢
   have hwD : w.heap.size <= D := by have := hB1.size; omega
   generalize w1.alloc (.cells #[.int .i64 u, .int .i64 (q : Int)] 106) = w2 at hD hX2 hBD ⊢
   obtain ⟨⟨x0, x1, x2, x3, x4, x5, x6, x7⟩, x8⟩ := obox8 hX2
   obtain ⟨d0, d1, -, -, d2⟩ := box2 hD
   clear hX2 hD hB1 hDD
   by_cases hqp : (q : Int) <= pl
   case neg =>
    have hp2 : decide ((q : Int) <= pl) = false := decide_eq_false hqp
    rw [hp2]
    go_quiet (fail)
    go_wp2
    go_ret
    exact ⟨rfl, below_drewN hBD _⟩
   have hp2 : decide ((q : Int) <= pl) = true := decide_eq_true hqp
   rw [hp2]
   have hQ1 := eql_dec v r u q
   have hQ2 := grd_dec
   obtain ⟨B, hBB⟩ : ∃ B, decide ((v, r) = (u, (q : Int))) = B := ⟨_, rfl⟩
   have HBB := Lib.hid (show (decide ((q : Int) <= pl) && decide ((v, r) = (u, (q : Int)))) = B by rw [hp2, hBB]; rfl)
   rw [hBB] at hQ1
   clear hBB
   go_region_held3 (fun w' => w'.cell? ⟨D, 0, none⟩ = some (.int .i64 u) /\ w'.cell? ⟨D, 1, none⟩ = some (.int .i64 (q : Int)) /\ w'.cell? ⟨w.heap.size, 3, none⟩ = some (.int .i64 pl)) (first | exact ⟨d0, d1, x3⟩ | exact ⟨(hb3.cell (p := ⟨D, 0, none⟩) d2).trans d0, (hb3.cell (p := ⟨D, 1, none⟩) d2).trans d1, (hb3.cell (p := ⟨w.heap.size, 3, none⟩) x8).trans x3⟩ | (go_keep; done)) (first | (go_at_call 199; (with_reducible refine (HL.out _).mono ?_); rintro e w3 ⟨rfl, hb3⟩))
   have hB3 := below_then hb3 hBD.drew hBD.size
   go_wp2
   go_ret
   exact ⟨by rw [HBB.out]; rfl, hB3⟩
 ·rw [if_neg h2]
  have k2 : (kd == 2) = false := beq_eq_false_iff_ne.2 h2
  clear h2
  by_cases h3 : kd = 3
  ·subst h3
   rw [if_pos rfl]
   have HR := Lib.hid (fun w => readlong_c s w hs)
   have hf := rd_longF s.data.toList
   unfold RetNF at HR
   generalize rdN 1 1 s.data.toList = N at HR
   generalize rdF 1 1 s.data.toList = F at HR hf
   generalize dayOk s.data.toList = D at hf
   go_enter Tryz.func148, Tryz.ntmps148
   go_wp2_with fail
   refine (HR.out _).mono ?_
   rintro e w1 ⟨rfl, hb1⟩
   have hB1 := below_then hb1 hB0 hB0.size
   go_wp2
   go_ret
   exact ⟨rfl, hB1⟩
  ·rw [if_neg h3]
   have k3 : (kd == 3) = false := beq_eq_false_iff_ne.2 h3
   clear h3
   have HI : Hid (∀ w, Calls Tryz.prog 131 #[.string s, .int .u8 32, .int .u8 126] w fun e w' => w = w' /\ e = .returned (.bool (inL s.data.toList 32 126))) := Lib.hid (fun w => inb_c s 32 126 w hs)
   have HT := Lib.hid (fun w => trim_blank s w hs)
   unfold txtOk
   have hd : decide (Lib.trimS s.data.toList [32] = s.data.toList) = ((bs (Lib.trimS s.data.toList [32])).toList == s.toList) := by
    rw [Lib.toList_data, Lib.toList_data, bs_toList, Bool.eq_iff_iff, decide_eq_true_iff, beq_iff_eq]
   rw [hd]
   generalize bs (Lib.trimS s.data.toList [32]) = t at HT
   cases hi : inL s.data.toList 32 126 with
   | false =>
    rw [hi] at HI
    clear hi hd
    go_enter Tryz.func148, Tryz.ntmps148
    go_wp2_with fail
    refine (HI.out _).mono ?_
    rintro e w1 ⟨rfl, rfl⟩
    go_wp2
    go_ret
    exact ⟨rfl, hB0⟩
   | true =>
    rw [hi] at HI
    clear hi hd
    go_enter Tryz.func148, Tryz.ntmps148
    go_wp2_with fail
    refine (HI.out _).mono ?_
    rintro e w1 ⟨rfl, rfl⟩
    go_wp2_with fail
    refine (HT.out _).mono ?_
    rintro e w2 ⟨rfl, hb2⟩
    have hB2 := below_then hb2 hB0 hB0.size
    go_wp2
    go_ret
    exact ⟨rfl, hB2⟩
theorem daytext_c (v fm : Int) (w : World) (hv : 1 <= v /\ v <= 3652059) (hf : formB fm = true) (ht : Tab w) : Calls Tryz.prog 202 #[.int .i64 v, .int .i64 fm] w (RetSF (dayS fm v) 0 w) :=
 DayText_ok v fm _ _ _ _ _ _ w hf hv.1 hv.2 (dateC_is hv) (dateC_is (thu_bd hv.1 hv.2)) ht
set_option maxHeartbeats 2000000 in
set_option maxRecDepth 100000 in
theorem written_c (f : Fmt) (A : Option Addr) (n cp : Nat) (c : Col) (s : ByteArray) (w : World) (hs : s.size <= 9223372036854775807) (hv : s ≠ ⟨#[]⟩ -> valOk c s.data.toList = true) (hk : ColK f.mark c) (ht : Tab w) :
  Calls Tryz.prog 149 #[.agg #[.int .u8 f.mark, .int .u8 f.quote, .slice A n cp, .string f.head, .string f.tail, .string f.count, .string f.sum], colG c, .string s] w (RetS (wrS f.mark c s) w) := by
 obtain ⟨m, q, ks, hd, tl, ct, sm⟩ := f
 obtain ⟨-, -, hpl, hfo, -, -, -⟩ := hk
 obtain ⟨nm, kd, wd, pl, fm, rt, fl, nd⟩ := c
 unfold colG
 simp only at *
 have hF := heap_old (heap_new w (.cells #[.int .u8 m, .int .u8 q, .slice A n cp, .string hd, .string tl, .string ct, .string sm] 24) rfl) (.cells #[.string nm, .int .i64 kd, .int .i64 wd, .int .i64 pl, .int .i64 fm, .bool rt, .int .u8 fl, .bool nd] 85)
 have hC := heap_new (w.alloc (.cells #[.int .u8 m, .int .u8 q, .slice A n cp, .string hd, .string tl, .string ct, .string sm] 24)) (.cells #[.string nm, .int .i64 kd, .int .i64 wd, .int .i64 pl, .int .i64 fm, .bool rt, .int .u8 fl, .bool nd] 85) (g := w.heap.size + 1) (by simp)
 have hB0 : Below w.heap.size w ((w.alloc (.cells #[.int .u8 m, .int .u8 q, .slice A n cp, .string hd, .string tl, .string ct, .string sm] 24)).alloc (.cells #[.string nm, .int .i64 kd, .int .i64 wd, .int .i64 pl, .int .i64 fm, .bool rt, .int .u8 fl, .bool nd] 85)) := by go_grown
 obtain ⟨⟨f0, f1, f2, f3, f4, f5, f6⟩, f7⟩ := obox7 hF
 obtain ⟨⟨x0, x1, x2, x3, x4, x5, x6, x7⟩, x8⟩ := obox8 hC
 have g1 := emp_dec s
 by_cases h0 : s = ⟨#[]⟩
 ·have HE := Lib.hid (show wrS m ⟨nm, kd, wd, pl, fm, rt, fl, nd⟩ s = ⟨#[]⟩ from if_pos h0)
  rw [decide_eq_true h0] at g1
  clear h0 hv hpl hfo
  go_enter Tryz.func149, Tryz.ntmps149
  go_wp2
  go_ret
  exact ⟨by rw [HE.out]; rfl, hB0⟩
 have hv := hv h0
 rw [decide_eq_false h0] at g1
 have HTB := Lib.hid (ht.below hB0)
 clear ht
 by_cases h2 : kd = 2
 ·subst h2
  by_cases hm : m = 0
  ·subst hm
   have HE := Lib.hid (show wrS 0 ⟨nm, 2, wd, pl, fm, rt, fl, nd⟩ s = bs (sdig (scaled (readText s.data.toList).1 (readText s.data.toList).2.1 pl.toNat)) by unfold wrS; rw [if_neg h0, if_pos ⟨rfl, rfl⟩])
   have HR := Lib.hid (fun w => readtext_c s w hs)
   have hvv : decOk pl s.data.toList = true := by unfold valOk at hv; simpa using hv
   obtain ⟨p1, p2⟩ := hpl rfl
   obtain ⟨k, rfl⟩ : ∃ k : Nat, pl = (k : Int) := ⟨pl.toNat, by omega⟩
   rcases dec_cases (k : Int) s.data.toList with ⟨h1, h3⟩ | ⟨h1, qn, h3, h4, h5⟩
   ·rw [hvv] at h3; cases h3
   rw [h5] at hvv
   simp only [Bool.and_eq_true, decide_eq_true_eq] at hvv
   obtain ⟨u, hu⟩ : ∃ u, (readText s.data.toList).1 = u := ⟨_, rfl⟩
   have hr : readText s.data.toList = (u, (qn : Int), 0) := by rw [<- hu, <- h3, <- h1]
   rw [hr] at HE HR
   rw [hu] at h4
   unfold RetD at HR
   have HSC := Lib.hid (fun w => scaled_c u qn k w h4 (by omega) (by omega))
   have hbd := scaled_bound (u := u) (p := qn) (q := k) (by have := decB_out h4; omega) (by omega)
   simp only [Int.toNat_natCast] at HE
   generalize scaled u (qn : Int) k = z at HE HSC hbd
   have HZ := Lib.hid (show z.natAbs < 10 ^ 200 from Nat.lt_of_lt_of_le (show z.natAbs < 10 ^ 25 by omega) (Nat.pow_le_pow_right (by decide) (by decide)))
   clear hv hvv h0 hr h3 h4 h5 h1 hu hbd hpl hfo
   go_enter Tryz.func149, Tryz.ntmps149
   go_wp2_with fail
   refine (HR.out _).mono ?_
   rintro e w1 ⟨rfl, hb1⟩
   have hC1 := heap_below hC hb1
   have hB1 := below_then hb1 hB0 hB0.size
   obtain ⟨⟨x0, x1, x2, x3, x4, x5, x6, x7⟩, x8⟩ := obox8 hC1
   clear hF hC hC1 hb1 f0 f1 f2 f3 f4 f5 f6 f7
   have hBD : Below w.heap.size w (w1.alloc (.cells #[.int .i64 u, .int .i64 (qn : Int)] 106)) := by go_grown
   go_wp2_with fail
   refine (HSC.out _).mono ?_
   rintro e w2 ⟨sg, A2, n2, c2, rfl, hbig, hb2⟩
   have hB2 := below_then hb2 hBD hBD.size
   clear x0 x1 x2 x3 x4 x5 x6 x7 x8 hb2
   go_wp2_with fail
   refine (textz_c _ hbig HZ.out).mono ?_
   rintro e w3 ⟨rfl, hb3⟩
   have hB3 := below_then hb3 hB2 hB2.size
   go_wp2
   go_ret
   exact ⟨by rw [HE.out]; rfl, hB3⟩
  ·have HE := Lib.hid (show wrS m ⟨nm, 2, wd, pl, fm, rt, fl, nd⟩ s = s by unfold wrS; rw [if_neg h0, if_neg (fun h => hm h.2), if_neg (show ¬ (2 : Int) = 3 by decide)])
   have k0 : (m == 0) = false := beq_eq_false_iff_ne.2 hm
   clear hm h0 hv hpl hfo
   go_enter Tryz.func149, Tryz.ntmps149
   go_wp2
   go_ret
   exact ⟨by rw [HE.out]; rfl, hB0⟩
 have k2 : (kd == 2) = false := beq_eq_false_iff_ne.2 h2
 by_cases h3 : kd = 3
 ·subst h3
  have hvv : dayOk s.data.toList = true := by unfold valOk at hv; simpa using hv
  have HE := Lib.hid (show wrS m ⟨nm, 3, wd, pl, fm, rt, fl, nd⟩ s = dayS fm (dayN 1 s.data.toList) by unfold wrS; rw [if_neg h0, if_neg (fun h => h2 h.1), if_pos rfl])
  have HR := Lib.hid (fun w => readlong_c s w hs)
  obtain ⟨hfb, -⟩ := formB_of (hfo rfl)
  have hl := rd_long s.data.toList
  rw [hvv] at hl
  have hl1 := of_decide_eq_true hl.1
  obtain ⟨v, hvd⟩ : ∃ v, readO 1 1 s.data.toList = some v := Option.isSome_iff_exists.1 hvv
  have hvr := readO_day hvd
  have hdn : dayN 1 s.data.toList = v := by unfold dayN; rw [hvd]; rfl
  rw [hdn] at HE hl
  rw [hl1, hl.2] at HR
  unfold RetNF at HR
  have HD := Lib.hid (fun w ht => daytext_c v fm w hvr hfb ht)
  unfold RetSF at HD
  generalize dayS fm v = D at HE HD
  clear h0 hv hvv hl hl1 hvd hdn h2 hpl hfo
  go_enter Tryz.func149, Tryz.ntmps149
  go_wp2_with fail
  refine (HR.out _).mono ?_
  rintro e w1 ⟨rfl, hb1⟩
  have hC1 := heap_below hC hb1
  have hB1 := below_then hb1 hB0 hB0.size
  have HT1 := Lib.hid (HTB.out.below hb1)
  obtain ⟨⟨x0, x1, x2, x3, x4, x5, x6, x7⟩, x8⟩ := obox8 hC1
  clear hF hC hC1 hb1 f0 f1 f2 f3 f4 f5 f6 f7
  go_wp2_with fail
  refine (HD.out _ HT1.out).mono ?_
  rintro e w2 ⟨rfl, hb2⟩
  have hB2 := below_then hb2 hB1 hB1.size
  go_wp2
  go_ret
  exact ⟨by rw [HE.out]; rfl, hB2⟩
 ·have HE := Lib.hid (show wrS m ⟨nm, kd, wd, pl, fm, rt, fl, nd⟩ s = s by unfold wrS; rw [if_neg h0, if_neg (fun h => h2 h.1), if_neg h3])
  have k3 : (kd == 3) = false := beq_eq_false_iff_ne.2 h3
  clear h3 h2 h0 hv hpl hfo
  go_enter Tryz.func149, Tryz.ntmps149
  go_wp2
  go_ret
  exact ⟨by rw [HE.out]; rfl, hB0⟩
end Go.Proofs.YtbnjejenejoibaaGreatDoor
