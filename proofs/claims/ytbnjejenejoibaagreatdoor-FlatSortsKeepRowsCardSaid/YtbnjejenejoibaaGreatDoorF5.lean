
/- The walk of columnFault. (Printed by genF5.py.) -/
import Derived.Test.YtbnjejenejoibaaGreatDoorT5
namespace Go.Proofs.YtbnjejenejoibaaGreatDoor
open Go.RowKit Limb Nmb
set_option linter.unusedVariables false
set_option linter.unusedSimpArgs false
theorem fflip {P : Program} {f : FuncId} {args : Array Value} {w : World} {v : Value} (h : Calls P f args w fun e w' => w = w' /\ e = .returned v) : Calls P f args w fun e w' => e = .returned v /\ w' = w := h.mono fun _ _ h => ⟨h.2, h.1.symm⟩
theorem anyname_c (b : Nat) (k : Col) (B : Option Addr) (bc : Nat) (before : List Col) (w : World) (hB : Cols w B before) (hc : w.cell? ⟨b, 0, none⟩ = some (.string k.name)) :
  Calls Tryz.prog 143 #[.slice B before.length bc, .func (.func 144) #[] #[.pointer (some ⟨b, 0, none⟩)]] w
   fun e w' => e = .returned (.bool (before.any (nameIs k.name))) /\ Below w.heap.size w w' := by
 have hl := World.block_lt_of_cell? w _ hc
 exact anyc_of _ _ _ _ w w (ixF_any _ _) (Below.refl _ _) (ixc_c 144 (.pointer (some ⟨b, 0, none⟩)) (nameIs k.name) B bc before w hB (fun _ _ => by kernel_rfl)
  (fun j hj wr hb => cf1_c (cA before j) k b wr ((hb.cell (p := ⟨b, 0, none⟩) hl).trans hc)))
set_option maxHeartbeats 2000000 in
set_option maxRecDepth 100000 in
theorem colf_num (f : Fmt) (A : Option Addr) (c : Nat) (k : Col) (B : Option Addr) (bc : Nat) (before : List Col) (w0 : World) (hs : k.name.size <= 9223372036854775807) (hNm : before.length <= 9223372036854775807) (hB : Cols w0 B before) (hk : k.kind = 2) :
  Calls Tryz.prog 103 #[fmtG f A c, colG k, .slice B before.length bc] w0 (RetI (colF f.mark k before) w0) := by
 obtain ⟨m, q, ks, hd, tl, ct, sm⟩ := f
 obtain ⟨nm, kd, wd, pl, fo, ri, fi, ne⟩ := k
 unfold fmtG colG
 simp only at *
 subst hk
 have HN := Lib.hid (fun w => isname_c nm w hs)
 have HD := Lib.hid (fun w => idle_c ⟨m, q, ks, hd, tl, ct, sm⟩ A c ⟨nm, 2, wd, pl, fo, ri, fi, ne⟩ w)
 unfold fmtG colG at HD
 simp only at HD
 have HA := Lib.hid (fun w h1 h2 => anyname_c (w0.heap.size + 1) ⟨nm, 2, wd, pl, fo, ri, fi, ne⟩ B bc before w h1 h2)
 simp only at HA
 obtain ⟨NB, hNB⟩ : ∃ b, nameB nm.data.toList = b := ⟨_, rfl⟩
 obtain ⟨AB, hAB⟩ : ∃ b, before.any (nameIs nm) = b := ⟨_, rfl⟩
 obtain ⟨IB, hIB⟩ : ∃ b, idleB m ⟨nm, 2, wd, pl, fo, ri, fi, ne⟩ = b := ⟨_, rfl⟩
 obtain ⟨N, hN⟩ : ∃ n, before.length = n := ⟨_, rfl⟩
 obtain ⟨NK, hNK⟩ : ∃ n, List.length ks = n := ⟨_, rfl⟩
 rw [hNB] at HN
 rw [hAB] at HA
 rw [hIB] at HD
 rw [hN] at HA hNm ⊢
 rw [hNK] at HD ⊢
 have hNB := Lib.hid hNB; have hAB := Lib.hid hAB; have hIB := Lib.hid hIB
 have HBC := Lib.hid hB
 clear hB hN hNK
 go_enter Tryz.func103, Tryz.ntmps103
 go_wp2_with fail
 go_quiet (fail)
 have hF : (((w0.alloc (.cells #[.int .u8 m, .int .u8 q, .slice A NK c, .string hd, .string tl, .string ct, .string sm] 24)).alloc (.cells #[.string nm, .int .i64 2, .int .i64 wd, .int .i64 pl, .int .i64 fo, .bool ri, .int .u8 fi, .bool ne] 85)).drewN nq).heap[w0.heap.size]? = some (.cells #[.int .u8 m, .int .u8 q, .slice A NK c, .string hd, .string tl, .string ct, .string sm] 24 (0, 0)) := by exact heap_old (heap_new w0 (.cells #[.int .u8 m, .int .u8 q, .slice A NK c, .string hd, .string tl, .string ct, .string sm] 24) rfl) (.cells #[.string nm, .int .i64 2, .int .i64 wd, .int .i64 pl, .int .i64 fo, .bool ri, .int .u8 fi, .bool ne] 85)
 have hC : (((w0.alloc (.cells #[.int .u8 m, .int .u8 q, .slice A NK c, .string hd, .string tl, .string ct, .string sm] 24)).alloc (.cells #[.string nm, .int .i64 2, .int .i64 wd, .int .i64 pl, .int .i64 fo, .bool ri, .int .u8 fi, .bool ne] 85)).drewN nq).heap[w0.heap.size + 1]? = some (.cells #[.string nm, .int .i64 2, .int .i64 wd, .int .i64 pl, .int .i64 fo, .bool ri, .int .u8 fi, .bool ne] 85 (0, 0)) := by exact heap_new (w0.alloc (.cells #[.int .u8 m, .int .u8 q, .slice A NK c, .string hd, .string tl, .string ct, .string sm] 24)) (.cells #[.string nm, .int .i64 2, .int .i64 wd, .int .i64 pl, .int .i64 fo, .bool ri, .int .u8 fi, .bool ne] 85) (by simp)
 have hB1 : Below w0.heap.size w0 (((w0.alloc (.cells #[.int .u8 m, .int .u8 q, .slice A NK c, .string hd, .string tl, .string ct, .string sm] 24)).alloc (.cells #[.string nm, .int .i64 2, .int .i64 wd, .int .i64 pl, .int .i64 fo, .bool ri, .int .u8 fi, .bool ne] 85)).drewN nq) := below_drewN (by go_grown) _
 generalize ((w0.alloc (.cells #[.int .u8 m, .int .u8 q, .slice A NK c, .string hd, .string tl, .string ct, .string sm] 24)).alloc (.cells #[.string nm, .int .i64 2, .int .i64 wd, .int .i64 pl, .int .i64 fo, .bool ri, .int .u8 fi, .bool ne] 85)).drewN nq = w1 at hF hC hB1 ⊢
 have HF := Lib.hid hF; have HC := Lib.hid hC
 clear hF hC
 obtain ⟨⟨f0, f1, f2, f3, f4, f5, f6⟩, f7⟩ := obox7 HF.out
 obtain ⟨⟨c0, c1, c2, c3, c4, c5, c6, c7⟩, c8⟩ := obox8 HC.out
 go_wp2_with fail
 refine (HN.out _).mono ?_
 rintro e w2 ⟨rfl, hb2⟩
 have hF2 := heap_below HF.out hb2
 have hC2 := heap_below HC.out hb2
 have hB2 := below_then hb2 hB1 hB1.size
 clear f0 f1 f2 f3 f4 f5 f6 f7 c0 c1 c2 c3 c4 c5 c6 c7 c8
 clear HF HC
 have HF := Lib.hid hF2; have HC := Lib.hid hC2
 clear hF2 hC2 hb2
 obtain ⟨⟨f0, f1, f2, f3, f4, f5, f6⟩, f7⟩ := obox7 HF.out
 obtain ⟨⟨c0, c1, c2, c3, c4, c5, c6, c7⟩, c8⟩ := obox8 HC.out
 cases NB with
 | false =>
  have HE := Lib.hid (show colF m ⟨nm, 2, wd, pl, fo, ri, fi, ne⟩ before = 5 by unfold colF; simp [hNB.out])
  go_wp2
  go_ret
  exact ⟨congrArg (fun v => Ending.returned (Value.int .i64 v)) HE.out.symm, hB2⟩
 | true =>
 go_wp2_with fail
 refine (HA.out _ (HBC.out.below hB2) (cell_of_row _ _ 0 _ _ _ HC.out)).mono ?_
 rintro e w3 ⟨rfl, hb3⟩
 have hF3 := heap_below HF.out hb3
 have hC3 := heap_below HC.out hb3
 have hB3 := below_then hb3 hB2 hB2.size
 clear f0 f1 f2 f3 f4 f5 f6 f7 c0 c1 c2 c3 c4 c5 c6 c7 c8
 clear HF HC
 have HF := Lib.hid hF3; have HC := Lib.hid hC3
 clear hF3 hC3 hb3
 obtain ⟨⟨f0, f1, f2, f3, f4, f5, f6⟩, f7⟩ := obox7 HF.out
 obtain ⟨⟨c0, c1, c2, c3, c4, c5, c6, c7⟩, c8⟩ := obox8 HC.out
 cases AB with
 | true =>
  have HE := Lib.hid (show colF m ⟨nm, 2, wd, pl, fo, ri, fi, ne⟩ before = 7 by unfold colF; simp [hNB.out, hAB.out])
  go_wp2
  go_ret
  exact ⟨congrArg (fun v => Ending.returned (Value.int .i64 v)) HE.out.symm, hB3⟩
 | false =>
 have HO := Lib.hid (fun w => fout_b 2 1 3 w)
 rw [decide_eq_true (show (1 : Int) <= 2 /\ (2 : Int) <= 3 by decide)] at HO
 go_wp2_with fail
 refine (HO.out _).mono ?_
 rintro e w9 ⟨rfl, rfl⟩
 clear HO
 by_cases h4 : 1 <= wd /\ wd <= 100
 case neg =>
  have HE := Lib.hid (show colF m ⟨nm, 2, wd, pl, fo, ri, fi, ne⟩ before = 1 by unfold colF; simp [hNB.out, hAB.out, h4])
  have HO := Lib.hid (fun w => fout_b wd 1 100 w)
  rw [decide_eq_false h4] at HO
  clear h4
  go_wp2_with fail
  refine (HO.out _).mono ?_
  rintro e w9 ⟨rfl, rfl⟩
  go_wp2
  go_ret
  exact ⟨congrArg (fun v => Ending.returned (Value.int .i64 v)) HE.out.symm, hB3⟩
 have HO := Lib.hid (fun w => fout_b wd 1 100 w)
 rw [decide_eq_true h4] at HO
 have H4 := Lib.hid h4
 clear h4
 go_wp2_with fail
 refine (HO.out _).mono ?_
 rintro e w9 ⟨rfl, rfl⟩
 clear HO
 by_cases h5 : 0 <= pl /\ pl <= 9
 case neg =>
  have HE := Lib.hid (show colF m ⟨nm, 2, wd, pl, fo, ri, fi, ne⟩ before = 1 by unfold colF; simp [hNB.out, hAB.out, H4.out, h5])
  have HO := Lib.hid (fun w => fout_b pl 0 9 w)
  rw [decide_eq_false h5] at HO
  clear h5
  go_wp2_with fail
  refine (HO.out _).mono ?_
  rintro e w9 ⟨rfl, rfl⟩
  go_wp2
  go_ret
  exact ⟨congrArg (fun v => Ending.returned (Value.int .i64 v)) HE.out.symm, hB3⟩
 have HO := Lib.hid (fun w => fout_b pl 0 9 w)
 rw [decide_eq_true h5] at HO
 have H5 := Lib.hid h5
 clear h5
 go_wp2_with fail
 refine (HO.out _).mono ?_
 rintro e w9 ⟨rfl, rfl⟩
 clear HO
 go_wp2_with fail
 refine (HD.out _).mono ?_
 rintro e w4 ⟨rfl, hb4⟩
 have hF4 := heap_below HF.out hb4
 have hC4 := heap_below HC.out hb4
 have hB4 := below_then hb4 hB3 hB3.size
 clear f0 f1 f2 f3 f4 f5 f6 f7 c0 c1 c2 c3 c4 c5 c6 c7 c8
 clear HF HC
 have HF := Lib.hid hF4; have HC := Lib.hid hC4
 clear hF4 hC4 hb4
 obtain ⟨⟨f0, f1, f2, f3, f4, f5, f6⟩, f7⟩ := obox7 HF.out
 obtain ⟨⟨c0, c1, c2, c3, c4, c5, c6, c7⟩, c8⟩ := obox8 HC.out
 cases IB with
 | false =>
  have HE := Lib.hid (show colF m ⟨nm, 2, wd, pl, fo, ri, fi, ne⟩ before = 3 by unfold colF; simp [hNB.out, hAB.out, H4.out, H5.out, hIB.out])
  go_wp2
  go_ret
  exact ⟨congrArg (fun v => Ending.returned (Value.int .i64 v)) HE.out.symm, hB4⟩
 | true =>
 by_cases h8 : m = 0
 case neg =>
  have h8a : (m != 0) = true := by simpa using h8
  have HE := Lib.hid (show colF m ⟨nm, 2, wd, pl, fo, ri, fi, ne⟩ before = 0 by unfold colF; simp [hNB.out, hAB.out, H4.out, H5.out, hIB.out, h8])
  clear h8
  go_wp2
  go_ret
  exact ⟨congrArg (fun v => Ending.returned (Value.int .i64 v)) HE.out.symm, hB4⟩
 subst h8
 by_cases h9 : fi = 32
 ·subst h9
  have HE := Lib.hid (show colF 0 ⟨nm, 2, wd, pl, fo, ri, 32, ne⟩ before = 0 by unfold colF; simp [hNB.out, hAB.out, H4.out, H5.out, hIB.out])
  go_wp2
  go_quiet (fail)
  go_wp2
  go_ret
  exact ⟨congrArg (fun v => Ending.returned (Value.int .i64 v)) HE.out.symm, below_drewN hB4 _⟩
 have h9a : (fi != 32) = true := by simpa using h9
 by_cases h10 : fi = 48
 ·subst h10
  clear h9
  cases ri with
  | true =>
   have HE := Lib.hid (show colF 0 ⟨nm, 2, wd, pl, fo, true, 48, ne⟩ before = 0 by unfold colF; simp [hNB.out, hAB.out, H4.out, H5.out, hIB.out])
   go_wp2
   go_quiet (fail)
   go_wp2
   go_ret
   exact ⟨congrArg (fun v => Ending.returned (Value.int .i64 v)) HE.out.symm, below_drewN hB4 _⟩
  | false =>
   have HE := Lib.hid (show colF 0 ⟨nm, 2, wd, pl, fo, false, 48, ne⟩ before = 3 by unfold colF; simp [hNB.out, hAB.out, H4.out, H5.out, hIB.out])
   go_wp2
   go_ret
   exact ⟨congrArg (fun v => Ending.returned (Value.int .i64 v)) HE.out.symm, hB4⟩
 have h10a : (fi == 48) = false := by simpa using h10
 have HE := Lib.hid (show colF 0 ⟨nm, 2, wd, pl, fo, ri, fi, ne⟩ before = 3 by unfold colF; simp [hNB.out, hAB.out, H4.out, H5.out, hIB.out, h9, h10])
 clear h9 h10
 go_wp2
 go_ret
 exact ⟨congrArg (fun v => Ending.returned (Value.int .i64 v)) HE.out.symm, hB4⟩
set_option maxHeartbeats 2000000 in
set_option maxRecDepth 100000 in
theorem colf_day (f : Fmt) (A : Option Addr) (c : Nat) (k : Col) (B : Option Addr) (bc : Nat) (before : List Col) (w0 : World) (hs : k.name.size <= 9223372036854775807) (hNm : before.length <= 9223372036854775807) (hB : Cols w0 B before) (hk : k.kind = 3) :
  Calls Tryz.prog 103 #[fmtG f A c, colG k, .slice B before.length bc] w0 (RetI (colF f.mark k before) w0) := by
 obtain ⟨m, q, ks, hd, tl, ct, sm⟩ := f
 obtain ⟨nm, kd, wd, pl, fo, ri, fi, ne⟩ := k
 unfold fmtG colG
 simp only at *
 subst hk
 have HN := Lib.hid (fun w => isname_c nm w hs)
 have HD := Lib.hid (fun w => idle_c ⟨m, q, ks, hd, tl, ct, sm⟩ A c ⟨nm, 3, wd, pl, fo, ri, fi, ne⟩ w)
 unfold fmtG colG at HD
 simp only at HD
 have HA := Lib.hid (fun w h1 h2 => anyname_c (w0.heap.size + 1) ⟨nm, 3, wd, pl, fo, ri, fi, ne⟩ B bc before w h1 h2)
 simp only at HA
 obtain ⟨NB, hNB⟩ : ∃ b, nameB nm.data.toList = b := ⟨_, rfl⟩
 obtain ⟨AB, hAB⟩ : ∃ b, before.any (nameIs nm) = b := ⟨_, rfl⟩
 obtain ⟨IB, hIB⟩ : ∃ b, idleB m ⟨nm, 3, wd, pl, fo, ri, fi, ne⟩ = b := ⟨_, rfl⟩
 obtain ⟨N, hN⟩ : ∃ n, before.length = n := ⟨_, rfl⟩
 obtain ⟨NK, hNK⟩ : ∃ n, List.length ks = n := ⟨_, rfl⟩
 rw [hNB] at HN
 rw [hAB] at HA
 rw [hIB] at HD
 rw [hN] at HA hNm ⊢
 rw [hNK] at HD ⊢
 have hNB := Lib.hid hNB; have hAB := Lib.hid hAB; have hIB := Lib.hid hIB
 have HBC := Lib.hid hB
 clear hB hN hNK
 go_enter Tryz.func103, Tryz.ntmps103
 go_wp2_with fail
 go_quiet (fail)
 have hF : (((w0.alloc (.cells #[.int .u8 m, .int .u8 q, .slice A NK c, .string hd, .string tl, .string ct, .string sm] 24)).alloc (.cells #[.string nm, .int .i64 3, .int .i64 wd, .int .i64 pl, .int .i64 fo, .bool ri, .int .u8 fi, .bool ne] 85)).drewN nq).heap[w0.heap.size]? = some (.cells #[.int .u8 m, .int .u8 q, .slice A NK c, .string hd, .string tl, .string ct, .string sm] 24 (0, 0)) := by exact heap_old (heap_new w0 (.cells #[.int .u8 m, .int .u8 q, .slice A NK c, .string hd, .string tl, .string ct, .string sm] 24) rfl) (.cells #[.string nm, .int .i64 3, .int .i64 wd, .int .i64 pl, .int .i64 fo, .bool ri, .int .u8 fi, .bool ne] 85)
 have hC : (((w0.alloc (.cells #[.int .u8 m, .int .u8 q, .slice A NK c, .string hd, .string tl, .string ct, .string sm] 24)).alloc (.cells #[.string nm, .int .i64 3, .int .i64 wd, .int .i64 pl, .int .i64 fo, .bool ri, .int .u8 fi, .bool ne] 85)).drewN nq).heap[w0.heap.size + 1]? = some (.cells #[.string nm, .int .i64 3, .int .i64 wd, .int .i64 pl, .int .i64 fo, .bool ri, .int .u8 fi, .bool ne] 85 (0, 0)) := by exact heap_new (w0.alloc (.cells #[.int .u8 m, .int .u8 q, .slice A NK c, .string hd, .string tl, .string ct, .string sm] 24)) (.cells #[.string nm, .int .i64 3, .int .i64 wd, .int .i64 pl, .int .i64 fo, .bool ri, .int .u8 fi, .bool ne] 85) (by simp)
 have hB1 : Below w0.heap.size w0 (((w0.alloc (.cells #[.int .u8 m, .int .u8 q, .slice A NK c, .string hd, .string tl, .string ct, .string sm] 24)).alloc (.cells #[.string nm, .int .i64 3, .int .i64 wd, .int .i64 pl, .int .i64 fo, .bool ri, .int .u8 fi, .bool ne] 85)).drewN nq) := below_drewN (by go_grown) _
 generalize ((w0.alloc (.cells #[.int .u8 m, .int .u8 q, .slice A NK c, .string hd, .string tl, .string ct, .string sm] 24)).alloc (.cells #[.string nm, .int .i64 3, .int .i64 wd, .int .i64 pl, .int .i64 fo, .bool ri, .int .u8 fi, .bool ne] 85)).drewN nq = w1 at hF hC hB1 ⊢
 have HF := Lib.hid hF; have HC := Lib.hid hC
 clear hF hC
 obtain ⟨⟨f0, f1, f2, f3, f4, f5, f6⟩, f7⟩ := obox7 HF.out
 obtain ⟨⟨c0, c1, c2, c3, c4, c5, c6, c7⟩, c8⟩ := obox8 HC.out
 go_wp2_with fail
 refine (HN.out _).mono ?_
 rintro e w2 ⟨rfl, hb2⟩
 have hF2 := heap_below HF.out hb2
 have hC2 := heap_below HC.out hb2
 have hB2 := below_then hb2 hB1 hB1.size
 clear f0 f1 f2 f3 f4 f5 f6 f7 c0 c1 c2 c3 c4 c5 c6 c7 c8
 clear HF HC
 have HF := Lib.hid hF2; have HC := Lib.hid hC2
 clear hF2 hC2 hb2
 obtain ⟨⟨f0, f1, f2, f3, f4, f5, f6⟩, f7⟩ := obox7 HF.out
 obtain ⟨⟨c0, c1, c2, c3, c4, c5, c6, c7⟩, c8⟩ := obox8 HC.out
 cases NB with
 | false =>
  have HE := Lib.hid (show colF m ⟨nm, 3, wd, pl, fo, ri, fi, ne⟩ before = 5 by unfold colF; simp [hNB.out])
  go_wp2
  go_ret
  exact ⟨congrArg (fun v => Ending.returned (Value.int .i64 v)) HE.out.symm, hB2⟩
 | true =>
 go_wp2_with fail
 refine (HA.out _ (HBC.out.below hB2) (cell_of_row _ _ 0 _ _ _ HC.out)).mono ?_
 rintro e w3 ⟨rfl, hb3⟩
 have hF3 := heap_below HF.out hb3
 have hC3 := heap_below HC.out hb3
 have hB3 := below_then hb3 hB2 hB2.size
 clear f0 f1 f2 f3 f4 f5 f6 f7 c0 c1 c2 c3 c4 c5 c6 c7 c8
 clear HF HC
 have HF := Lib.hid hF3; have HC := Lib.hid hC3
 clear hF3 hC3 hb3
 obtain ⟨⟨f0, f1, f2, f3, f4, f5, f6⟩, f7⟩ := obox7 HF.out
 obtain ⟨⟨c0, c1, c2, c3, c4, c5, c6, c7⟩, c8⟩ := obox8 HC.out
 cases AB with
 | true =>
  have HE := Lib.hid (show colF m ⟨nm, 3, wd, pl, fo, ri, fi, ne⟩ before = 7 by unfold colF; simp [hNB.out, hAB.out])
  go_wp2
  go_ret
  exact ⟨congrArg (fun v => Ending.returned (Value.int .i64 v)) HE.out.symm, hB3⟩
 | false =>
 have HO := Lib.hid (fun w => fout_b 3 1 3 w)
 rw [decide_eq_true (show (1 : Int) <= 3 /\ (3 : Int) <= 3 by decide)] at HO
 go_wp2_with fail
 refine (HO.out _).mono ?_
 rintro e w9 ⟨rfl, rfl⟩
 clear HO
 by_cases h4 : 1 <= wd /\ wd <= 100
 case neg =>
  have HE := Lib.hid (show colF m ⟨nm, 3, wd, pl, fo, ri, fi, ne⟩ before = 1 by unfold colF; simp [hNB.out, hAB.out, h4])
  have HO := Lib.hid (fun w => fout_b wd 1 100 w)
  rw [decide_eq_false h4] at HO
  clear h4
  go_wp2_with fail
  refine (HO.out _).mono ?_
  rintro e w9 ⟨rfl, rfl⟩
  go_wp2
  go_ret
  exact ⟨congrArg (fun v => Ending.returned (Value.int .i64 v)) HE.out.symm, hB3⟩
 have HO := Lib.hid (fun w => fout_b wd 1 100 w)
 rw [decide_eq_true h4] at HO
 have H4 := Lib.hid h4
 clear h4
 go_wp2_with fail
 refine (HO.out _).mono ?_
 rintro e w9 ⟨rfl, rfl⟩
 clear HO
 obtain ⟨FW, hFW⟩ : ∃ n, formW fo = n := ⟨_, rfl⟩
 have HFO := Lib.hid (fun w => formw_c fo w)
 rw [hFW] at HFO
 have hFW := Lib.hid hFW
 by_cases h6 : FW = 0
 ·subst h6
  have HE := Lib.hid (show colF m ⟨nm, 3, wd, pl, fo, ri, fi, ne⟩ before = 4 by unfold colF; simp [hNB.out, hAB.out, H4.out, hFW.out])
  go_wp2_with fail
  refine (HFO.out _).mono ?_
  rintro e w9 ⟨rfl, rfl⟩
  go_wp2
  go_ret
  exact ⟨congrArg (fun v => Ending.returned (Value.int .i64 v)) HE.out.symm, hB3⟩
 have h6a : (FW == 0) = false := by simpa using h6
 have H6 := Lib.hid h6
 clear h6
 go_wp2_with fail
 refine (HFO.out _).mono ?_
 rintro e w9 ⟨rfl, rfl⟩
 go_wp2_with fail
 refine (HD.out _).mono ?_
 rintro e w4 ⟨rfl, hb4⟩
 have hF4 := heap_below HF.out hb4
 have hC4 := heap_below HC.out hb4
 have hB4 := below_then hb4 hB3 hB3.size
 clear f0 f1 f2 f3 f4 f5 f6 f7 c0 c1 c2 c3 c4 c5 c6 c7 c8
 clear HF HC
 have HF := Lib.hid hF4; have HC := Lib.hid hC4
 clear hF4 hC4 hb4
 obtain ⟨⟨f0, f1, f2, f3, f4, f5, f6⟩, f7⟩ := obox7 HF.out
 obtain ⟨⟨c0, c1, c2, c3, c4, c5, c6, c7⟩, c8⟩ := obox8 HC.out
 cases IB with
 | false =>
  have HE := Lib.hid (show colF m ⟨nm, 3, wd, pl, fo, ri, fi, ne⟩ before = 3 by unfold colF; simp [hNB.out, hAB.out, H4.out, hFW.out, H6.out, hIB.out])
  go_wp2
  go_ret
  exact ⟨congrArg (fun v => Ending.returned (Value.int .i64 v)) HE.out.symm, hB4⟩
 | true =>
 by_cases h8 : m = 0
 case neg =>
  have h8a : (m != 0) = true := by simpa using h8
  have HE := Lib.hid (show colF m ⟨nm, 3, wd, pl, fo, ri, fi, ne⟩ before = 0 by unfold colF; simp [hNB.out, hAB.out, H4.out, hFW.out, H6.out, hIB.out, h8])
  clear h8
  go_wp2
  go_ret
  exact ⟨congrArg (fun v => Ending.returned (Value.int .i64 v)) HE.out.symm, hB4⟩
 subst h8
 by_cases h9 : wd = FW
 ·subst h9
  have h9a : (wd != wd) = false := by simp
  have HE := Lib.hid (show colF 0 ⟨nm, 3, wd, pl, fo, ri, fi, ne⟩ before = 0 by unfold colF; simp [hNB.out, hAB.out, H4.out, hFW.out, H6.out, hIB.out])
  go_wp2
  go_quiet ((go_at_call 145; exact Calls.quiet_of_same (fflip (HFO.out _))))
  go_wp2
  go_ret
  exact ⟨congrArg (fun v => Ending.returned (Value.int .i64 v)) HE.out.symm, below_drewN hB4 _⟩
 have h9a : (wd != FW) = true := by simpa using h9
 have HE := Lib.hid (show colF 0 ⟨nm, 3, wd, pl, fo, ri, fi, ne⟩ before = 12 by unfold colF; simp [hNB.out, hAB.out, H4.out, hFW.out, H6.out, hIB.out, h9])
 clear h9
 go_wp2
 go_quiet ((go_at_call 145; exact Calls.quiet_of_same (fflip (HFO.out _))))
 go_wp2
 go_ret
 exact ⟨congrArg (fun v => Ending.returned (Value.int .i64 v)) HE.out.symm, below_drewN hB4 _⟩
set_option maxHeartbeats 2000000 in
set_option maxRecDepth 100000 in
theorem colf_txt (f : Fmt) (A : Option Addr) (c : Nat) (k : Col) (B : Option Addr) (bc : Nat) (before : List Col) (w0 : World) (hs : k.name.size <= 9223372036854775807) (hNm : before.length <= 9223372036854775807) (hB : Cols w0 B before) (hk : k.kind = 1) :
  Calls Tryz.prog 103 #[fmtG f A c, colG k, .slice B before.length bc] w0 (RetI (colF f.mark k before) w0) := by
 obtain ⟨m, q, ks, hd, tl, ct, sm⟩ := f
 obtain ⟨nm, kd, wd, pl, fo, ri, fi, ne⟩ := k
 unfold fmtG colG
 simp only at *
 subst hk
 have HN := Lib.hid (fun w => isname_c nm w hs)
 have HD := Lib.hid (fun w => idle_c ⟨m, q, ks, hd, tl, ct, sm⟩ A c ⟨nm, 1, wd, pl, fo, ri, fi, ne⟩ w)
 unfold fmtG colG at HD
 simp only at HD
 have HA := Lib.hid (fun w h1 h2 => anyname_c (w0.heap.size + 1) ⟨nm, 1, wd, pl, fo, ri, fi, ne⟩ B bc before w h1 h2)
 simp only at HA
 obtain ⟨NB, hNB⟩ : ∃ b, nameB nm.data.toList = b := ⟨_, rfl⟩
 obtain ⟨AB, hAB⟩ : ∃ b, before.any (nameIs nm) = b := ⟨_, rfl⟩
 obtain ⟨IB, hIB⟩ : ∃ b, idleB m ⟨nm, 1, wd, pl, fo, ri, fi, ne⟩ = b := ⟨_, rfl⟩
 obtain ⟨N, hN⟩ : ∃ n, before.length = n := ⟨_, rfl⟩
 obtain ⟨NK, hNK⟩ : ∃ n, List.length ks = n := ⟨_, rfl⟩
 rw [hNB] at HN
 rw [hAB] at HA
 rw [hIB] at HD
 rw [hN] at HA hNm ⊢
 rw [hNK] at HD ⊢
 have hNB := Lib.hid hNB; have hAB := Lib.hid hAB; have hIB := Lib.hid hIB
 have HBC := Lib.hid hB
 clear hB hN hNK
 go_enter Tryz.func103, Tryz.ntmps103
 go_wp2_with fail
 go_quiet (fail)
 have hF : (((w0.alloc (.cells #[.int .u8 m, .int .u8 q, .slice A NK c, .string hd, .string tl, .string ct, .string sm] 24)).alloc (.cells #[.string nm, .int .i64 1, .int .i64 wd, .int .i64 pl, .int .i64 fo, .bool ri, .int .u8 fi, .bool ne] 85)).drewN nq).heap[w0.heap.size]? = some (.cells #[.int .u8 m, .int .u8 q, .slice A NK c, .string hd, .string tl, .string ct, .string sm] 24 (0, 0)) := by exact heap_old (heap_new w0 (.cells #[.int .u8 m, .int .u8 q, .slice A NK c, .string hd, .string tl, .string ct, .string sm] 24) rfl) (.cells #[.string nm, .int .i64 1, .int .i64 wd, .int .i64 pl, .int .i64 fo, .bool ri, .int .u8 fi, .bool ne] 85)
 have hC : (((w0.alloc (.cells #[.int .u8 m, .int .u8 q, .slice A NK c, .string hd, .string tl, .string ct, .string sm] 24)).alloc (.cells #[.string nm, .int .i64 1, .int .i64 wd, .int .i64 pl, .int .i64 fo, .bool ri, .int .u8 fi, .bool ne] 85)).drewN nq).heap[w0.heap.size + 1]? = some (.cells #[.string nm, .int .i64 1, .int .i64 wd, .int .i64 pl, .int .i64 fo, .bool ri, .int .u8 fi, .bool ne] 85 (0, 0)) := by exact heap_new (w0.alloc (.cells #[.int .u8 m, .int .u8 q, .slice A NK c, .string hd, .string tl, .string ct, .string sm] 24)) (.cells #[.string nm, .int .i64 1, .int .i64 wd, .int .i64 pl, .int .i64 fo, .bool ri, .int .u8 fi, .bool ne] 85) (by simp)
 have hB1 : Below w0.heap.size w0 (((w0.alloc (.cells #[.int .u8 m, .int .u8 q, .slice A NK c, .string hd, .string tl, .string ct, .string sm] 24)).alloc (.cells #[.string nm, .int .i64 1, .int .i64 wd, .int .i64 pl, .int .i64 fo, .bool ri, .int .u8 fi, .bool ne] 85)).drewN nq) := below_drewN (by go_grown) _
 generalize ((w0.alloc (.cells #[.int .u8 m, .int .u8 q, .slice A NK c, .string hd, .string tl, .string ct, .string sm] 24)).alloc (.cells #[.string nm, .int .i64 1, .int .i64 wd, .int .i64 pl, .int .i64 fo, .bool ri, .int .u8 fi, .bool ne] 85)).drewN nq = w1 at hF hC hB1 ⊢
 have HF := Lib.hid hF; have HC := Lib.hid hC
 clear hF hC
 obtain ⟨⟨f0, f1, f2, f3, f4, f5, f6⟩, f7⟩ := obox7 HF.out
 obtain ⟨⟨c0, c1, c2, c3, c4, c5, c6, c7⟩, c8⟩ := obox8 HC.out
 go_wp2_with fail
 refine (HN.out _).mono ?_
 rintro e w2 ⟨rfl, hb2⟩
 have hF2 := heap_below HF.out hb2
 have hC2 := heap_below HC.out hb2
 have hB2 := below_then hb2 hB1 hB1.size
 clear f0 f1 f2 f3 f4 f5 f6 f7 c0 c1 c2 c3 c4 c5 c6 c7 c8
 clear HF HC
 have HF := Lib.hid hF2; have HC := Lib.hid hC2
 clear hF2 hC2 hb2
 obtain ⟨⟨f0, f1, f2, f3, f4, f5, f6⟩, f7⟩ := obox7 HF.out
 obtain ⟨⟨c0, c1, c2, c3, c4, c5, c6, c7⟩, c8⟩ := obox8 HC.out
 cases NB with
 | false =>
  have HE := Lib.hid (show colF m ⟨nm, 1, wd, pl, fo, ri, fi, ne⟩ before = 5 by unfold colF; simp [hNB.out])
  go_wp2
  go_ret
  exact ⟨congrArg (fun v => Ending.returned (Value.int .i64 v)) HE.out.symm, hB2⟩
 | true =>
 go_wp2_with fail
 refine (HA.out _ (HBC.out.below hB2) (cell_of_row _ _ 0 _ _ _ HC.out)).mono ?_
 rintro e w3 ⟨rfl, hb3⟩
 have hF3 := heap_below HF.out hb3
 have hC3 := heap_below HC.out hb3
 have hB3 := below_then hb3 hB2 hB2.size
 clear f0 f1 f2 f3 f4 f5 f6 f7 c0 c1 c2 c3 c4 c5 c6 c7 c8
 clear HF HC
 have HF := Lib.hid hF3; have HC := Lib.hid hC3
 clear hF3 hC3 hb3
 obtain ⟨⟨f0, f1, f2, f3, f4, f5, f6⟩, f7⟩ := obox7 HF.out
 obtain ⟨⟨c0, c1, c2, c3, c4, c5, c6, c7⟩, c8⟩ := obox8 HC.out
 cases AB with
 | true =>
  have HE := Lib.hid (show colF m ⟨nm, 1, wd, pl, fo, ri, fi, ne⟩ before = 7 by unfold colF; simp [hNB.out, hAB.out])
  go_wp2
  go_ret
  exact ⟨congrArg (fun v => Ending.returned (Value.int .i64 v)) HE.out.symm, hB3⟩
 | false =>
 have HO := Lib.hid (fun w => fout_b 1 1 3 w)
 rw [decide_eq_true (show (1 : Int) <= 1 /\ (1 : Int) <= 3 by decide)] at HO
 go_wp2_with fail
 refine (HO.out _).mono ?_
 rintro e w9 ⟨rfl, rfl⟩
 clear HO
 by_cases h4 : 1 <= wd /\ wd <= 100
 case neg =>
  have HE := Lib.hid (show colF m ⟨nm, 1, wd, pl, fo, ri, fi, ne⟩ before = 1 by unfold colF; simp [hNB.out, hAB.out, h4])
  have HO := Lib.hid (fun w => fout_b wd 1 100 w)
  rw [decide_eq_false h4] at HO
  clear h4
  go_wp2_with fail
  refine (HO.out _).mono ?_
  rintro e w9 ⟨rfl, rfl⟩
  go_wp2
  go_ret
  exact ⟨congrArg (fun v => Ending.returned (Value.int .i64 v)) HE.out.symm, hB3⟩
 have HO := Lib.hid (fun w => fout_b wd 1 100 w)
 rw [decide_eq_true h4] at HO
 have H4 := Lib.hid h4
 clear h4
 go_wp2_with fail
 refine (HO.out _).mono ?_
 rintro e w9 ⟨rfl, rfl⟩
 clear HO
 go_wp2_with fail
 refine (HD.out _).mono ?_
 rintro e w4 ⟨rfl, hb4⟩
 have hF4 := heap_below HF.out hb4
 have hC4 := heap_below HC.out hb4
 have hB4 := below_then hb4 hB3 hB3.size
 clear f0 f1 f2 f3 f4 f5 f6 f7 c0 c1 c2 c3 c4 c5 c6 c7 c8
 clear HF HC
 have HF := Lib.hid hF4; have HC := Lib.hid hC4
 clear hF4 hC4 hb4
 obtain ⟨⟨f0, f1, f2, f3, f4, f5, f6⟩, f7⟩ := obox7 HF.out
 obtain ⟨⟨c0, c1, c2, c3, c4, c5, c6, c7⟩, c8⟩ := obox8 HC.out
 cases IB with
 | false =>
  have HE := Lib.hid (show colF m ⟨nm, 1, wd, pl, fo, ri, fi, ne⟩ before = 3 by unfold colF; simp [hNB.out, hAB.out, H4.out, hIB.out])
  go_wp2
  go_ret
  exact ⟨congrArg (fun v => Ending.returned (Value.int .i64 v)) HE.out.symm, hB4⟩
 | true =>
 by_cases h8 : m = 0
 case neg =>
  have h8a : (m != 0) = true := by simpa using h8
  have HE := Lib.hid (show colF m ⟨nm, 1, wd, pl, fo, ri, fi, ne⟩ before = 0 by unfold colF; simp [hNB.out, hAB.out, H4.out, hIB.out, h8])
  clear h8
  go_wp2
  go_ret
  exact ⟨congrArg (fun v => Ending.returned (Value.int .i64 v)) HE.out.symm, hB4⟩
 subst h8
 by_cases h9 : fi = 32
 ·subst h9
  have HE := Lib.hid (show colF 0 ⟨nm, 1, wd, pl, fo, ri, 32, ne⟩ before = 0 by unfold colF; simp [hNB.out, hAB.out, H4.out, hIB.out])
  go_wp2
  go_quiet (fail)
  go_wp2
  go_ret
  exact ⟨congrArg (fun v => Ending.returned (Value.int .i64 v)) HE.out.symm, below_drewN hB4 _⟩
 have h9a : (fi != 32) = true := by simpa using h9
 have HE := Lib.hid (show colF 0 ⟨nm, 1, wd, pl, fo, ri, fi, ne⟩ before = 3 by unfold colF; simp [hNB.out, hAB.out, H4.out, hIB.out, h9])
 clear h9
 go_wp2
 go_ret
 exact ⟨congrArg (fun v => Ending.returned (Value.int .i64 v)) HE.out.symm, hB4⟩
set_option maxHeartbeats 2000000 in
set_option maxRecDepth 100000 in
theorem colf_oth (f : Fmt) (A : Option Addr) (c : Nat) (k : Col) (B : Option Addr) (bc : Nat) (before : List Col) (w0 : World) (hs : k.name.size <= 9223372036854775807) (hNm : before.length <= 9223372036854775807) (hB : Cols w0 B before) (hk3 : ¬ (1 <= k.kind /\ k.kind <= 3)) :
  Calls Tryz.prog 103 #[fmtG f A c, colG k, .slice B before.length bc] w0 (RetI (colF f.mark k before) w0) := by
 obtain ⟨m, q, ks, hd, tl, ct, sm⟩ := f
 obtain ⟨nm, kd, wd, pl, fo, ri, fi, ne⟩ := k
 unfold fmtG colG
 simp only at *
 have h1a : (kd == 2) = false := by simp; omega
 have h1c : (kd == 3) = false := by simp; omega
 have HK3 := Lib.hid hk3
 clear hk3
 have HN := Lib.hid (fun w => isname_c nm w hs)
 have HD := Lib.hid (fun w => idle_c ⟨m, q, ks, hd, tl, ct, sm⟩ A c ⟨nm, kd, wd, pl, fo, ri, fi, ne⟩ w)
 unfold fmtG colG at HD
 simp only at HD
 have HA := Lib.hid (fun w h1 h2 => anyname_c (w0.heap.size + 1) ⟨nm, kd, wd, pl, fo, ri, fi, ne⟩ B bc before w h1 h2)
 simp only at HA
 obtain ⟨NB, hNB⟩ : ∃ b, nameB nm.data.toList = b := ⟨_, rfl⟩
 obtain ⟨AB, hAB⟩ : ∃ b, before.any (nameIs nm) = b := ⟨_, rfl⟩
 obtain ⟨IB, hIB⟩ : ∃ b, idleB m ⟨nm, kd, wd, pl, fo, ri, fi, ne⟩ = b := ⟨_, rfl⟩
 obtain ⟨N, hN⟩ : ∃ n, before.length = n := ⟨_, rfl⟩
 obtain ⟨NK, hNK⟩ : ∃ n, List.length ks = n := ⟨_, rfl⟩
 rw [hNB] at HN
 rw [hAB] at HA
 rw [hIB] at HD
 rw [hN] at HA hNm ⊢
 rw [hNK] at HD ⊢
 have hNB := Lib.hid hNB; have hAB := Lib.hid hAB; have hIB := Lib.hid hIB
 have HBC := Lib.hid hB
 clear hB hN hNK
 go_enter Tryz.func103, Tryz.ntmps103
 go_wp2_with fail
 go_quiet (fail)
 have hF : (((w0.alloc (.cells #[.int .u8 m, .int .u8 q, .slice A NK c, .string hd, .string tl, .string ct, .string sm] 24)).alloc (.cells #[.string nm, .int .i64 kd, .int .i64 wd, .int .i64 pl, .int .i64 fo, .bool ri, .int .u8 fi, .bool ne] 85)).drewN nq).heap[w0.heap.size]? = some (.cells #[.int .u8 m, .int .u8 q, .slice A NK c, .string hd, .string tl, .string ct, .string sm] 24 (0, 0)) := by exact heap_old (heap_new w0 (.cells #[.int .u8 m, .int .u8 q, .slice A NK c, .string hd, .string tl, .string ct, .string sm] 24) rfl) (.cells #[.string nm, .int .i64 kd, .int .i64 wd, .int .i64 pl, .int .i64 fo, .bool ri, .int .u8 fi, .bool ne] 85)
 have hC : (((w0.alloc (.cells #[.int .u8 m, .int .u8 q, .slice A NK c, .string hd, .string tl, .string ct, .string sm] 24)).alloc (.cells #[.string nm, .int .i64 kd, .int .i64 wd, .int .i64 pl, .int .i64 fo, .bool ri, .int .u8 fi, .bool ne] 85)).drewN nq).heap[w0.heap.size + 1]? = some (.cells #[.string nm, .int .i64 kd, .int .i64 wd, .int .i64 pl, .int .i64 fo, .bool ri, .int .u8 fi, .bool ne] 85 (0, 0)) := by exact heap_new (w0.alloc (.cells #[.int .u8 m, .int .u8 q, .slice A NK c, .string hd, .string tl, .string ct, .string sm] 24)) (.cells #[.string nm, .int .i64 kd, .int .i64 wd, .int .i64 pl, .int .i64 fo, .bool ri, .int .u8 fi, .bool ne] 85) (by simp)
 have hB1 : Below w0.heap.size w0 (((w0.alloc (.cells #[.int .u8 m, .int .u8 q, .slice A NK c, .string hd, .string tl, .string ct, .string sm] 24)).alloc (.cells #[.string nm, .int .i64 kd, .int .i64 wd, .int .i64 pl, .int .i64 fo, .bool ri, .int .u8 fi, .bool ne] 85)).drewN nq) := below_drewN (by go_grown) _
 generalize ((w0.alloc (.cells #[.int .u8 m, .int .u8 q, .slice A NK c, .string hd, .string tl, .string ct, .string sm] 24)).alloc (.cells #[.string nm, .int .i64 kd, .int .i64 wd, .int .i64 pl, .int .i64 fo, .bool ri, .int .u8 fi, .bool ne] 85)).drewN nq = w1 at hF hC hB1 ⊢
 have HF := Lib.hid hF; have HC := Lib.hid hC
 clear hF hC
 obtain ⟨⟨f0, f1, f2, f3, f4, f5, f6⟩, f7⟩ := obox7 HF.out
 obtain ⟨⟨c0, c1, c2, c3, c4, c5, c6, c7⟩, c8⟩ := obox8 HC.out
 go_wp2_with fail
 refine (HN.out _).mono ?_
 rintro e w2 ⟨rfl, hb2⟩
 have hF2 := heap_below HF.out hb2
 have hC2 := heap_below HC.out hb2
 have hB2 := below_then hb2 hB1 hB1.size
 clear f0 f1 f2 f3 f4 f5 f6 f7 c0 c1 c2 c3 c4 c5 c6 c7 c8
 clear HF HC
 have HF := Lib.hid hF2; have HC := Lib.hid hC2
 clear hF2 hC2 hb2
 obtain ⟨⟨f0, f1, f2, f3, f4, f5, f6⟩, f7⟩ := obox7 HF.out
 obtain ⟨⟨c0, c1, c2, c3, c4, c5, c6, c7⟩, c8⟩ := obox8 HC.out
 cases NB with
 | false =>
  have HE := Lib.hid (show colF m ⟨nm, kd, wd, pl, fo, ri, fi, ne⟩ before = 5 by unfold colF; simp [hNB.out])
  go_wp2
  go_ret
  exact ⟨congrArg (fun v => Ending.returned (Value.int .i64 v)) HE.out.symm, hB2⟩
 | true =>
 go_wp2_with fail
 refine (HA.out _ (HBC.out.below hB2) (cell_of_row _ _ 0 _ _ _ HC.out)).mono ?_
 rintro e w3 ⟨rfl, hb3⟩
 have hF3 := heap_below HF.out hb3
 have hC3 := heap_below HC.out hb3
 have hB3 := below_then hb3 hB2 hB2.size
 clear f0 f1 f2 f3 f4 f5 f6 f7 c0 c1 c2 c3 c4 c5 c6 c7 c8
 clear HF HC
 have HF := Lib.hid hF3; have HC := Lib.hid hC3
 clear hF3 hC3 hb3
 obtain ⟨⟨f0, f1, f2, f3, f4, f5, f6⟩, f7⟩ := obox7 HF.out
 obtain ⟨⟨c0, c1, c2, c3, c4, c5, c6, c7⟩, c8⟩ := obox8 HC.out
 cases AB with
 | true =>
  have HE := Lib.hid (show colF m ⟨nm, kd, wd, pl, fo, ri, fi, ne⟩ before = 7 by unfold colF; simp [hNB.out, hAB.out])
  go_wp2
  go_ret
  exact ⟨congrArg (fun v => Ending.returned (Value.int .i64 v)) HE.out.symm, hB3⟩
 | false =>
 have HO := Lib.hid (fun w => fout_b kd 1 3 w)
 rw [decide_eq_false HK3.out] at HO
 have HE := Lib.hid (show colF m ⟨nm, kd, wd, pl, fo, ri, fi, ne⟩ before = 4 by unfold colF; simp [hNB.out, hAB.out, HK3.out])
 go_wp2_with fail
 refine (HO.out _).mono ?_
 rintro e w9 ⟨rfl, rfl⟩
 go_wp2
 go_ret
 exact ⟨congrArg (fun v => Ending.returned (Value.int .i64 v)) HE.out.symm, hB3⟩
theorem colf_c (f : Fmt) (A : Option Addr) (c : Nat) (k : Col) (B : Option Addr) (bc : Nat) (before : List Col) (w0 : World) (hs : k.name.size <= 9223372036854775807) (hNm : before.length <= 9223372036854775807) (hB : Cols w0 B before) :
  Calls Tryz.prog 103 #[fmtG f A c, colG k, .slice B before.length bc] w0 (RetI (colF f.mark k before) w0) := by
 by_cases h1 : k.kind = 2
 ·exact colf_num f A c k B bc before w0 hs hNm hB h1
 by_cases h2 : k.kind = 3
 ·exact colf_day f A c k B bc before w0 hs hNm hB h2
 by_cases h3 : k.kind = 1
 ·exact colf_txt f A c k B bc before w0 hs hNm hB h3
 exact colf_oth f A c k B bc before w0 hs hNm hB (by omega)
end Go.Proofs.YtbnjejenejoibaaGreatDoor
