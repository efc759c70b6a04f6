
/- The walk of kindFault. (Printed by genF7.py.) -/
import Derived.Test.YtbnjejenejoibaaGreatDoorF5
namespace Go.Proofs.YtbnjejenejoibaaGreatDoor
open Go.RowKit Limb Nmb
set_option linter.unusedVariables false
set_option linter.unusedSimpArgs false
theorem emp_dec (s : ByteArray) : s.toList.isEmpty = decide (s = ⟨#[]⟩) := by
 rw [Lib.toList_data, Bool.eq_iff_iff, decide_eq_true_iff, List.isEmpty_iff]
 exact ⟨fun h => ByteArray.ext (Array.toList_eq_nil_iff.1 h), fun h => by rw [h]⟩
theorem Kinds.cells {w : World} {A : Option Addr} {ks : List RKd} {FA : Nat -> Option Addr} {FC : Nat -> Nat} (h : Kinds w A ks FA FC) {j : Nat} (hj : j < ks.length) :
  ∃ b off, A = some ⟨b, off, none⟩ /\ b < w.heap.size /\ w.cell? ⟨b, off + j * 4, none⟩ = some (.string (kA ks j).tag) /\ w.cell? ⟨b, off + j * 4 + 1, none⟩ = some (.slice (FA j) (kA ks j).fields.length (FC j)) /\
   w.cell? ⟨b, off + j * 4 + 2, none⟩ = some (.int .i64 (kA ks j).most) /\ w.cell? ⟨b, off + j * 4 + 3, none⟩ = some (.string (kA ks j).under) := by
 obtain ⟨b, off, e, hb, hc⟩ := h.2.1.get hj
 exact ⟨b, off, e, hb, hc 0 (by decide), hc 1 (by decide), hc 2 (by decide), hc 3 (by decide)⟩
theorem Cols.cells {w : World} {A : Option Addr} {cs : List Col} (h : Cols w A cs) {j : Nat} (hj : j < cs.length) :
  ∃ b off, A = some ⟨b, off, none⟩ /\ b < w.heap.size /\ w.cell? ⟨b, off + j * 8, none⟩ = some (.string (cA cs j).name) /\ w.cell? ⟨b, off + j * 8 + 1, none⟩ = some (.int .i64 (cA cs j).kind) /\
   w.cell? ⟨b, off + j * 8 + 2, none⟩ = some (.int .i64 (cA cs j).width) /\ w.cell? ⟨b, off + j * 8 + 3, none⟩ = some (.int .i64 (cA cs j).places) /\ w.cell? ⟨b, off + j * 8 + 4, none⟩ = some (.int .i64 (cA cs j).form) /\
   w.cell? ⟨b, off + j * 8 + 5, none⟩ = some (.bool (cA cs j).right) /\ w.cell? ⟨b, off + j * 8 + 6, none⟩ = some (.int .u8 (cA cs j).fill) /\ w.cell? ⟨b, off + j * 8 + 7, none⟩ = some (.bool (cA cs j).need) := by
 obtain ⟨b, off, e, hb, hc⟩ := h.2.get hj
 exact ⟨b, off, e, hb, hc 0 (by decide), hc 1 (by decide), hc 2 (by decide), hc 3 (by decide), hc 4 (by decide), hc 5 (by decide), hc 6 (by decide), hc 7 (by decide)⟩
theorem Cols.take {w : World} {A : Option Addr} {cs : List Col} (h : Cols w A cs) (k : Nat) : Cols w A (cs.take k) := by
 refine ⟨⟨fun c hc => h.1.1 c (List.mem_of_mem_take hc), by have := h.1.2; rw [List.length_take]; omega⟩, fun hn => ?_⟩
 rw [List.length_take] at hn
 obtain ⟨b, off, e, hb, hc⟩ := h.2 (by omega)
 refine ⟨b, off, e, hb, fun j hj i hi => ?_⟩
 rw [List.length_take] at hj
 rw [hc j (by omega) i hi]
 have e2 : cA (cs.take k) j = cA cs j := by unfold cA; rw [List.getD_eq_getElem?_getD, List.getD_eq_getElem?_getD, List.getElem?_take, if_pos (by omega)]
 unfold colV
 rw [e2]
theorem anytag1_c (b : Nat) (x : RKd) (XA : Option Addr) (XC : Nat) (A : Option Addr) (c n : Nat) (ks : List RKd) (FA : Nat -> Option Addr) (FC : Nat -> Nat) (w : World) (hnk : n <= ks.length) (ho : Kinds w A ks FA FC) (hc : w.heap[b]? = some (.cells #[.string x.tag, .slice XA x.fields.length XC, .int .i64 x.most, .string x.under] 46 (0, 0))) :
  Calls Tryz.prog 28 #[.slice A n c, .func (.func 101) #[] #[.pointer (some ⟨b, 0, none⟩)]] w
   fun e w' => e = .returned (.bool ((ks.take n).any (tagIs x.tag))) /\ Below w.heap.size w w' :=
 anyk_of _ _ _ _ w w (ixF_any _ _) (Below.refl _ _) (ixk_c 101 (.pointer (some ⟨b, 0, none⟩)) (tagIs x.tag) A c n ks FA FC w hnk ho (fun _ _ => by kernel_rfl)
  (fun j hj wr hb => kf1_c (kA ks j) x (FA j) XA (FC j) XC b wr (heap_below hc hb)))
theorem anytag2_c (b : Nat) (x : RKd) (XA : Option Addr) (XC : Nat) (A : Option Addr) (c n : Nat) (ks : List RKd) (FA : Nat -> Option Addr) (FC : Nat -> Nat) (w : World) (hnk : n <= ks.length) (ho : Kinds w A ks FA FC) (hc : w.heap[b]? = some (.cells #[.string x.tag, .slice XA x.fields.length XC, .int .i64 x.most, .string x.under] 46 (0, 0))) :
  Calls Tryz.prog 28 #[.slice A n c, .func (.func 105) #[] #[.pointer (some ⟨b, 0, none⟩)]] w
   fun e w' => e = .returned (.bool ((ks.take n).any (tagIs x.under))) /\ Below w.heap.size w w' :=
 anyk_of _ _ _ _ w w (ixF_any _ _) (Below.refl _ _) (ixk_c 105 (.pointer (some ⟨b, 0, none⟩)) (tagIs x.under) A c n ks FA FC w hnk ho (fun _ _ => by kernel_rfl)
  (fun j hj wr hb => kf2_c (kA ks j) x (FA j) XA (FC j) XC b wr (heap_below hc hb)))
set_option maxHeartbeats 2000000 in
set_option maxRecDepth 100000 in
theorem kindfault_c (f : Fmt) (A : Option Addr) (c : Nat) (FA : Nat -> Option Addr) (FC : Nat -> Nat) (i : Nat) (w0 : World) (ho : Kinds w0 A f.kinds FA FC) (hi : i < f.kinds.length) (hc : f.kinds.length <= c) :
  Calls Tryz.prog 60 #[fmtG f A c, .int .i64 (i : Int)] w0 (RetI (kindF f.mark f.kinds i) w0) := by
 obtain ⟨m, q, ks, hd, tl, ct, sm⟩ := f
 unfold fmtG
 simp only at *
 obtain ⟨b, off, rfl, hbw, a0, a1, a2, a3⟩ := ho.cells hi
 obtain ⟨B0, OF0, -, hbw0, z0, -⟩ := ho.cells (j := 0) (by omega)
 obtain ⟨hcols, hcc⟩ := ho.2.2 i hi
 have hszs := ho.1.1 (kA ks i) (by rw [<- kA_get hi]; exact List.getElem_mem _)
 have z0 : w0.cell? ⟨b, off, none⟩ = some (.string (kA ks 0).tag) := by
  obtain ⟨B0, OF0, e, -, z, -⟩ := ho.cells (j := 0) (by omega)
  injection e with e
  injection e with e1 e2
  subst e1; subst e2
  simpa using z
 obtain ⟨x, hx⟩ : ∃ x, kA ks i = x := ⟨_, rfl⟩
 have HX := Lib.hid hx
 have hn := ho.1.2
 have HO := Lib.hid ho
 obtain ⟨n, hnn⟩ : ∃ n, ks.length = n := ⟨_, rfl⟩
 have HN := Lib.hid hnn
 have HNK := Lib.hid (show i <= ks.length by omega)
 rw [hnn] at hi hn hc ⊢
 rw [hx] at a0 a1 a2 a3 hcols hcc hszs
 obtain ⟨XA, hXA⟩ : ∃ a, FA i = a := ⟨_, rfl⟩
 obtain ⟨XC, hXC⟩ : ∃ a, FC i = a := ⟨_, rfl⟩
 rw [hXA] at a1 hcols
 rw [hXC] at a1 hcc
 obtain ⟨tg, fs, ms, un⟩ := x
 simp only at a0 a1 a2 a3 hcols hcc hszs
 have hnf := hcols.1.2
 have HCO := Lib.hid hcols
 have HF1 := Lib.hid (fun w (h : Kinds w (some ⟨b, off, none⟩) ks FA FC) h2 => anytag1_c (w0.heap.size + 1) ⟨tg, fs, ms, un⟩ XA XC (some ⟨b, off, none⟩) c i ks FA FC w HNK.out h h2)
 have HF2 := Lib.hid (fun w (h : Kinds w (some ⟨b, off, none⟩) ks FA FC) h2 => anytag2_c (w0.heap.size + 1) ⟨tg, fs, ms, un⟩ XA XC (some ⟨b, off, none⟩) c i ks FA FC w HNK.out h h2)
 simp only at HF1 HF2
 have HCF := Lib.hid (fun (j : Nat) (hj : j < fs.length) w (h : Cols w XA (fs.take j)) => colf_c ⟨m, q, ks, hd, tl, ct, sm⟩ (some ⟨b, off, none⟩) c (cA fs j) XA XC (fs.take j) w (hcols.1.1 _ (by rw [<- cA_get hj]; exact List.getElem_mem _)) (by rw [List.length_take]; omega) h)
 unfold fmtG at HCF
 simp only at HCF
 rw [hnn] at HCF
 obtain ⟨nf, hnff⟩ : ∃ n, fs.length = n := ⟨_, rfl⟩
 have HNF := Lib.hid hnff
 rw [hnff] at a1 hcc hnf HF1 HF2
 obtain ⟨t0, ht0⟩ : ∃ t, (kA ks 0).tag = t := ⟨_, rfl⟩
 have HT0 := Lib.hid ht0
 rw [ht0] at z0
 obtain ⟨B1, hB1⟩ : ∃ b, tagL tg.data.toList = b := ⟨_, rfl⟩
 obtain ⟨B2, hB2⟩ : ∃ b, (ks.take i).any (tagIs tg) = b := ⟨_, rfl⟩
 obtain ⟨B3, hB3⟩ : ∃ b, (ks.take i).any (tagIs un) = b := ⟨_, rfl⟩
 have HT := Lib.hid (fun w => istag_c tg w hszs.1)
 rw [hB1] at HT
 rw [hB2] at HF1
 rw [hB3] at HF2
 have HB1 := Lib.hid hB1; have HB2 := Lib.hid hB2; have HB3 := Lib.hid hB3
 have htgs := hszs.1
 clear hB1 hB2 hB3 ho hx hnn hcols hszs hXA hXC hnff ht0 hbw0
 have HF := Lib.hid (show ∀ r, ((w0.alloc (.cells #[.int .u8 m, .int .u8 q, .slice (some ⟨b, off, none⟩) n c, .string hd, .string tl, .string ct, .string sm] 24)).alloc r).heap[w0.heap.size]? = some (.cells #[.int .u8 m, .int .u8 q, .slice (some ⟨b, off, none⟩) n c, .string hd, .string tl, .string ct, .string sm] 24 (0, 0)) from fun r => heap_old (heap_new w0 _ rfl) r)
 have HK := Lib.hid (heap_new (w0.alloc (.cells #[.int .u8 m, .int .u8 q, .slice (some ⟨b, off, none⟩) n c, .string hd, .string tl, .string ct, .string sm] 24)) (.cells #[.string tg, .slice XA nf XC, .int .i64 ms, .string un] 46) (g := w0.heap.size + 1) (by simp))
 have HF := Lib.hid (HF.out (.cells #[.string tg, .slice XA nf XC, .int .i64 ms, .string un] 46))
 have hB1 : Below w0.heap.size w0 ((w0.alloc (.cells #[.int .u8 m, .int .u8 q, .slice (some ⟨b, off, none⟩) n c, .string hd, .string tl, .string ct, .string sm] 24)).alloc (.cells #[.string tg, .slice XA nf XC, .int .i64 ms, .string un] 46)) := by go_grown
 by_cases hs1 : tg.size < 1
 ·have HE := Lib.hid (show kindF m ks i = 3 by unfold kindF; rw [HX.out]; simp [show ¬ (1 <= tg.size) by omega])
  have hs2 : (tg.size : Int) < 1 := by omega
  clear hs1
  go_enter Tryz.func60, Tryz.ntmps60
  go_wp2
  go_ret
  exact ⟨congrArg (fun v => Ending.returned (Value.int .i64 v)) HE.out.symm, hB1⟩
 by_cases hs2 : 6 < tg.size
 ·have HE := Lib.hid (show kindF m ks i = 3 by unfold kindF; rw [HX.out]; simp [show ¬ (tg.size <= 6) by omega])
  have hs3 : ¬ (tg.size : Int) < 1 := by omega
  have hs4 : (6 : Int) < tg.size := by omega
  clear hs1 hs2
  go_enter Tryz.func60, Tryz.ntmps60
  go_wp2
  go_ret
  exact ⟨congrArg (fun v => Ending.returned (Value.int .i64 v)) HE.out.symm, hB1⟩
 have hs3 : ¬ (tg.size : Int) < 1 := by omega
 have hs4 : ¬ (6 : Int) < tg.size := by omega
 have HSZ := Lib.hid (show 1 <= tg.size /\ tg.size <= 6 by omega)
 clear hs1 hs2
 go_enter Tryz.func60, Tryz.ntmps60
 go_wp2_with fail
 generalize (w0.alloc (.cells #[.int .u8 m, .int .u8 q, .slice (some ⟨b, off, none⟩) n c, .string hd, .string tl, .string ct, .string sm] 24)).alloc (.cells #[.string tg, .slice XA nf XC, .int .i64 ms, .string un] 46) = w1 at HF HK hB1 ⊢
 obtain ⟨⟨f0, f1, f2, f3, f4, f5, f6⟩, f7⟩ := obox7 HF.out
 obtain ⟨⟨k0, k1, k2, k3⟩, -, k5⟩ := obox4 HK.out
 refine (HT.out _).mono ?_
 rintro e w2 ⟨rfl, hb2⟩
 have hF2 := heap_below HF.out hb2
 have hK2 := heap_below HK.out hb2
 have hB2 := below_then hb2 hB1 hB1.size
 clear f0 f1 f2 f3 f4 f5 f6 f7 k0 k1 k2 k3 k5
 clear HF HK
 have HF := Lib.hid hF2; have HK := Lib.hid hK2
 clear hF2 hK2 hb2
 obtain ⟨⟨f0, f1, f2, f3, f4, f5, f6⟩, f7⟩ := obox7 HF.out
 obtain ⟨⟨k0, k1, k2, k3⟩, -, k5⟩ := obox4 HK.out
 cases B1 with
 | false =>
  have HE := Lib.hid (show kindF m ks i = 3 by unfold kindF; rw [HX.out]; simp [HSZ.out.1, HSZ.out.2, HB1.out])
  go_wp2
  go_ret
  exact ⟨congrArg (fun v => Ending.returned (Value.int .i64 v)) HE.out.symm, hB2⟩
 | true =>
 go_wp2_with fail
 refine (HF1.out _ (HO.out.below hB2) HK.out).mono ?_
 rintro e w3 ⟨rfl, hb3⟩
 have hF3 := heap_below HF.out hb3
 have hK3 := heap_below HK.out hb3
 have hB3 := below_then hb3 hB2 hB2.size
 clear f0 f1 f2 f3 f4 f5 f6 f7 k0 k1 k2 k3 k5
 clear HF HK
 have HF := Lib.hid hF3; have HK := Lib.hid hK3
 clear hF3 hK3 hb3
 obtain ⟨⟨f0, f1, f2, f3, f4, f5, f6⟩, f7⟩ := obox7 HF.out
 obtain ⟨⟨k0, k1, k2, k3⟩, -, k5⟩ := obox4 HK.out
 cases B2 with
 | true =>
  have HE := Lib.hid (show kindF m ks i = 7 by unfold kindF; rw [HX.out]; simp [HSZ.out.1, HSZ.out.2, HB1.out, HB2.out])
  go_wp2
  go_ret
  exact ⟨congrArg (fun v => Ending.returned (Value.int .i64 v)) HE.out.symm, hB3⟩
 | false =>
 have hc30 : w3.cell? ⟨b, off, none⟩ = some (.string t0) := (hB3.cell (p := ⟨b, off, none⟩) hbw).trans z0
 have cz : w3.cell? ⟨b, off, none⟩ = some (.string t0) := hc30
 by_cases h7 : m = 0 /\ tg.size ≠ t0.size
 ·obtain ⟨h7, h8⟩ := h7
  subst h7
  have HE := Lib.hid (show kindF 0 ks i = 3 by unfold kindF; rw [HX.out]; simp [HSZ.out.1, HSZ.out.2, HB1.out, HB2.out, HT0.out, h8])
  have h8a : ((tg.size : Int) != (t0.size : Int)) = true := by simp; omega
  clear h8
  go_wp2
  go_quiet (fail)
  go_wp2
  go_ret
  exact ⟨congrArg (fun v => Ending.returned (Value.int .i64 v)) HE.out.symm, below_drewN hB3 _⟩
 have H7 := Lib.hid (show ¬ (m = 0 /\ ¬ tg.size = (kA ks 0).tag.size) by rw [HT0.out]; exact h7)
 go_upto_region 7 with fail
 go_cut [40] (fun v wx => v = .bool false /\ ∃ q, wx = w3.drewN q)
 case first =>
  by_cases h8 : m = 0
  ·subst h8
   have h9 : ((tg.size : Int) != (t0.size : Int)) = false := by
    have : tg.size = t0.size := Classical.byContradiction fun e => h7 ⟨rfl, e⟩
    rw [this]; simp
   clear h7
   go_quiet (fail)
   go_wp2_with fail
   go_meet
   exact ⟨rfl, _, rfl⟩
  ·have h9 : (m == 0) = false := by simpa using h8
   clear h7 h8
   go_quiet (fail)
   go_wp2_with fail
   go_meet
   exact ⟨rfl, _, rfl⟩
 case rest =>
 obtain ⟨rfl, q4, rfl⟩ := hcut
 clear h7
 have hF4 : (w3.drewN q4).heap[w0.heap.size]? = some (.cells #[.int .u8 m, .int .u8 q, .slice (some ⟨b, off, none⟩) n c, .string hd, .string tl, .string ct, .string sm] 24 (0, 0)) := by exact HF.out
 have hK4 : (w3.drewN q4).heap[w0.heap.size + 1]? = some (.cells #[.string tg, .slice XA nf XC, .int .i64 ms, .string un] 46 (0, 0)) := by exact HK.out
 have hB4 : Below w0.heap.size w0 (w3.drewN q4) := below_drewN hB3 _
 clear f0 f1 f2 f3 f4 f5 f6 f7 k0 k1 k2 k3 k5
 clear HF HK hc30 cz hB3
 generalize w3.drewN q4 = w4 at hF4 hK4 hB4 ⊢
 have HF := Lib.hid hF4; have HK := Lib.hid hK4
 clear hF4 hK4
 obtain ⟨⟨f0, f1, f2, f3, f4, f5, f6⟩, f7⟩ := obox7 HF.out
 obtain ⟨⟨k0, k1, k2, k3⟩, -, k5⟩ := obox4 HK.out
 by_cases h9 : 50 < nf
 ·have HE := Lib.hid (show kindF m ks i = 2 by unfold kindF; rw [HX.out]; simp [HSZ.out.1, HSZ.out.2, HB1.out, HB2.out, H7.out, HNF.out, h9])
  have h9a : (50 : Int) < (nf : Int) := by omega
  clear h9
  go_wp2
  go_ret
  exact ⟨congrArg (fun v => Ending.returned (Value.int .i64 v)) HE.out.symm, hB4⟩
 have h9a : ¬ (50 : Int) < (nf : Int) := by omega
 have H9 := Lib.hid (show ¬ 50 < fs.length by rw [HNF.out]; exact h9)
 have hnf50 : nf <= 50 := by omega
 clear h9
 go_wp2_with fail
 go_loopw [64] (fun i wr => ∃ j : Nat, j <= nf /\ i = .int .i64 j /\ Hid (wr.heap[w0.heap.size]? = some (.cells #[.int .u8 m, .int .u8 q, .slice (some ⟨b, off, none⟩) n c, .string hd, .string tl, .string ct, .string sm] 24 (0, 0))) /\ Hid (wr.heap[w0.heap.size + 1]? = some (.cells #[.string tg, .slice XA nf XC, .int .i64 ms, .string un] 46 (0, 0))) /\ Below w0.heap.size w0 wr /\ Hid (∀ t, t < j -> colF m (cA fs t) (fs.take t) = 0)) (fun i _ => nf - (intOf i).toNat)
 case atStart => exact ⟨0, Nat.zero_le _, rfl, HF, HK, hB4, Lib.hid (fun t h => absurd h (Nat.not_lt_zero _))⟩
 case round =>
  clear f0 f1 f2 f3 f4 f5 f6 f7 k0 k1 k2 k3 k5
  clear HF HK
  obtain ⟨j, hj, rfl, HF, HK, hB5, HJ⟩ := hrel
  obtain ⟨⟨f0, f1, f2, f3, f4, f5, f6⟩, f7⟩ := obox7 HF.out
  obtain ⟨⟨k0, k1, k2, k3⟩, -, k5⟩ := obox4 HK.out
  rcases Nat.lt_or_ge j nf with hlt | hge
  ·have hltf : j < fs.length := by rw [HNF.out]; exact hlt
   obtain ⟨bc, oc, hXA, hbc, x0, x1, x2, x3, x4, x5, x6, x7⟩ := (HCO.out.below hB5).cells hltf
   subst hXA
   have HCJ := Lib.hid (HCF.out j hltf)
   have hle : (fs.take j).length = j := by rw [List.length_take]; omega
   rw [hle] at HCJ
   clear hle
   obtain ⟨C, hC⟩ : ∃ C, cA fs j = C := ⟨_, rfl⟩
   have HC := Lib.hid hC
   rw [hC] at x0 x1 x2 x3 x4 x5 x6 x7 HCJ
   obtain ⟨nm, kd, wd, pl, fo, ri, fi, ne⟩ := C
   obtain ⟨E, hE⟩ : ∃ E, colF m ⟨nm, kd, wd, pl, fo, ri, fi, ne⟩ (fs.take j) = E := ⟨_, rfl⟩
   rw [hE] at HCJ
   have HEE := Lib.hid hE
   clear hC hE hltf
   unfold colG at HCJ
   simp only at x0 x1 x2 x3 x4 x5 x6 x7 HCJ
   go_upto_region 14 with fail
   have hL : (wr.alloc (.cells #[.string nm, .int .i64 kd, .int .i64 wd, .int .i64 pl, .int .i64 fo, .bool ri, .int .u8 fi, .bool ne] 85)).heap[wr.heap.size]? = some (.cells #[.string nm, .int .i64 kd, .int .i64 wd, .int .i64 pl, .int .i64 fo, .bool ri, .int .u8 fi, .bool ne] 85 (0, 0)) := heap_new _ _ rfl
   have hF6 := heap_old HF.out (.cells #[.string nm, .int .i64 kd, .int .i64 wd, .int .i64 pl, .int .i64 fo, .bool ri, .int .u8 fi, .bool ne] 85)
   have hK6 := heap_old HK.out (.cells #[.string nm, .int .i64 kd, .int .i64 wd, .int .i64 pl, .int .i64 fo, .bool ri, .int .u8 fi, .bool ne] 85)
   have hB6 : Below w0.heap.size w0 (wr.alloc (.cells #[.string nm, .int .i64 kd, .int .i64 wd, .int .i64 pl, .int .i64 fo, .bool ri, .int .u8 fi, .bool ne] 85)) := by go_grown
   clear x0 x1 x2 x3 x4 x5 x6 x7 hbc
   obtain ⟨L, hLL⟩ : ∃ L, wr.heap.size = L := ⟨_, rfl⟩
   rw [hLL] at hL ⊢
   clear f0 f1 f2 f3 f4 f5 f6 f7 k0 k1 k2 k3 k5
   clear HF HK
   generalize wr.alloc (.cells #[.string nm, .int .i64 kd, .int .i64 wd, .int .i64 pl, .int .i64 fo, .bool ri, .int .u8 fi, .bool ne] 85) = w6 at hL hF6 hK6 hB6 ⊢
   have HF := Lib.hid hF6; have HK := Lib.hid hK6; have HL := Lib.hid hL
   clear hF6 hK6 hL hB5 hLL
   obtain ⟨⟨f0, f1, f2, f3, f4, f5, f6⟩, f7⟩ := obox7 HF.out
   obtain ⟨⟨k0, k1, k2, k3⟩, -, k5⟩ := obox4 HK.out
   obtain ⟨⟨c0, c1, c2, c3, c4, c5, c6, c7⟩, c8⟩ := obox8 HL.out
   have hj0 : (0 : Int) <= (j : Int) := by omega
   have hjc : (j : Int) <= (XC : Int) := by omega
   have hjn : j <= XC := by omega
   go_region_held3 (fun w' => w'.cell? ⟨w0.heap.size, 0, none⟩ = some (.int .u8 m) /\ w'.cell? ⟨w0.heap.size, 1, none⟩ = some (.int .u8 q) /\ w'.cell? ⟨w0.heap.size, 2, none⟩ = some (.slice (some ⟨b, off, none⟩) n c) /\ w'.cell? ⟨w0.heap.size, 3, none⟩ = some (.string hd) /\ w'.cell? ⟨w0.heap.size, 4, none⟩ = some (.string tl) /\ w'.cell? ⟨w0.heap.size, 5, none⟩ = some (.string ct) /\ w'.cell? ⟨w0.heap.size, 6, none⟩ = some (.string sm) /\ w'.cell? ⟨L, 0, none⟩ = some (.string nm) /\ w'.cell? ⟨L, 1, none⟩ = some (.int .i64 kd) /\ w'.cell? ⟨L, 2, none⟩ = some (.int .i64 wd) /\ w'.cell? ⟨L, 3, none⟩ = some (.int .i64 pl) /\ w'.cell? ⟨L, 4, none⟩ = some (.int .i64 fo) /\ w'.cell? ⟨L, 5, none⟩ = some (.bool ri) /\ w'.cell? ⟨L, 6, none⟩ = some (.int .u8 fi) /\ w'.cell? ⟨L, 7, none⟩ = some (.bool ne) /\ w'.cell? ⟨w0.heap.size + 1, 1, none⟩ = some (.slice (some ⟨bc, oc, none⟩) nf XC))
    (first | (with_reducible exact ⟨g0, g1, g2, g3, g4, g5, g6, d0, d1, d2, d3, d4, d5, d6, d7, e1⟩) | (exact ⟨f0, f1, f2, f3, f4, f5, f6, c0, c1, c2, c3, c4, c5, c6, c7, k1⟩) | (go_keep; done))
    (first | (go_at_call 103; refine (HCJ.out _ ((HCO.out.below (by first | exact hB6.drew | exact hB6)).take j)).mono ?_; rintro e w7 ⟨rfl, hb7⟩; (have hF7 := heap_below (w := w6.drew) HF.out hb7); (have hK7 := heap_below (w := w6.drew) HK.out hb7); (have hL7 := heap_below (w := w6.drew) HL.out hb7); (have hB7 := below_then hb7 hB6.drew hB6.size); obtain ⟨⟨g0, g1, g2, g3, g4, g5, g6⟩, g7⟩ := obox7 hF7; obtain ⟨⟨d0, d1, d2, d3, d4, d5, d6, d7⟩, d8⟩ := obox8 hL7; obtain ⟨⟨e0, e1, e2, e3⟩, -, e5⟩ := obox4 hK7))
   have HF7 := Lib.hid hF7; have HK7 := Lib.hid hK7
   clear f0 f1 f2 f3 f4 f5 f6 f7 k0 k1 k2 k3 k5
   clear c0 c1 c2 c3 c4 c5 c6 c7 c8 HF HK hF7 hK7 hL7
   by_cases hz : E = 0
   ·subst hz
    have HJ2 := Lib.hid (show ∀ t, t < j + 1 -> colF m (cA fs t) (fs.take t) = 0 from fun t ht => by
     rcases Nat.lt_or_ge t j with h | h
     ·exact HJ.out t h
     ·obtain rfl : t = j := by omega
      rw [HC.out]; exact HEE.out)
    go_wp2
    go_roundw
    case rel => exact ⟨j + 1, by omega, by go_num, HF7, HK7, hB7, HJ2⟩
    case measure => simp [intOf]; omega
   ·have HEN := Lib.hid (show colsF m fs = E from by
     unfold colsF
     rw [fstF_hit (k := j) (by rw [HNF.out]; exact hlt) (fun t ht => HJ.out t ht) (by rw [HC.out, HEE.out]; exact hz), HC.out, HEE.out])
    have HE := Lib.hid (show kindF m ks i = E by unfold kindF; rw [HX.out]; simp [HSZ.out.1, HSZ.out.2, HB1.out, HB2.out, H7.out, H9.out, HEN.out, hz])
    have hza : (E != 0) = true := by simpa using hz
    clear hz
    go_wp2
    go_ret
    exact ⟨congrArg (fun v => Ending.returned (Value.int .i64 v)) HE.out.symm, hB7⟩
  ·obtain rfl : j = nf := by omega
   have HEN := Lib.hid (show colsF m fs = 0 from by
    unfold colsF
    exact fstF_no (fun t ht => HJ.out t (by rw [<- HNF.out]; exact ht)))
   by_cases h10 : 0 <= ms /\ ms <= 2000
   case neg =>
    have HE := Lib.hid (show kindF m ks i = 1 by unfold kindF; rw [HX.out]; simp [HSZ.out.1, HSZ.out.2, HB1.out, HB2.out, H7.out, H9.out, HEN.out, h10])
    have HO2 := Lib.hid (fun w => fout_b ms 0 2000 w)
    rw [decide_eq_false h10] at HO2
    clear h10
    go_wp2_with fail
    refine (HO2.out _).mono ?_
    rintro e w9 ⟨rfl, rfl⟩
    go_wp2
    go_ret
    exact ⟨congrArg (fun v => Ending.returned (Value.int .i64 v)) HE.out.symm, hB5⟩
   have HO2 := Lib.hid (fun w => fout_b ms 0 2000 w)
   rw [decide_eq_true h10] at HO2
   have H10 := Lib.hid h10
   clear h10
   go_wp2_with fail
   refine (HO2.out _).mono ?_
   rintro e w9 ⟨rfl, rfl⟩
   by_cases h11 : un = ⟨#[]⟩
   ·have HU := Lib.hid h11
    have hu : un.toList.isEmpty = true := by rw [emp_dec, decide_eq_true h11]
    have HE := Lib.hid (show kindF m ks i = 0 by unfold kindF; rw [HX.out]; simp [HSZ.out.1, HSZ.out.2, HB1.out, HB2.out, H7.out, H9.out, HEN.out, H10.out, HU.out])
    clear h11
    go_wp2
    go_ret
    exact ⟨congrArg (fun v => Ending.returned (Value.int .i64 v)) HE.out.symm, hB5⟩
   have hu : un.toList.isEmpty = false := by rw [emp_dec, decide_eq_false h11]
   have HU := Lib.hid h11
   clear h11
   go_wp2_with fail
   refine (HF2.out _ (HO.out.below hB5) HK.out).mono ?_
   rintro e w8 ⟨rfl, hb8⟩
   have hB8 := below_then hb8 hB5 hB5.size
   cases B3 with
   | false =>
    have HE := Lib.hid (show kindF m ks i = 5 by unfold kindF; rw [HX.out]; simp [HSZ.out.1, HSZ.out.2, HB1.out, HB2.out, H7.out, H9.out, HEN.out, H10.out, HU.out, HB3.out])
    go_wp2
    go_ret
    exact ⟨congrArg (fun v => Ending.returned (Value.int .i64 v)) HE.out.symm, hB8⟩
   | true =>
    have HE := Lib.hid (show kindF m ks i = 0 by unfold kindF; rw [HX.out]; simp [HSZ.out.1, HSZ.out.2, HB1.out, HB2.out, H7.out, H9.out, HEN.out, H10.out, HU.out, HB3.out])
    go_wp2
    go_ret
    exact ⟨congrArg (fun v => Ending.returned (Value.int .i64 v)) HE.out.symm, hB8⟩
end Go.Proofs.YtbnjejenejoibaaGreatDoor
