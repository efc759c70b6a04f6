
/- The walk of the law FlatTurnsMatchSpec. -/
import Derived.Test.YtaiabjiehpcaoaaGreatDoorZF
import Derived.Test.YtaiabjiehpcaoaaGreatDoorB3
import Derived.Test.YtaiabjiehpcaoaaGreatDoorB8
namespace Go.Proofs.YtaiabjiehpcaoaaGreatDoor
open Go.RowKit Limb Nmb Work
set_option linter.unusedVariables false
set_option linter.unusedSimpArgs false
def losA (l : List Loss) (j : Nat) : Loss := l.getD j ⟨⟨#[]⟩, ⟨#[]⟩, 0⟩
theorem losC_get : ∀ (l : List Loss) {j : Nat}, j < l.length -> (losC l)[j * 3]? = some (.string (losA l j).tag) /\ (losC l)[j * 3 + 1]? = some (.string (losA l j).name) /\ (losC l)[j * 3 + 2]? = some (.int .i64 (losA l j).kind)
 | [], _, h => absurd h (Nat.not_lt_zero _)
 | x :: l, 0, _ => ⟨rfl, rfl, rfl⟩
 | x :: l, j + 1, h => by
  have ih := losC_get l (j := j) (by simp at h; omega)
  have e : losC (x :: l) = losL x ++ losC l := by unfold losC; rw [List.flatMap_cons]
  have hl : (losL x).length = 3 := rfl
  rw [e, List.getElem?_append_right (by omega), List.getElem?_append_right (by omega), List.getElem?_append_right (by omega), hl, show (j + 1) * 3 - 3 = j * 3 by omega, show (j + 1) * 3 + 1 - 3 = j * 3 + 1 by omega, show (j + 1) * 3 + 2 - 3 = j * 3 + 2 by omega]
  exact ih
set_option maxHeartbeats 2000000 in
set_option maxRecDepth 100000 in
theorem eqloss_q (l : List Loss) (A B : Option Addr) (c d : Nat) (w : World) (ha : Los w A l) (hb : Los w B l) (hm : l.length <= 100000) :
  Calls Tryz.prog 10 #[.slice A l.length c, .slice B l.length d] w fun e w' => e = .returned (.bool true) /\ ∃ q, w' = w.drewN q := by
 have HA := Lib.hid ha; have HB := Lib.hid hb
 have HG := Lib.hid (fun j h => losC_get l (j := j) h)
 obtain ⟨n, hnn⟩ : ∃ x, l.length = x := ⟨_, rfl⟩
 have HN := Lib.hid hnn
 rw [hnn] at hm ⊢
 clear ha hb hnn
 go_enter Tryz.func10, Tryz.ntmps10
 go_wp2
 go_loopw [13] (fun y wx => ∃ j : Nat, j <= n /\ y = .int .i64 j /\ ∃ q, wx = w.drewN q) (fun y _ => n - (intOf y).toNat)
 case atStart => exact ⟨0, Nat.zero_le _, rfl, 0, rfl⟩
 case round =>
  obtain ⟨j, hj, rfl, q, rfl⟩ := hrel
  rcases Nat.lt_or_ge j n with hlt | hge
  ·obtain ⟨a, oa, rfl, -, ca⟩ := HA.out (by rw [HN.out]; omega)
   obtain ⟨b, ob, rfl, -, cb⟩ := HB.out (by rw [HN.out]; omega)
   obtain ⟨g0, g1, g2⟩ := HG.out j (by rw [HN.out]; exact hlt)
   have a0 := ca _ _ g0; have a1 := ca _ _ g1; have a2 := ca _ _ g2
   have b0 := cb _ _ g0; have b1 := cb _ _ g1; have b2 := cb _ _ g2
   obtain ⟨⟨s, t, u⟩, hs⟩ : ∃ x, losA l j = x := ⟨_, rfl⟩
   rw [hs] at a0 a1 a2 b0 b1 b2
   simp only at a0 a1 a2 b0 b1 b2
   rw [<- Nat.add_assoc] at a1 a2 b1 b2
   clear ca cb hs g0 g1 g2
   go_wp2_with fail
   go_quiet (fail)
   have e : (w.drewN q).drewN nq = w.drewN (q + nq) := World.drewN_drewN _ _ _
   rw [e]
   go_wp2
   go_roundw
   case rel => exact ⟨j + 1, by omega, by go_num, q + nq, rfl⟩
   case measure => simp [intOf]; omega
  ·obtain rfl : j = n := by omega
   go_wp2
   go_ret
   exact ⟨rfl, q, rfl⟩
theorem fits_len (f g : Fmt) : (fitsR f g).1.length <= 100000 := by
 unfold fitsR
 split
 ·simp
 ·rename_i h
  have h0 : fitsE f g = 0 := Classical.byContradiction h
  unfold fitsE at h0
  split at h0
  ·rename_i h2; exact absurd h0 h2
  ·rename_i h2
   have hf := checkF_ok (Classical.byContradiction h2 : checkF f = 0)
   have hg := checkF_ok h0
   unfold fitsL
   rw [List.length_append]
   have h1 := flat_len (F := kindLoss f g) (b := 101) (l := f.kinds) fun k hk => by
    obtain ⟨j, hj, rfl⟩ := List.getElem_of_mem hk
    have hm := (hf.kinds j hj).many
    rw [<- kA_get hj] at hm
    unfold kindLoss
    split
    ·simp
    ·have := flat_len (F := fun c => lossesF f g f.kinds[j].tag c (katK g f.kinds[j].tag)) (b := 2) (l := f.kinds[j].fields) fun c _ => losses_len ..
     omega
   have h3 := flat_len (F := needLoss f) (b := 50) (l := g.kinds) fun k hk => by
    obtain ⟨j, hj, rfl⟩ := List.getElem_of_mem hk
    have hm := (hg.kinds j hj).many
    rw [<- kA_get hj] at hm
    unfold needLoss
    have := flat_len (F := needLoss1 f g.kinds[j]) (b := 1) (l := g.kinds[j].fields) fun c _ => need_len ..
    omega
   have h4 := hf.some.2; have h5 := hg.some.2
   omega
set_option maxHeartbeats 4000000 in
set_option maxRecDepth 100000 in
theorem law_turns (f g : Fmt) (A B : Option Addr) (cp cq : Nat) (FA GA : Nat -> Option Addr) (FC GC : Nat -> Nat) (L : Option Addr) (LC : Nat) (rs : List RowP) (RA : Nat -> Option Addr) (RC : Nat -> Nat) (m0 : Int) (w : World) (ho : Kinds w A f.kinds FA FC) (hg : Kinds w B g.kinds GA GC) (hl : RowsM w L rs RA RC) (hcp : f.kinds.length <= cp) (hcq : g.kinds.length <= cq) (hm : 0 <= f.mark /\ f.mark <= 255) (hq : 0 <= f.quote /\ f.quote <= 255) (hm2 : 0 <= g.mark /\ g.mark <= 255) (hq2 : 0 <= g.quote /\ g.quote <= 255) (ht : Tab w) (hm0 : w.cell? ⟨2, 0, none⟩ = some (.int .i64 m0)) :
  Calls Tryz.prog 3 #[fmtG f A cp, fmtG g B cq, .slice L rs.length LC] w fun e w' => e = .returned (.bool true) /\ Below w.heap.size w w' := by
 have HFI := Lib.hid (fun w h h2 => fits_c f g A B cp cq FA GA FC GC w h h2 hcp hcq hm hq hm2 hq2)
 have HRI := Lib.hid (fun w h h2 ht => rfits_c f g A B cp cq FA GA FC GC w h h2 hcp hcq hm hq hm2 hq2 ht)
 have HTU := Lib.hid (fun w h h2 h3 ht => Turned_c f g A B cp cq FA GA FC GC L LC rs RA RC w h h2 h3 hcp hcq hm hq hm2 hq2 ht)
 have HRU := Lib.hid (fun w h h2 h3 ht => rTurned_c f g A B cp cq FA GA FC GC L LC rs RA RC w h h2 h3 hcp hcq hm hq hm2 hq2 ht)
 have HK := Lib.hid ho; have HKG := Lib.hid hg; have HRM := Lib.hid hl; have HT := Lib.hid ht; have HM := Lib.hid hm0
 have hfl := fits_len f g
 obtain ⟨⟨ls, le⟩, hFR⟩ : ∃ x, fitsR f g = x := ⟨_, rfl⟩
 obtain ⟨⟨tr, tn, te⟩, hTR⟩ : ∃ x, turnR f g rs = x := ⟨_, rfl⟩
 rw [hFR] at HFI HRI hfl
 rw [hTR] at HTU HRU
 unfold RetFits at HFI HRI
 unfold RetTd at HTU HRU
 simp only at HFI HRI HTU HRU hfl
 clear hFR hTR ho hg hl ht hm0
 obtain ⟨m, q, ks, hd, tl, ct, sm⟩ := f
 obtain ⟨mg, qg, kg, hdg, tlg, ctg, smg⟩ := g
 unfold fmtG at HFI HRI HTU HRU ⊢
 simp only at HFI HRI HTU HRU HK HKG hcp hcq ⊢
 obtain ⟨nk, hnk⟩ : ∃ x, ks.length = x := ⟨_, rfl⟩
 obtain ⟨ng, hng⟩ : ∃ x, kg.length = x := ⟨_, rfl⟩
 obtain ⟨nr, hnr⟩ : ∃ x, rs.length = x := ⟨_, rfl⟩
 have HNR := Lib.hid hnr
 rw [hnk, hng] at HFI HRI HTU HRU
 rw [hnk] at hcp ⊢
 rw [hng] at hcq ⊢
 rw [hnr] at HTU HRU ⊢
 clear hnk hng hnr
 have HP1 := Lib.hid (heap_old (heap_new w (.cells #[.int .u8 m, .int .u8 q, .slice A nk cp, .string hd, .string tl, .string ct, .string sm] 24) rfl) (.cells #[.int .u8 mg, .int .u8 qg, .slice B ng cq, .string hdg, .string tlg, .string ctg, .string smg] 24))
 have HQ1 := Lib.hid (heap_new (w.alloc (.cells #[.int .u8 m, .int .u8 q, .slice A nk cp, .string hd, .string tl, .string ct, .string sm] 24)) (.cells #[.int .u8 mg, .int .u8 qg, .slice B ng cq, .string hdg, .string tlg, .string ctg, .string smg] 24) (g := w.heap.size + 1) (by simp))
 have HB1 : Hid (Below w.heap.size w ((w.alloc (.cells #[.int .u8 m, .int .u8 q, .slice A nk cp, .string hd, .string tl, .string ct, .string sm] 24)).alloc (.cells #[.int .u8 mg, .int .u8 qg, .slice B ng cq, .string hdg, .string tlg, .string ctg, .string smg] 24))) := Lib.hid (by go_grown)
 go_enter Tryz.func3, Tryz.ntmps3
 go_upto_region 1 with fail
 generalize (w.alloc (.cells #[.int .u8 m, .int .u8 q, .slice A nk cp, .string hd, .string tl, .string ct, .string sm] 24)).alloc (.cells #[.int .u8 mg, .int .u8 qg, .slice B ng cq, .string hdg, .string tlg, .string ctg, .string smg] 24) = w1 at HP1 HQ1 HB1 ⊢
 obtain ⟨⟨f0, f1, f2, f3, f4, f5, f6⟩, f7⟩ := obox7 HP1.out
 obtain ⟨⟨x0, x1, x2, x3, x4, x5, x6⟩, x7⟩ := obox7 HQ1.out
 go_wp2_with fail
 refine (HTU.out _ (HK.out.below HB1.out) (HKG.out.below HB1.out) (HRM.out.below HB1.out) (HT.out.below HB1.out)).mono ?_
 rintro _ w2 ⟨X2, c2, rfl, ⟨RA2, RC2, hr2⟩, hb2⟩
 have HP2 := Lib.hid (heap_below HP1.out hb2); have HQ2 := Lib.hid (heap_below HQ1.out hb2); have HB2 := Lib.hid (below_then hb2 HB1.out HB1.out.size)
 have HR2 := Lib.hid hr2
 clear hr2
 clear f0 f1 f2 f3 f4 f5 f6 f7 x0 x1 x2 x3 x4 x5 x6 x7 hb2 HP1 HQ1
 obtain ⟨⟨f0, f1, f2, f3, f4, f5, f6⟩, f7⟩ := obox7 HP2.out
 obtain ⟨⟨x0, x1, x2, x3, x4, x5, x6⟩, x7⟩ := obox7 HQ2.out
 go_wp2_with fail
 refine (HRU.out _ (HK.out.below HB2.out) (HKG.out.below HB2.out) (HRM.out.below HB2.out) (HT.out.below HB2.out)).mono ?_
 rintro _ w3 ⟨X3, c3, rfl, ⟨RA3, RC3, hr3⟩, hb3⟩
 have HP3 := Lib.hid (heap_below HP2.out hb3); have HQ3 := Lib.hid (heap_below HQ2.out hb3); have HB3 := Lib.hid (below_then hb3 HB2.out HB2.out.size)
 have HR3 := Lib.hid hr3; have HR2b := Lib.hid (HR2.out.below hb3)
 clear hr3 HR2
 clear f0 f1 f2 f3 f4 f5 f6 f7 x0 x1 x2 x3 x4 x5 x6 x7 hb3 HP2 HQ2
 have g1 : (te != te) = false := by simp
 have g2 : ((tn : Int) != (tn : Int)) = false := by simp
 go_wp2_with fail
 refine (same_c X2 X3 c2 c3 tr RA2 RA3 RC2 RC3 _ HR2b.out HR3.out).mono ?_
 rintro _ w4 ⟨rfl, hb4⟩
 have HP4 := Lib.hid (heap_below HP3.out hb4); have HQ4 := Lib.hid (heap_below HQ3.out hb4); have HB4 := Lib.hid (below_then hb4 HB3.out HB3.out.size)
 clear HP3 HQ3 hb4
 obtain ⟨⟨f0, f1, f2, f3, f4, f5, f6⟩, f7⟩ := obox7 HP4.out
 obtain ⟨⟨x0, x1, x2, x3, x4, x5, x6⟩, x7⟩ := obox7 HQ4.out
 go_wp2_with fail
 refine (HFI.out _ (HK.out.below HB4.out) (HKG.out.below HB4.out)).mono ?_
 rintro _ w5 ⟨X5, c5, rfl, hl5, hb5⟩
 have HP5 := Lib.hid (heap_below HP4.out hb5); have HQ5 := Lib.hid (heap_below HQ4.out hb5); have HB5 := Lib.hid (below_then hb5 HB4.out HB4.out.size)
 have HL5 := Lib.hid hl5
 clear hl5
 clear f0 f1 f2 f3 f4 f5 f6 f7 x0 x1 x2 x3 x4 x5 x6 x7 hb5 HP4 HQ4
 obtain ⟨⟨f0, f1, f2, f3, f4, f5, f6⟩, f7⟩ := obox7 HP5.out
 obtain ⟨⟨x0, x1, x2, x3, x4, x5, x6⟩, x7⟩ := obox7 HQ5.out
 go_wp2_with fail
 refine (HRI.out _ (HK.out.below HB5.out) (HKG.out.below HB5.out) (HT.out.below HB5.out)).mono ?_
 rintro _ w6 ⟨X6, c6, rfl, hl6, hb6⟩
 have HP6 := Lib.hid (heap_below HP5.out hb6); have HQ6 := Lib.hid (heap_below HQ5.out hb6); have HB6 := Lib.hid (below_then hb6 HB5.out HB5.out.size)
 have HL6 := Lib.hid hl6; have HL5b := Lib.hid (HL5.out.below hb6)
 clear hl6 HL5
 clear f0 f1 f2 f3 f4 f5 f6 f7 x0 x1 x2 x3 x4 x5 x6 x7 hb6 HP5 HQ5
 have g3 : (le == le) = true := by simp
 go_wp2_with fail
 refine (eqloss_q ls X5 X6 c5 c6 _ HL5b.out HL6.out hfl).mono ?_
 rintro _ w7 ⟨rfl, q7, rfl⟩
 have HB7 := Lib.hid (below_drewN HB6.out q7)
 have HM7 := Lib.hid ((HB7.out.cell (p := ⟨2, 0, none⟩) (World.block_lt_of_cell? _ _ HM.out)).trans HM.out)
 go_wp2_with fail
 refine (awake6_c m0 _ HM7.out).mono ?_
 rintro _ w8 ⟨rfl, hb8⟩
 have hB8 := below_then hb8 HB7.out HB7.out.size
 go_wp2
 go_ret
 exact ⟨rfl, hB8⟩
theorem law_turns_i (f g : Fmt) (A B : Option Addr) (cp cq : Nat) (FA GA : Nat -> Option Addr) (FC GC : Nat -> Nat) (L : Option Addr) (LC : Nat) (rs : List RowP) (RA : Nat -> Option Addr) (RC : Nat -> Nat) (w : World) (ho : Kinds w A f.kinds FA FC) (hg : Kinds w B g.kinds GA GC) (hl : RowsM w L rs RA RC) (hcp : f.kinds.length <= cp) (hcq : g.kinds.length <= cq) (hm : 0 <= f.mark /\ f.mark <= 255) (hq : 0 <= f.quote /\ f.quote <= 255) (hm2 : 0 <= g.mark /\ g.mark <= 255) (hq2 : 0 <= g.quote /\ g.quote <= 255) (ht : Tab w) (hm0 : ∃ m, w.cell? ⟨2, 0, none⟩ = some (.int .i64 m)) :
  Calls Tryz.prog 3 #[fmtG f A cp, fmtG g B cq, .slice L rs.length LC] w fun e w' => e = .returned (.bool true) /\ Below w.heap.size w w' := by
 obtain ⟨m0, h⟩ := hm0
 exact law_turns f g A B cp cq FA GA FC GC L LC rs RA RC m0 w ho hg hl hcp hcq hm hq hm2 hq2 ht h
end Go.Proofs.YtaiabjiehpcaoaaGreatDoor
