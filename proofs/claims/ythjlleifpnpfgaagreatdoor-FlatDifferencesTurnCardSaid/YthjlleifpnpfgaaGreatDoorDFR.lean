
/- The walks of the reference's Mirrored and of the law FlatDifferencesTurn. -/
import Derived.Test.YthjlleifpnpfgaaGreatDoorDFQ
import Derived.Test.YthjlleifpnpfgaaGreatDoorY1
import Derived.Laws.StructEq
namespace Go.Proofs.YthjlleifpnpfgaaGreatDoor
open Go.RowKit Limb Nmb Work
set_option linter.unusedVariables false
set_option linter.unusedSimpArgs false
theorem chA_map {l : List ChgP} {j : Nat} (h : j < l.length) : chA (l.map flipC) j = flipC (chA l j) := by
 rw [<- chA_get h, <- chA_get (by rw [List.length_map]; exact h), List.getElem_map]
set_option maxHeartbeats 4000000 in
set_option maxRecDepth 100000 in
theorem mirrored_c (l : List ChgP) (A B : Option Addr) (c d : Nat) (w : World) (ha : Chgs w A l) (hb : Chgs w B (l.map flipC)) (hm : l.length <= 9223372036854775807) :
  Calls Tryz.prog 7 #[.slice A l.length c, .slice B l.length d] w fun e w' => e = .returned (.bool true) /\ Below w.heap.size w w' := by
 have HA := Lib.hid ha; have HB := Lib.hid hb
 have HM := Lib.hid (fun j h => chA_map (l := l) (j := j) h)
 have HML := Lib.hid (show (l.map flipC).length = l.length from List.length_map _)
 obtain ⟨n, hnn⟩ : ∃ x, l.length = x := ⟨_, rfl⟩
 have HN := Lib.hid hnn
 rw [hnn] at hm ⊢
 clear ha hb hnn
 have hne : (n != n) = false := by simp
 go_enter Tryz.func7, Tryz.ntmps7
 go_wp2
 go_loopw [14] (fun y wr => ∃ j : Nat, j <= n /\ y = .int .i64 j /\ Hid (Below w.heap.size w wr)) (fun y _ => n - (intOf y).toNat)
 case atStart => exact ⟨0, Nat.zero_le _, rfl, Lib.hid (Below.refl _ _)⟩
 case round =>
  obtain ⟨j, hj, rfl, HBW⟩ := hrel
  rcases Nat.lt_or_ge j n with hlt | hge
  ·have hjl : j < l.length := by rw [HN.out]; exact hlt
   obtain ⟨b1, o1, rfl, hb1, c0, c1, c2, c3⟩ := (HA.out.below HBW.out).cells hjl
   have HBR := Lib.hid (HB.out.below HBW.out)
   have HMJ := Lib.hid (HM.out j hjl)
   obtain ⟨⟨tg, ky, kd, cl⟩, hx⟩ : ∃ x, chA l j = x := ⟨_, rfl⟩
   rw [hx] at c0 c1 c2 c3 HMJ
   simp only at c0 c1 c2 c3
   clear hx
   have HX5 := Lib.hid (heap_new wr (.cells #[.string tg, .string ky, .int .i64 kd, .string cl] 40) rfl)
   have hb5 : Below wr.heap.size wr (wr.alloc (.cells #[.string tg, .string ky, .int .i64 kd, .string cl] 40)) := by go_grown
   have HB5 := Lib.hid (below_then hb5 HBW.out HBW.out.size)
   have HC5 := Lib.hid (HBR.out.below hb5)
   have hzr := HBW.out.size
   go_upto_region 6 with fail
   obtain ⟨x0, hx0⟩ : ∃ x, wr.heap.size = x := ⟨_, rfl⟩
   rw [hx0] at HX5 hzr
   try rw [hx0]
   generalize wr.alloc (.cells #[.string tg, .string ky, .int .i64 kd, .string cl] 40) = w5 at HX5 HB5 HC5 ⊢
   clear c0 c1 c2 c3 hb1 hb5 hx0 HBR HBW
   obtain ⟨⟨a0, a1, a2, a3⟩, ⟨z0, z1, z2, z3⟩, a4⟩ := obox4 HX5.out
   by_cases hk1 : kd = 1
   ·subst hk1
    have HFK := Lib.hid (show flipC ⟨tg, ky, 1, cl⟩ = ⟨tg, ky, 2, cl⟩ from rfl)
    have HX6 := Lib.hid (heap_set HX5.out 2 (.int .i64 2))
    have HB6 := Lib.hid (HB5.out.setCell (p := ⟨x0, 2, none⟩) hzr (.int .i64 2))
    go_upto_region 11 with fail
    generalize w5.setCell ⟨x0, 2, none⟩ (.int .i64 2) = w6 at HX6 HB6 ⊢
    have HX6 := Lib.hid (show w6.heap[x0]? = some (.cells #[.string tg, .string ky, .int .i64 2, .string cl] 40 (0, 0)) from HX6.out)
    clear a0 a1 a2 a3 z0 z1 z2 z3 a4
    obtain ⟨⟨a0, a1, a2, a3⟩, -, a4⟩ := obox4 HX6.out
    obtain ⟨b2, o2, rfl, hb2, d0, d1, d2, d3⟩ := (HB.out.below HB6.out).cells (j := j) (by rw [HML.out]; exact hjl)
    rw [HMJ.out, HFK.out] at d0 d1 d2 d3
    simp only at d0 d1 d2 d3
    have HBQ : Hid (∀ q, Below w.heap.size w (w6.drewN q)) := Lib.hid (fun q => dbelow_dn HB6.out q)
    go_wp2_with fail
    go_quiet (fail)
    have hBQ := HBQ.out nq
    generalize w6.drewN nq = w7 at hBQ ⊢
    have HBR := Lib.hid hBQ
    clear a0 a1 a2 a3 a4 d0 d1 d2 d3 hb2 hBQ
    go_wp2
    go_roundw
    case rel => exact ⟨j + 1, by omega, by go_num, HBR⟩
    case measure => simp [intOf]; omega
   by_cases hk2 : kd = 2
   ·subst hk2
    have HFK := Lib.hid (show flipC ⟨tg, ky, 2, cl⟩ = ⟨tg, ky, 1, cl⟩ from rfl)
    have HX6 := Lib.hid (heap_set HX5.out 2 (.int .i64 1))
    have HB6 := Lib.hid (HB5.out.setCell (p := ⟨x0, 2, none⟩) hzr (.int .i64 1))
    clear hk1
    go_upto_region 11 with fail
    generalize w5.setCell ⟨x0, 2, none⟩ (.int .i64 1) = w6 at HX6 HB6 ⊢
    have HX6 := Lib.hid (show w6.heap[x0]? = some (.cells #[.string tg, .string ky, .int .i64 1, .string cl] 40 (0, 0)) from HX6.out)
    clear a0 a1 a2 a3 z0 z1 z2 z3 a4
    obtain ⟨⟨a0, a1, a2, a3⟩, -, a4⟩ := obox4 HX6.out
    obtain ⟨b2, o2, rfl, hb2, d0, d1, d2, d3⟩ := (HB.out.below HB6.out).cells (j := j) (by rw [HML.out]; exact hjl)
    rw [HMJ.out, HFK.out] at d0 d1 d2 d3
    simp only at d0 d1 d2 d3
    have HBQ : Hid (∀ q, Below w.heap.size w (w6.drewN q)) := Lib.hid (fun q => dbelow_dn HB6.out q)
    go_wp2_with fail
    go_quiet (fail)
    have hBQ := HBQ.out nq
    generalize w6.drewN nq = w7 at hBQ ⊢
    have HBR := Lib.hid hBQ
    clear a0 a1 a2 a3 a4 d0 d1 d2 d3 hb2 hBQ
    go_wp2
    go_roundw
    case rel => exact ⟨j + 1, by omega, by go_num, HBR⟩
    case measure => simp [intOf]; omega
   ·have HFK := Lib.hid (show flipC ⟨tg, ky, kd, cl⟩ = ⟨tg, ky, kd, cl⟩ by unfold flipC; simp only; rw [if_neg hk1, if_neg hk2])
    have e1 : (kd == 1) = false := by simpa using hk1
    have e2 : (kd == 2) = false := by simpa using hk2
    have HX6 := HX5; have HB6 := HB5
    clear hk1 hk2 HX5 HB5
    go_upto_region 11 with fail
    clear e1 e2
    generalize w5 = w6 at HX6 HB6 a0 a1 a2 a3 z0 z1 z2 z3 a4 ⊢
    clear a0 a1 a2 a3 z0 z1 z2 z3 a4
    obtain ⟨⟨a0, a1, a2, a3⟩, -, a4⟩ := obox4 HX6.out
    obtain ⟨b2, o2, rfl, hb2, d0, d1, d2, d3⟩ := (HB.out.below HB6.out).cells (j := j) (by rw [HML.out]; exact hjl)
    rw [HMJ.out, HFK.out] at d0 d1 d2 d3
    simp only at d0 d1 d2 d3
    have HBQ : Hid (∀ q, Below w.heap.size w (w6.drewN q)) := Lib.hid (fun q => dbelow_dn HB6.out q)
    go_wp2_with fail
    go_quiet (fail)
    have hBQ := HBQ.out nq
    generalize w6.drewN nq = w7 at hBQ ⊢
    have HBR := Lib.hid hBQ
    clear a0 a1 a2 a3 a4 d0 d1 d2 d3 hb2 hBQ
    go_wp2
    go_roundw
    case rel => exact ⟨j + 1, by omega, by go_num, HBR⟩
    case measure => simp [intOf]; omega
  ·obtain rfl : j = n := by omega
   have hB := HBW.out
   go_wp2
   go_ret
   exact ⟨rfl, hB⟩
set_option maxHeartbeats 4000000 in
set_option maxRecDepth 100000 in
theorem law_turn (f : Fmt) (A : Option Addr) (cp : Nat) (FA : Nat -> Option Addr) (FC : Nat -> Nat) (L : Option Addr) (LC : Nat) (rs : List RowP) (RA : Nat -> Option Addr) (RC : Nat -> Nat) (M : Option Addr) (MC : Nat) (ss : List RowP) (SA : Nat -> Option Addr) (SC : Nat -> Nat) (name : ByteArray) (m0 : Int) (w : World) (ho : Kinds w A f.kinds FA FC) (hl : RowsM w L rs RA RC) (hl2 : RowsM w M ss SA SC) (hcp : f.kinds.length <= cp) (hm : 0 <= f.mark /\ f.mark <= 255) (hq : 0 <= f.quote /\ f.quote <= 255) (ht : Tab w) (hm0 : w.cell? ⟨0, 0, none⟩ = some (.int .i64 m0)) :
  Calls Tryz.prog 3 #[fmtG f A cp, .slice L rs.length LC, .slice M ss.length MC, .string name] w fun e w' => e = .returned (.bool true) /\ Below w.heap.size w w' := by
 have HD1 := Lib.hid (fun w h h2 h3 ht => diff_c f A cp FA FC L LC rs RA RC M MC ss SA SC name w h h2 h3 hcp hm hq ht)
 have HD2 := Lib.hid (fun w h h2 h3 ht => diff_c f A cp FA FC M MC ss SA SC L LC rs RA RC name w h h2 h3 hcp hm hq ht)
 have HFL := Lib.hid (diff_flip f rs ss name)
 have HEE := Lib.hid (diffE_comm f rs ss name)
 have HK := Lib.hid ho; have HRM := Lib.hid hl; have HSM := Lib.hid hl2; have HT := Lib.hid ht; have HM := Lib.hid hm0
 obtain ⟨D1, hD1⟩ : ∃ x, diffL f rs ss name = x := ⟨_, rfl⟩
 obtain ⟨D2, hD2⟩ : ∃ x, diffL f ss rs name = x := ⟨_, rfl⟩
 obtain ⟨e, hE1⟩ : ∃ x, diffE f rs ss name = x := ⟨_, rfl⟩
 obtain ⟨g, hE2⟩ : ∃ x, diffE f ss rs name = x := ⟨_, rfl⟩
 rw [hD1, hE1] at HD1
 rw [hD2, hE2] at HD2
 rw [hD1, hD2] at HFL
 rw [hE1, hE2] at HEE
 unfold RetDf at HD1 HD2
 clear hD1 hD2 hE1 hE2 ho hl hl2 ht hm0
 obtain ⟨m, q, ks, hd, tl, ct, sm⟩ := f
 unfold fmtG at HD1 HD2 ⊢
 simp only at HD1 HD2 HK hcp ⊢
 obtain ⟨nk, hnk⟩ : ∃ x, ks.length = x := ⟨_, rfl⟩
 obtain ⟨nr, hnr⟩ : ∃ x, rs.length = x := ⟨_, rfl⟩
 obtain ⟨ns, hns⟩ : ∃ x, ss.length = x := ⟨_, rfl⟩
 rw [hnk] at HD1 HD2 hcp ⊢
 rw [hnr, hns] at HD1 HD2 ⊢
 have HLN := Lib.hid (show D2.length = D1.length by rw [<- HFL.out, List.length_map])
 rw [HLN.out] at HD2
 obtain ⟨nd, hnd⟩ : ∃ x, D1.length = x := ⟨_, rfl⟩
 have HMI := Lib.hid (fun A B c d w ha hb hm => mirrored_c D1 A B c d w ha hb hm)
 rw [HFL.out] at HMI
 rw [hnd] at HD1 HD2 HMI
 clear hnk hnr hns hnd
 have HP := Lib.hid (heap_new w (.cells #[.int .u8 m, .int .u8 q, .slice A nk cp, .string hd, .string tl, .string ct, .string sm] 24) rfl)
 have HB1 : Hid (Below w.heap.size w (w.alloc (.cells #[.int .u8 m, .int .u8 q, .slice A nk cp, .string hd, .string tl, .string ct, .string sm] 24))) := Lib.hid (by go_grown)
 go_enter Tryz.func3, Tryz.ntmps3
 go_upto_region 1 with fail
 generalize w.alloc (.cells #[.int .u8 m, .int .u8 q, .slice A nk cp, .string hd, .string tl, .string ct, .string sm] 24) = w1 at HP HB1 ⊢
 obtain ⟨⟨f0, f1, f2, f3, f4, f5, f6⟩, f7⟩ := obox7 HP.out
 go_wp2_with fail
 refine (HD1.out _ (HK.out.below HB1.out) (HRM.out.below HB1.out) (HSM.out.below HB1.out) (HT.out.below HB1.out)).mono ?_
 rintro _ w2 ⟨XA, xc, rfl, hx, hxc, hxb, hb2⟩
 have HP2 := Lib.hid (heap_below HP.out hb2); have HB2 := Lib.hid (below_then hb2 HB1.out HB1.out.size)
 have HX2 := Lib.hid hx
 clear f0 f1 f2 f3 f4 f5 f6 f7 HP HB1 hb2 hx
 obtain ⟨⟨f0, f1, f2, f3, f4, f5, f6⟩, f7⟩ := obox7 HP2.out
 go_wp2_with fail
 refine (HD2.out _ (HK.out.below HB2.out) (HSM.out.below HB2.out) (HRM.out.below HB2.out) (HT.out.below HB2.out)).mono ?_
 rintro _ w3 ⟨YA, yc, rfl, hy, hyc, hyb, hb3⟩
 have HB3 := Lib.hid (below_then hb3 HB2.out HB2.out.size)
 have HX3 := Lib.hid (HX2.out.below hb3); have HY3 := Lib.hid hy
 clear f0 f1 f2 f3 f4 f5 f6 f7 HP2 HB2 hb3 hy HX2
 have hml : nd <= 9223372036854775807 := by unfold maxLen at hxb; omega
 have hee : (e == 0) = (g == 0) := by
  by_cases h : e = 0
  ·rw [h, HEE.out.1 h]
  ·have h2 : ¬ g = 0 := fun k => h (HEE.out.2 k)
   rw [show (e == 0) = false by simpa using h, show (g == 0) = false by simpa using h2]
 obtain ⟨EB, hEB⟩ : ∃ x, (e == 0) = x := ⟨_, rfl⟩
 have hGB : (g == 0) = EB := by rw [<- hee, hEB]
 have hEQ : (EB == EB) = true := by simp
 clear hee
 have HMI3 := Lib.hid (HMI.out XA YA xc yc w3 HX3.out HY3.out hml)
 go_wp2_with fail
 refine HMI3.out.mono ?_
 rintro _ w4 ⟨rfl, hb4⟩
 have HB4 := Lib.hid (below_then hb4 HB3.out HB3.out.size)
 clear HB3 HX3 HY3 hb4 HMI3
 have HM4 := Lib.hid ((HB4.out.cell (p := ⟨0, 0, none⟩) (World.block_lt_of_cell? _ _ HM.out)).trans HM.out)
 go_wp2_with fail
 refine (awake6_c m0 w4 HM4.out).mono ?_
 rintro _ w5 ⟨rfl, hb5⟩
 have hB5 := below_then hb5 HB4.out HB4.out.size
 go_wp2
 go_ret
 exact ⟨rfl, hB5⟩
theorem law_turn_i (f : Fmt) (A : Option Addr) (cp : Nat) (FA : Nat -> Option Addr) (FC : Nat -> Nat) (L : Option Addr) (LC : Nat) (rs : List RowP) (RA : Nat -> Option Addr) (RC : Nat -> Nat) (M : Option Addr) (MC : Nat) (ss : List RowP) (SA : Nat -> Option Addr) (SC : Nat -> Nat) (name : ByteArray) (w : World) (ho : Kinds w A f.kinds FA FC) (hl : RowsM w L rs RA RC) (hl2 : RowsM w M ss SA SC) (hcp : f.kinds.length <= cp) (hm : 0 <= f.mark /\ f.mark <= 255) (hq : 0 <= f.quote /\ f.quote <= 255) (ht : Tab w) (hm0 : ∃ m, w.cell? ⟨0, 0, none⟩ = some (.int .i64 m)) :
  Calls Tryz.prog 3 #[fmtG f A cp, .slice L rs.length LC, .slice M ss.length MC, .string name] w fun e w' => e = .returned (.bool true) /\ Below w.heap.size w w' := by
 obtain ⟨m0, h⟩ := hm0
 exact law_turn f A cp FA FC L LC rs RA RC M MC ss SA SC name m0 w ho hl hl2 hcp hm hq ht h
end Go.Proofs.YthjlleifpnpfgaaGreatDoor
