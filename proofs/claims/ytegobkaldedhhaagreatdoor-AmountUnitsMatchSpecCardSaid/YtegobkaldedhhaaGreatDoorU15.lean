
/- The walk of the reference: askUnits. -/
import Derived.Test.YtegobkaldedhhaaGreatDoorU13
namespace Go.Proofs.YtegobkaldedhhaaGreatDoor
open Go.RowKit Limb
set_option linter.unusedVariables false
set_option linter.unusedSimpArgs false

theorem ixU_found {us : List Unt} {x : List UInt8} {i : Nat} (h : idxU us x = some i) : ixU us x = (i : Int) := by unfold ixU; rw [h]
theorem ixU_not {us : List Unt} {x : List UInt8} (h : idxU us x = none) : ixU us x = -1 := by unfold ixU; rw [h]

set_option maxHeartbeats 8000000 in
set_option maxRecDepth 100000 in
theorem ask_c (us : List Unt) (x y : ByteArray) (A : Option Addr) (n c : Nat) (w : World) (hU : Uns w A n us) (hn : n ≤ 9223372036854775807) :
    Calls Tryz.prog 29 #[.slice A n c, .string x, .string y] w (RetI (facF us x.data.toList y.data.toList) w) := by
  have HL := Lib.hid hU.1
  have HU := Lib.hid hU; clear hU
  by_cases h0 : chkU us = 0
  case neg =>
    have h0' : (chkU us != 0) = true := by simpa using h0
    have K := Lib.hid (fac_chk (x := x.data.toList) (y := y.data.toList) h0)
    clear h0
    go_enter Tryz.func29, Tryz.ntmps29
    go_wp2_with fail
    refine (rchkunits_c us A n c _ HU.out hn).mono ?_
    rintro e w1 ⟨rfl, hb1⟩
    go_wp2
    go_ret
    exact ⟨by rw [K.out]; rfl, hb1⟩
  obtain ⟨hlen, hF, hKn, hC⟩ := chkU_ok h0
  have H0 := Lib.hid h0
  have hsm : n ≤ 200 := by rw [HL.out] at hlen; exact hlen
  have HK := Lib.hid (show ∀ j, j < n → knownU us j = true by rw [← HL.out]; exact hKn)
  clear hlen hF hKn hC h0
  go_enter Tryz.func29, Tryz.ntmps29
  go_wp2_with fail
  refine (rchkunits_c us A n c _ HU.out hn).mono ?_
  rintro e w1 ⟨rfl, hb1⟩
  rw [H0.out]
  go_wp2_with fail
  refine (unitof_c us x A n c _ (HU.out.below hb1) hsm).mono ?_
  rintro e w2 ⟨rfl, hb2⟩
  have hB2 := below_then hb2 hb1 hb1.size
  cases hx : idxU us x.data.toList with
  | none =>
    have K := Lib.hid (fac_name (x := x.data.toList) (y := y.data.toList) H0.out (.inl (by unfold foundU; rw [hx]; rfl)))
    rw [ixU_not hx]
    clear hx hb1 hb2
    go_wp2
    go_ret
    exact ⟨by rw [K.out]; rfl, hB2⟩
  | some i =>
    have HX := Lib.hid hx
    have HXI := Lib.hid (ixU_found hx)
    have hin : i < n := by rw [← HL.out]; exact (idxU_some hx).1
    rw [ixU_found hx]
    clear hx hb1 hb2
    go_wp2_with fail
    refine (unitof_c us y A n c _ (HU.out.below hB2) hsm).mono ?_
    rintro e w3 ⟨rfl, hb3⟩
    have hB3 := below_then hb3 hB2 hB2.size
    cases hy : idxU us y.data.toList with
    | none =>
      have K := Lib.hid (fac_name (x := x.data.toList) (y := y.data.toList) H0.out (.inr (by unfold foundU; rw [hy]; rfl)))
      rw [ixU_not hy]
      clear hy hb3
      go_wp2
      go_ret
      exact ⟨by rw [K.out]; rfl, hB3⟩
    | some k =>
      have HY := Lib.hid hy
      have HYI := Lib.hid (ixU_found hy)
      have hkn : k < n := by rw [← HL.out]; exact (idxU_some hy).1
      rw [ixU_found hy]
      clear hy hb3 hB2
      have HFB := Lib.hid (fac_both H0.out HX.out HY.out)
      obtain ⟨ca, la5, lan⟩ := chL_ok H0.out (i := i) (by rw [HL.out]; exact hin)
      obtain ⟨cb, lb5, lbn⟩ := chL_ok H0.out (i := k) (by rw [HL.out]; exact hkn)
      have CA := Lib.hid ca; have CB := Lib.hid cb
      clear ca cb lan lbn
      go_wp2_with fail
      refine (unitof_c us x A n c _ (HU.out.below hB3) hsm).mono ?_
      rintro e w4 ⟨rfl, hb4⟩
      rw [HXI.out]
      have hB4 := below_then hb4 hB3 hB3.size
      clear hb4 hB3
      go_wp2_with fail
      refine (chain_c us A n c i _ (HU.out.below hB4) hsm HK.out hin).mono ?_
      rintro e w5 ⟨hb5, ⟨hca, rfl⟩ | ⟨la, Aa, da, hca, hla0, hla1, rfl, hda⟩⟩
      · rw [CA.out] at hca; cases hca
      rw [CA.out] at hca
      injection hca with hca
      obtain ⟨LA, hLA⟩ : ∃ LA, chL us i = LA := ⟨_, rfl⟩
      rw [hLA] at hca la5
      have HLA := Lib.hid hLA
      subst hca
      clear hLA CA hla1
      have hB5 := below_then hb5 hB4 hB4.size
      clear hb5 hB4
      go_wp2_with fail
      refine (unitof_c us y A n c _ (HU.out.below hB5) hsm).mono ?_
      rintro e w6 ⟨rfl, hb6⟩
      rw [HYI.out]
      have hB6 := below_then hb6 hB5 hB5.size
      have hda6 := hda.below hb6
      clear hb6 hB5 hda
      go_wp2_with fail
      refine (chain_c us A n c k _ (HU.out.below hB6) hsm HK.out hkn).mono ?_
      rintro e w7 ⟨hb7, ⟨hcb, rfl⟩ | ⟨lb, Ab, db, hcb, hlb0, hlb1, rfl, hdb⟩⟩
      · rw [CB.out] at hcb; cases hcb
      rw [CB.out] at hcb
      injection hcb with hcb
      obtain ⟨LB, hLB⟩ : ∃ LB, chL us k = LB := ⟨_, rfl⟩
      rw [hLB] at hcb lb5
      have HLB := Lib.hid hLB
      subst hcb
      clear hLB CB hlb1
      have hB7 := below_then hb7 hB6 hB6.size
      have hda7 := hda6.below hb7
      clear hb7 hB6 hda6
      obtain ⟨ga, rfl, hga, hca⟩ := hda7.at_ hla0
      obtain ⟨gb, rfl, hgb, hcb⟩ := hdb.at_ hlb0
      have xa := hca (LA.length - 1) (by omega)
      have xb := hcb (LB.length - 1) (by omega)
      obtain ⟨p, hp⟩ : ∃ p, dg LA (LA.length - 1) = p := ⟨_, rfl⟩
      obtain ⟨q, hq⟩ : ∃ q, dg LB (LB.length - 1) = q := ⟨_, rfl⟩
      have hfb := HFB.out
      rw [HLA.out, HLB.out, last_dg hla0, last_dg hlb0, hp, hq] at hfb
      rw [hp] at xa
      rw [hq] at xb
      clear hp hq hca hcb
      obtain ⟨ma, hma⟩ : ∃ ma, LA.length = ma := ⟨_, rfl⟩
      obtain ⟨mb, hmb⟩ : ∃ mb, LB.length = mb := ⟨_, rfl⟩
      rw [hma] at xa hla0 la5 ⊢
      rw [hmb] at xb hlb0 lb5 ⊢
      clear hma hmb hda7 hdb
      have e1 : IntKind.i64.wrap ((ma : Int) - 1) = (ma : Int) - 1 := IntWalk.i64_in _ (by omega)
      have e2 : (1 : Int) ≤ (ma : Int) := by omega
      have e2' : (0 : Int) ≤ (ma : Int) - 1 := by omega
      have e3 : ((ma : Int) - 1).toNat = ma - 1 := by omega
      have e4 : (ma : Int) - 1 < (ma : Int) := by omega
      have f1 : IntKind.i64.wrap ((mb : Int) - 1) = (mb : Int) - 1 := IntWalk.i64_in _ (by omega)
      have f2 : (1 : Int) ≤ (mb : Int) := by omega
      have f2' : (0 : Int) ≤ (mb : Int) - 1 := by omega
      have f3 : ((mb : Int) - 1).toNat = mb - 1 := by omega
      have f4 : (mb : Int) - 1 < (mb : Int) := by omega
      have E1 := Lib.hid e1; have E3 := Lib.hid e3; have F1 := Lib.hid f1; have F3 := Lib.hid f3
      clear e1 e3 f1 f3
      by_cases hpq : p = q
      · have K := Lib.hid (show facF us x.data.toList y.data.toList = 0 by rw [hfb, if_neg (by simp [hpq])])
        have hpq' : ((p : Int) != (q : Int)) = false := by simp; omega
        clear hfb hpq
        go_wp2_with fail
        have e1 := E1.out; have e3 := E3.out; have f1 := F1.out; have f3 := F3.out
        go_quiet (fail)
        clear e1 e3 f1 f3
        go_wp2
        go_ret
        exact ⟨by rw [K.out]; rfl, below_drewN hB7 _⟩
      · have K := Lib.hid (show facF us x.data.toList y.data.toList = 6 by rw [hfb, if_pos (by simpa using hpq)])
        have hpq' : ((p : Int) != (q : Int)) = true := by simp; omega
        clear hfb hpq
        go_wp2_with fail
        have e1 := E1.out; have e3 := E3.out; have f1 := F1.out; have f3 := F3.out
        go_quiet (fail)
        clear e1 e3 f1 f3
        go_wp2
        go_ret
        exact ⟨by rw [K.out]; rfl, below_drewN hB7 _⟩
end Go.Proofs.YtegobkaldedhhaaGreatDoor
