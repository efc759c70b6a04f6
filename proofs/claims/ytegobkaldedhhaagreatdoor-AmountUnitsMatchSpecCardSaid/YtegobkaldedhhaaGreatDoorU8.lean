
/- The walk of package amount: factor, whole. -/
import Derived.Test.YtegobkaldedhhaaGreatDoorU7
namespace Go.Proofs.YtegobkaldedhhaaGreatDoor
open Go.RowKit Limb
set_option linter.unusedVariables false
set_option linter.unusedSimpArgs false
set_option maxHeartbeats 16000000 in
set_option maxRecDepth 100000 in
theorem factor_c (us : List Unt) (x y : ByteArray) (A : Option Addr) (n c : Nat) (w : World) (hU : Uns w A n us) (hn : n ≤ 9223372036854775807) :
    Calls Tryz.prog 25 #[.slice A n c, .string x, .string y] w (FacR us x.data.toList y.data.toList w) := by
  obtain ⟨i0, hi0, hz0, hz1, hz2⟩ := info_parts Tryz.info3
  have HL := Lib.hid hU.1
  have HU := Lib.hid hU; clear hU
  by_cases h0 : chkU us = 0
  case neg =>
    have h0' : (chkU us != 0) = true := by simpa using h0
    have K := Lib.hid (fac_chk (x := x.data.toList) (y := y.data.toList) h0)
    have K0 := Lib.hid h0
    clear h0
    go_enter Tryz.func25, Tryz.ntmps25
    go_wp2_with fail
    refine (chkunits_c us A n c _ HU.out hn).mono ?_
    rintro e w1 ⟨rfl, hb1⟩
    go_wp2
    go_ret3
    exact ⟨hb1, .inl ⟨by rw [K.out]; exact K0.out, by rw [K.out]; rfl⟩⟩
  obtain ⟨hlen, hF, hKn, hC⟩ := chkU_ok h0
  have H0 := Lib.hid h0
  have hsm : n ≤ 200 := by rw [HL.out] at hlen; exact hlen
  have HS := Lib.hid (chkU_sort hF)
  have HK := Lib.hid (show ∀ j, j < n → knownU us j = true by rw [← HL.out]; exact hKn)
  clear hlen hF hKn hC h0
  go_enter Tryz.func25, Tryz.ntmps25
  go_wp2_with fail
  refine (chkunits_c us A n c _ HU.out hn).mono ?_
  rintro e w1 ⟨rfl, hb1⟩
  rw [H0.out]
  go_wp2_with fail
  refine (unitat_c us x A n c _ (HU.out.below hb1) hsm HS.out).mono ?_
  rintro e w2 ⟨hb2, i, hi, rfl, hix⟩
  have hB2 := below_then hb2 hb1 hb1.size
  have HIX := Lib.hid hix; clear hix
  go_wp2_with fail
  refine (unitat_c us y A n c _ (HU.out.below hB2) hsm HS.out).mono ?_
  rintro e w3 ⟨hb3, k, hk, rfl, hky⟩
  have hB3 := below_then hb3 hB2 hB2.size
  have HKY := Lib.hid hky; clear hky hb1 hb2 hb3
  by_cases hfx : foundU us x.data.toList = true ∧ foundU us y.data.toList = true
  case neg =>
    have K := Lib.hid (fac_name H0.out (by
      rcases Bool.eq_false_or_eq_true (foundU us x.data.toList) with h1 | h1
      · rcases Bool.eq_false_or_eq_true (foundU us y.data.toList) with h2 | h2
        · exact absurd ⟨h1, h2⟩ hfx
        · exact .inr h2
      · exact .inl h1))
    cases h1 : foundU us x.data.toList with
    | false =>
      go_wp2
      go_ret3
      exact ⟨hB3, .inl ⟨by rw [K.out]; decide, by rw [K.out]; rfl⟩⟩
    | true =>
      have h2 : foundU us y.data.toList = false := by
        cases h2 : foundU us y.data.toList with
        | false => rfl
        | true => exact absurd ⟨h1, h2⟩ hfx
      rw [h2]
      clear h1 h2 hfx
      go_wp2
      go_ret3
      exact ⟨hB3, .inl ⟨by rw [K.out]; decide, by rw [K.out]; rfl⟩⟩
  obtain ⟨h1, h2⟩ := hfx
  have HX := Lib.hid (HIX.out h1)
  have HY := Lib.hid (HKY.out h2)
  rw [h1, h2]
  have hin : i < n := by rw [← HL.out]; exact (idxU_some HX.out).1
  have hkn : k < n := by rw [← HL.out]; exact (idxU_some HY.out).1
  clear h1 h2 HIX HKY
  have HFB := Lib.hid (fac_both H0.out HX.out HY.out)
  obtain ⟨ca, la5, lan⟩ := chL_ok H0.out (i := i) (by rw [HL.out]; exact hin)
  obtain ⟨cb, lb5, lbn⟩ := chL_ok H0.out (i := k) (by rw [HL.out]; exact hkn)
  have CA := Lib.hid ca; have CB := Lib.hid cb
  have LAN := Lib.hid lan; have LBN := Lib.hid lbn
  clear ca cb lan lbn
  go_wp2_with fail
  refine (steps_c us A n c i _ (HU.out.below hB3) hsm HS.out HK.out hin).mono ?_
  rintro e w4 ⟨hb4, ⟨hca, rfl⟩ | ⟨la, Aa, da, hca, hla0, hla1, hla2, rfl, hda⟩⟩
  · rw [CA.out] at hca; cases hca
  rw [CA.out] at hca
  injection hca with hca
  obtain ⟨LA, hLA⟩ : ∃ LA, chL us i = LA := ⟨_, rfl⟩
  rw [hLA] at hca la5
  have HLA := Lib.hid hLA
  rw [hLA] at LAN
  subst hca
  clear hLA CA
  have hB4 := below_then hb4 hB3 hB3.size
  clear hb4
  go_wp2_with fail
  refine (steps_c us A n c k _ (HU.out.below hB4) hsm HS.out HK.out hkn).mono ?_
  rintro e w5 ⟨hb5, ⟨hcb, rfl⟩ | ⟨lb, Ab, db, hcb, hlb0, hlb1, hlb2, rfl, hdb⟩⟩
  · rw [CB.out] at hcb; cases hcb
  rw [CB.out] at hcb
  injection hcb with hcb
  obtain ⟨LB, hLB⟩ : ∃ LB, chL us k = LB := ⟨_, rfl⟩
  rw [hLB] at hcb lb5
  have HLB := Lib.hid hLB
  rw [hLB] at LBN
  subst hcb
  clear hLB CB hla1 hla2 hlb1 hlb2
  have hB5 := below_then hb5 hB4 hB4.size
  have hda5 := hda.below hb5
  clear hda hb5 hB4 hB3 hB2
  obtain ⟨ga, rfl, hga, hca⟩ := hda5.at_ hla0
  obtain ⟨gb, rfl, hgb, hcb⟩ := hdb.at_ hlb0
  have xa := hca (LA.length - 1) (by omega)
  have xb := hcb (LB.length - 1) (by omega)
  obtain ⟨p, hp⟩ : ∃ p, dg LA (LA.length - 1) = p := ⟨_, rfl⟩
  obtain ⟨q, hq⟩ : ∃ q, dg LB (LB.length - 1) = q := ⟨_, rfl⟩
  have hfb := HFB.out
  rw [HLA.out, HLB.out, last_dg hla0, last_dg hlb0, hp, hq] at hfb
  rw [hp] at xa
  rw [hq] at xb
  clear hp hq hca hcb
  obtain ⟨ma, hma⟩ : ∃ ma, LA.length = ma := ⟨_, rfl⟩
  obtain ⟨mb, hmb⟩ : ∃ mb, LB.length = mb := ⟨_, rfl⟩
  rw [hma] at xa hla0 la5 hda5 ⊢
  rw [hmb] at xb hlb0 lb5 hdb ⊢
  have HMA := Lib.hid hma; have HMB := Lib.hid hmb
  clear hma hmb
  have e1 : IntKind.i64.wrap ((ma : Int) - 1) = (ma : Int) - 1 := IntWalk.i64_in _ (by omega)
  have e2 : (1 : Int) ≤ (ma : Int) := by omega
  have e2' : (0 : Int) ≤ (ma : Int) - 1 := by omega
  have e3 : ((ma : Int) - 1).toNat = ma - 1 := by omega
  have e4 : (ma : Int) - 1 < (ma : Int) := by omega
  have f1 : IntKind.i64.wrap ((mb : Int) - 1) = (mb : Int) - 1 := IntWalk.i64_in _ (by omega)
  have f2 : (1 : Int) ≤ (mb : Int) := by omega
  have f2' : (0 : Int) ≤ (mb : Int) - 1 := by omega
  have f3 : ((mb : Int) - 1).toNat = mb - 1 := by omega
  have f4 : (mb : Int) - 1 < (mb : Int) := by omega
  have E1 := Lib.hid e1; have E3 := Lib.hid e3; have F1 := Lib.hid f1; have F3 := Lib.hid f3
  clear e1 e3 f1 f3
  have HUB := Lib.hid (HU.out.below hB5)
  by_cases hpq : p = q
  case neg =>
    have K := Lib.hid (show facF us x.data.toList y.data.toList = 6 by rw [hfb, if_pos (by simpa using hpq)])
    have hpq' : ((p : Int) != (q : Int)) = true := by simp; omega
    clear hfb hpq
    go_wp2_with fail
    have e1 := E1.out; have e3 := E3.out; have f1 := F1.out; have f3 := F3.out
    go_quiet (fail)
    clear e1 e3 f1 f3
    go_wp2
    go_ret3
    exact ⟨below_drewN hB5 _, .inl ⟨by rw [K.out]; decide, by rw [K.out]; rfl⟩⟩
  have K := Lib.hid (show facF us x.data.toList y.data.toList = 0 by rw [hfb, if_neg (by simp [hpq])])
  have hpq' : ((p : Int) != (q : Int)) = false := by simp; omega
  clear hfb hpq
  go_wp2_with fail
  have e1 := E1.out; have e3 := E3.out; have f1 := F1.out; have f3 := F3.out
  go_quiet (fail)
  clear e1 e3 f1 f3 e2 e2' e4 f2 f2' f4 hpq' xa xb E1 E3 F1 F3 HFB
  go_wp2
  generalize hwS : w5.drewN nq = wS
  have hBS : Below w.heap.size w wS := by rw [← hwS]; exact below_drewN hB5 _
  have HDA : Hid (Dig wS .i64 3 (some ⟨ga, 0, none⟩) ma LA) := Lib.hid (by rw [← hwS]; exact hda5)
  have HDB : Hid (Dig wS .i64 3 (some ⟨gb, 0, none⟩) mb LB) := Lib.hid (by rw [← hwS]; exact hdb)
  have HUS : Hid (Uns wS A n us) := Lib.hid (by rw [← hwS]; exact HUB.out)
  clear hwS hda5 hdb hB5 HUB hga hgb
  go_loopw [6, 7, 72] (fun v6 v7 v72 wr => ∃ (j : Nat) (A1 A2 : Option Addr) (c1 c2 : Nat), j ≤ ma ∧ v72 = .int .i64 (j : Int) ∧ v6 = .slice A1 j c1 ∧ v7 = .slice A2 j c2 ∧
      Pair wS.heap.size wr (.slice A1 j c1) j ((LA.take j).map (xU us)) (.slice A2 j c2) j ((LA.take j).map (yU us)) ∧ Below wS.heap.size wS wr) (fun _ _ v72 _ => ma - (intOf v72).toNat)
  case atStart => exact ⟨0, none, none, 0, 0, Nat.zero_le _, rfl, rfl, rfl, ⟨World.ownsRow_nil _ _ _ _, World.ownsRow_nil _ _ _ _, fun g h => by simp [Value.ownBlock] at h⟩, Below.refl _ _⟩
  case round =>
    obtain ⟨m1, A1, A2, c1, c2, hj, rfl, rfl, rfl, HP, hbel⟩ := hrel
    have hzr := hbel.size
    rcases Nat.lt_or_ge m1 ma with hjn | hjn
    · obtain ⟨g', e', hg', hcell⟩ := (HDA.out.below hbel).at_ (by omega)
      injection e' with e'
      injection e' with e'
      subst e'
      have hx := hcell m1 hjn
      have htx := take_map (f := xU us) (l := LA) (j := m1) (by rw [HMA.out]; exact hjn) rfl
      have hty := take_map (f := yU us) (l := LA) (j := m1) (by rw [HMA.out]; exact hjn) rfl
      have hv : dg LA m1 < n := by
        have h1 : m1 < LA.length := by rw [HMA.out]; exact hjn
        have h2 := dg_get h1
        rw [List.getElem?_eq_getElem h1] at h2
        injection h2 with h2
        rw [← h2, ← HL.out]
        exact LAN.out _ (List.getElem_mem h1)
      obtain ⟨v, hvv⟩ : ∃ v, dg LA m1 = v := ⟨_, rfl⟩
      rw [hvv] at hx hv htx hty
      have HTX := Lib.hid htx; have HTY := Lib.hid hty
      clear hcell hvv htx hty
      obtain ⟨fb1, fb2, fb3, fb4⟩ := fac_bounds H0.out (i := v) (by rw [HL.out]; exact hv)
      obtain ⟨b, off, rfl, hbl, -, -, u2, u3⟩ := HUS.out.at_ hv
      rw [← fb3] at u2
      rw [← fb4] at u3
      obtain ⟨X, hX⟩ : ∃ X, xU us v = X := ⟨_, rfl⟩
      obtain ⟨Y, hY⟩ : ∃ Y, yU us v = Y := ⟨_, rfl⟩
      rw [hX] at u2
      rw [hY] at u3
      have HX' := Lib.hid hX; have HY' := Lib.hid hY
      clear fb1 fb2 fb3 fb4 hX hY
      have k2 := (hbel.cell (p := ⟨b, off + v * 4 + 2, none⟩) hbl).trans u2
      have k3 := (hbel.cell (p := ⟨b, off + v * 4 + 3, none⟩) hbl).trans u3
      have hbr : b < wr.heap.size := Nat.lt_of_lt_of_le hbl hzr
      obtain ⟨xs, hxs⟩ : ∃ xs, (LA.take m1).map (xU us) = xs := ⟨_, rfl⟩
      obtain ⟨ys, hys⟩ : ∃ ys, (LA.take m1).map (yU us) = ys := ⟨_, rfl⟩
      rw [hxs, hys] at HP
      have HXS := Lib.hid hxs; have HYS := Lib.hid hys
      clear hxs hys
      have HPR := Lib.hid HP; have HBR := Lib.hid hbel
      clear HP hbel
      go_wp2_with fail
      go_region_held3 (fun w' => w'.cell? ⟨b, off + v * 4 + 2, none⟩ = some (.int .i64 ((X : Nat) : Int)) ∧ w'.cell? ⟨b, off + v * 4 + 3, none⟩ = some (.int .i64 ((Y : Nat) : Int)))
        (first | (go_keep; done) | (refine ⟨?_, ?_⟩ <;> assumption))
        (first
          | (refine step_append_lies _ rfl (.tmp 84) (.tmp 90) 49 rfl wS.heap.size 3 i0 (.int .i64 0) 1 8 Tryz.underlying49 hi0 hz0 hz1 hz2 rfl (by omega) (.slice A2 m1 c2) m1 (digV .i64 ys) rfl (own_below HPA.out.o2 (by go_grown)) ⟨_, 0, none⟩ 1 1 [.int .i64 ((Y : Nat) : Int)] rfl rfl (by first | exact World.news_of_block (cs := #[.int .i64 ((Y : Nat) : Int)]) (t := 3) (fr := (0, 0)) (heap_new _ _ (by simp)) | exact World.news_of_block (cs := #[.int .i64 ((Y : Nat) : Int)]) (t := 3) (fr := (0, 0)) (heap_old (heap_new _ _ (by simp)) _) | exact World.news_of_block (cs := #[.int .i64 ((Y : Nat) : Int)]) (t := 3) (fr := (0, 0)) (HKA.out _ _ (by simp) (heap_new _ _ (by simp))) | exact World.news_of_block (cs := #[.int .i64 ((Y : Nat) : Int)]) (t := 3) (fr := (0, 0)) (HKA.out _ _ (by simp) (heap_old (heap_new _ _ (by simp)) _))) (by simp [Value.oneCell']) (by omega) (by unfold maxLen; omega) (by omega) (by (try simp); omega) _ rfl ?_; intro G2 d2 wB ownB hgB hatB hltB; (have hpB := HPA.out.push2 (X := Y) (by go_grown) hgB ownB hatB); (have hbB := (below_then (B := wS.heap.size) (w := wS) (W := wA) (by go_grown) HBA.out hzA).grown hgB (by (try simp); omega) (own_ge HPA.out.o2)); (have s2 := (hbB.cell (p := ⟨b, off + v * 4 + 2, none⟩) hbl).trans u2); (have s3 := (hbB.cell (p := ⟨b, off + v * 4 + 3, none⟩) hbl).trans u3); (have HPB := Lib.hid hpB); (have HBB := Lib.hid hbB); clear hpB hbB ownB hgB hatB hltB)
          | (refine step_append_lies _ rfl (.tmp 76) (.tmp 82) 49 rfl wS.heap.size 3 i0 (.int .i64 0) 1 8 Tryz.underlying49 hi0 hz0 hz1 hz2 rfl (by omega) (.slice A1 m1 c1) m1 (digV .i64 xs) rfl (own_below HPR.out.o1 (by go_grown)) ⟨_, 0, none⟩ 1 1 [.int .i64 ((X : Nat) : Int)] rfl rfl (by first | exact World.news_of_block (cs := #[.int .i64 ((X : Nat) : Int)]) (t := 3) (fr := (0, 0)) (heap_new _ _ (by simp)) | exact World.news_of_block (cs := #[.int .i64 ((X : Nat) : Int)]) (t := 3) (fr := (0, 0)) (heap_old (heap_new _ _ (by simp)) _)) (by simp [Value.oneCell']) (by omega) (by unfold maxLen; omega) (by omega) (by (try simp); omega) _ rfl ?_; intro G1 d1 wA ownA hgA hatA hltA; (have hpA := HPR.out.push1 (X := X) (by go_grown) hgA ownA hatA); (have kpA := keep_new HPR.out.o1 hgA); (have hbA := (below_then (B := wS.heap.size) (w := wS) (W := wr) (by go_grown) HBR.out hzr).grown hgA (by (try simp); omega) (own_ge HPR.out.o1)); (have hzA := hbA.size); (have q2 := (hbA.cell (p := ⟨b, off + v * 4 + 2, none⟩) hbl).trans u2); (have q3 := (hbA.cell (p := ⟨b, off + v * 4 + 3, none⟩) hbl).trans u3); (have HPA := Lib.hid hpA); (have HKA := Lib.hid kpA); (have HBA := Lib.hid hbA); clear hpA kpA hbA ownA hgA hatA hltA)
          | fail)
      all_goals
        have hpB := HPB.out; have hbB := HBB.out
        clear HPA HKA HBA HPB HBB q2 q3 s2 s3 k2 k3 hzA HPR HBR
        go_wp2
        go_roundw
        case rel =>
          refine ⟨m1 + 1, _, _, _, _, by omega, by go_num, rfl, rfl, ?_, hbB⟩
          rw [HTX.out, HTY.out, HXS.out, HYS.out, HX'.out, HY'.out]
          exact hpB
        case measure => simp [intOf]; omega
    · obtain rfl : m1 = ma := by omega
      have hall : LA.take m1 = LA := List.take_of_length_le (by rw [HMA.out]; exact Nat.le_refl _)
      rw [hall] at HP
      clear hall hj hjn
      go_wp2
      obtain ⟨wl, hwl⟩ : ∃ wl : World, wl = wr := ⟨_, rfl⟩
      rw [← hwl] at HP hbel hzr ⊢
      clear hwl
      go_loopw [6, 7, 95] (fun v6 v7 v95 wr => ∃ (j p : Nat) (A1 A2 : Option Addr) (c1 c2 : Nat), j ≤ mb ∧ p ≤ 10 ∧ Hid (p = m1 + j) ∧ v95 = .int .i64 (j : Int) ∧ v6 = .slice A1 p c1 ∧ v7 = .slice A2 p c2 ∧
          Pair wS.heap.size wr (.slice A1 p c1) p (LA.map (xU us) ++ (LB.take j).map (yU us)) (.slice A2 p c2) p (LA.map (yU us) ++ (LB.take j).map (xU us)) ∧ Below wS.heap.size wS wr) (fun _ _ v95 _ => mb - (intOf v95).toNat)
      case atStart => exact ⟨0, m1, A1, A2, c1, c2, Nat.zero_le _, by omega, Lib.hid rfl, rfl, rfl, rfl, by simpa using HP, hbel⟩
      case round =>
        clear HP hbel hzr
        obtain ⟨j, p, A1, A2, c1, c2, hj, hp, HPJ, rfl, rfl, rfl, HP, hbel⟩ := hrel
        have hzr := hbel.size
        rcases Nat.lt_or_ge j mb with hjn | hjn
        · obtain ⟨g', e', hg', hcell⟩ := (HDB.out.below hbel).at_ (by omega)
          injection e' with e'
          injection e' with e'
          subst e'
          have hx := hcell j hjn
          have htx := take_map (f := xU us) (l := LB) (j := j) (by rw [HMB.out]; exact hjn) rfl
          have hty := take_map (f := yU us) (l := LB) (j := j) (by rw [HMB.out]; exact hjn) rfl
          have hv : dg LB j < n := by
            have h1 : j < LB.length := by rw [HMB.out]; exact hjn
            have h2 := dg_get h1
            rw [List.getElem?_eq_getElem h1] at h2
            injection h2 with h2
            rw [← h2, ← HL.out]
            exact LBN.out _ (List.getElem_mem h1)
          obtain ⟨v, hvv⟩ : ∃ v, dg LB j = v := ⟨_, rfl⟩
          rw [hvv] at hx hv htx hty
          have HTX := Lib.hid htx; have HTY := Lib.hid hty
          clear hcell hvv htx hty
          obtain ⟨fb1, fb2, fb3, fb4⟩ := fac_bounds H0.out (i := v) (by rw [HL.out]; exact hv)
          obtain ⟨b, off, rfl, hbl, -, -, u2, u3⟩ := HUS.out.at_ hv
          rw [← fb3] at u2
          rw [← fb4] at u3
          obtain ⟨X, hX⟩ : ∃ X, xU us v = X := ⟨_, rfl⟩
          obtain ⟨Y, hY⟩ : ∃ Y, yU us v = Y := ⟨_, rfl⟩
          rw [hX] at u2
          rw [hY] at u3
          have HX' := Lib.hid hX; have HY' := Lib.hid hY
          clear fb1 fb2 fb3 fb4 hX hY
          have k2 := (hbel.cell (p := ⟨b, off + v * 4 + 2, none⟩) hbl).trans u2
          have k3 := (hbel.cell (p := ⟨b, off + v * 4 + 3, none⟩) hbl).trans u3
          have hbr : b < wr.heap.size := Nat.lt_of_lt_of_le hbl hzr
          obtain ⟨xs, hxs⟩ : ∃ xs, LA.map (xU us) ++ (LB.take j).map (yU us) = xs := ⟨_, rfl⟩
          obtain ⟨ys, hys⟩ : ∃ ys, LA.map (yU us) ++ (LB.take j).map (xU us) = ys := ⟨_, rfl⟩
          rw [hxs, hys] at HP
          have HXS := Lib.hid hxs; have HYS := Lib.hid hys
          clear hxs hys
          have HPR := Lib.hid HP; have HBR := Lib.hid hbel
          clear HP hbel
          go_wp2_with fail
          go_region_held3 (fun w' => w'.cell? ⟨b, off + v * 4 + 2, none⟩ = some (.int .i64 ((X : Nat) : Int)) ∧ w'.cell? ⟨b, off + v * 4 + 3, none⟩ = some (.int .i64 ((Y : Nat) : Int)))
            (first | (go_keep; done) | (refine ⟨?_, ?_⟩ <;> assumption))
            (first
              | (refine step_append_lies _ rfl (.tmp 107) (.tmp 113) 49 rfl wS.heap.size 3 i0 (.int .i64 0) 1 8 Tryz.underlying49 hi0 hz0 hz1 hz2 rfl (by omega) (.slice A2 p c2) p (digV .i64 ys) rfl (own_below HPA.out.o2 (by go_grown)) ⟨_, 0, none⟩ 1 1 [.int .i64 ((X : Nat) : Int)] rfl rfl (by first | exact World.news_of_block (cs := #[.int .i64 ((X : Nat) : Int)]) (t := 3) (fr := (0, 0)) (heap_new _ _ (by simp)) | exact World.news_of_block (cs := #[.int .i64 ((X : Nat) : Int)]) (t := 3) (fr := (0, 0)) (heap_old (heap_new _ _ (by simp)) _) | exact World.news_of_block (cs := #[.int .i64 ((X : Nat) : Int)]) (t := 3) (fr := (0, 0)) (HKA.out _ _ (by simp) (heap_new _ _ (by simp))) | exact World.news_of_block (cs := #[.int .i64 ((X : Nat) : Int)]) (t := 3) (fr := (0, 0)) (HKA.out _ _ (by simp) (heap_old (heap_new _ _ (by simp)) _))) (by simp [Value.oneCell']) (by omega) (by unfold maxLen; omega) (by omega) (by (try simp); omega) _ rfl ?_; intro G2 d2 wB ownB hgB hatB hltB; (have hpB := HPA.out.push2 (X := X) (by go_grown) hgB ownB hatB); (have hbB := (below_then (B := wS.heap.size) (w := wS) (W := wA) (by go_grown) HBA.out hzA).grown hgB (by (try simp); omega) (own_ge HPA.out.o2)); (have s2 := (hbB.cell (p := ⟨b, off + v * 4 + 2, none⟩) hbl).trans u2); (have s3 := (hbB.cell (p := ⟨b, off + v * 4 + 3, none⟩) hbl).trans u3); (have HPB := Lib.hid hpB); (have HBB := Lib.hid hbB); clear hpB hbB ownB hgB hatB hltB)
              | (refine step_append_lies _ rfl (.tmp 99) (.tmp 105) 49 rfl wS.heap.size 3 i0 (.int .i64 0) 1 8 Tryz.underlying49 hi0 hz0 hz1 hz2 rfl (by omega) (.slice A1 p c1) p (digV .i64 xs) rfl (own_below HPR.out.o1 (by go_grown)) ⟨_, 0, none⟩ 1 1 [.int .i64 ((Y : Nat) : Int)] rfl rfl (by first | exact World.news_of_block (cs := #[.int .i64 ((Y : Nat) : Int)]) (t := 3) (fr := (0, 0)) (heap_new _ _ (by simp)) | exact World.news_of_block (cs := #[.int .i64 ((Y : Nat) : Int)]) (t := 3) (fr := (0, 0)) (heap_old (heap_new _ _ (by simp)) _)) (by simp [Value.oneCell']) (by omega) (by unfold maxLen; omega) (by omega) (by (try simp); omega) _ rfl ?_; intro G1 d1 wA ownA hgA hatA hltA; (have hpA := HPR.out.push1 (X := Y) (by go_grown) hgA ownA hatA); (have kpA := keep_new HPR.out.o1 hgA); (have hbA := (below_then (B := wS.heap.size) (w := wS) (W := wr) (by go_grown) HBR.out hzr).grown hgA (by (try simp); omega) (own_ge HPR.out.o1)); (have hzA := hbA.size); (have q2 := (hbA.cell (p := ⟨b, off + v * 4 + 2, none⟩) hbl).trans u2); (have q3 := (hbA.cell (p := ⟨b, off + v * 4 + 3, none⟩) hbl).trans u3); (have HPA := Lib.hid hpA); (have HKA := Lib.hid kpA); (have HBA := Lib.hid hbA); clear hpA kpA hbA ownA hgA hatA hltA)
              | fail)
          all_goals
            have hpB := HPB.out; have hbB := HBB.out
            clear HPA HKA HBA HPB HBB q2 q3 s2 s3 k2 k3 hzA HPR HBR
            go_wp2
            go_roundw
            case rel =>
              refine ⟨j + 1, p + 1, _, _, _, _, by omega, ?_, Lib.hid (by rw [HPJ.out]; omega), by go_num, rfl, rfl, ?_, hbB⟩
              · have := HPJ.out; omega
              · rw [HTX.out, HTY.out, ← List.append_assoc, ← List.append_assoc, HXS.out, HYS.out, HX'.out, HY'.out]
                exact hpB
            case measure => simp [intOf]; omega
        · obtain rfl : j = mb := by omega
          have hall : LB.take j = LB := List.take_of_length_le (by rw [HMB.out]; exact Nat.le_refl _)
          rw [hall] at HP
          have hzB := hBS.size
          have HPP := Lib.hid HP
          clear HP hall
          go_wp2
          go_ret3
          refine ⟨below_then hbel hBS hzB, .inr ⟨i, k, p, A1, c1, A2, c2, K.out, H0.out, HX.out, HY.out, ?_, ?_, rfl, ?_⟩⟩
          · unfold topL; rw [HLA.out, HLB.out]; have := HPJ.out; have := HMA.out; have := HMB.out; simp; omega
          · unfold botL; rw [HLA.out, HLB.out]; have := HPJ.out; have := HMA.out; have := HMB.out; simp; omega
          · have := HPP.out
            unfold topL botL
            rw [HLA.out, HLB.out]
            exact ⟨own_mono this.o1 hzB, own_mono this.o2 hzB, this.ne⟩
end Go.Proofs.YtegobkaldedhhaaGreatDoor
