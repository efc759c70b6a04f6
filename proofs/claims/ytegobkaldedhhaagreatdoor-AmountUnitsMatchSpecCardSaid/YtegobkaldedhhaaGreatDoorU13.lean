
/- The walks of the reference: checkUnit, CheckUnits. -/
import Derived.Test.YtegobkaldedhhaaGreatDoorU12
import Derived.Test.YtegobkaldedhhaaGreatDoorD1
namespace Go.Proofs.YtegobkaldedhhaaGreatDoor
open Go.RowKit Limb
set_option linter.unusedVariables false
set_option linter.unusedSimpArgs false

set_option maxHeartbeats 8000000 in
set_option maxRecDepth 100000 in
theorem rufault_c (us : List Unt) (A : Option Addr) (n c i : Nat) (w : World) (hU : Uns w A n us) (hn : n ≤ 200) (hi : i < n) :
    Calls Tryz.prog 37 #[.slice A n c, .int .i64 (i : Int)] w (RetI (uFault us i) w) := by
  obtain ⟨⟨r1, r2⟩, ⟨r3, r4⟩, r5, r6⟩ := hU.rng hi
  obtain ⟨b, off, rfl, hbl, hx0, hx1, hx2, hx3⟩ := hU.at_ hi
  have HU := Lib.hid hU; clear hU
  have HW := uBox w (uA us i) 69 _ rfl
  by_cases k1 : nameB (nmU us i) = false
  · have K := Lib.hid (uf_name k1)
    have k1' : nameB (uA us i).name.data.toList = false := k1
    have K1 := Lib.hid k1'; clear k1 k1' HW
    go_enter Tryz.func37, Tryz.ntmps37
    go_wp2_with fail
    refine (risname_c _ _ r5).mono ?_
    rintro e w1 ⟨rfl, hb1⟩
    rw [K1.out]
    go_wp2
    go_ret
    exact ⟨by rw [K.out]; rfl, below_then hb1 (by go_grown) (by simp only [World.size_alloc]; omega)⟩
  have k1 : nameB (nmU us i) = true := by simpa using k1
  have k1' : nameB (uA us i).name.data.toList = true := k1
  have K1 := Lib.hid k1'; clear k1'
  by_cases k0 : 0 < i
  · -- there is one ahead
    obtain ⟨b', off', e', -, y0, y1, y2, y3⟩ := HU.out.at_ (j := i - 1) (by omega)
    injection e' with e'
    injection e' with e1 e2
    subst e1; subst e2
    have lq := leqB (a := (uA us i).name) (b := (uA us (i - 1)).name)
    have e1 : IntKind.i64.wrap ((i : Int) - 1) = (i : Int) - 1 := IntWalk.i64_in _ (by omega)
    have e2 : (1 : Int) ≤ (i : Int) := by omega
    have e2' : (0 : Int) ≤ (i : Int) - 1 := by omega
    have e3 : ((i : Int) - 1).toNat = i - 1 := by omega
    have e4 : (i : Int) - 1 < (n : Int) := by omega
    have e5 : (0 : Int) < (i : Int) := by omega
    have E1 := Lib.hid e1; have E3 := Lib.hid e3; clear e1 e3
    by_cases k2 : Lib.compareBytes (nmU us (i - 1)) (nmU us i) < 0
    · have lq' : (Op.bytesLess (uA us i).name.toList (uA us (i - 1)).name.toList || (uA us i).name.toList == (uA us (i - 1)).name.toList) = false := by
        rw [lq, decide_eq_true (show Lib.compareBytes (uA us (i - 1)).name.data.toList (uA us i).name.data.toList < 0 from k2)]; rfl
      have hr := uf_rest k1 (fun h => h.2 k2)
      have LQ := Lib.hid lq'; clear lq lq' k1 k2
      rcases hr with ⟨K, f1⟩ | ⟨K, f1⟩ | ⟨K, f1, f2, f3⟩ | ⟨K, f1, f2, f3⟩ | ⟨K, f1, f2, f3, f4, f5, f6⟩ | ⟨K, f1, f2, f3, f4, f5, f6, f7⟩ | ⟨K, f1, f2, f3, f4, f5⟩ | ⟨K, f1, f2, f3, f4, f5, f6, f7⟩
      all_goals
        first | (have DN := Lib.hid (decide_eq_true (show 1 ≤ (uA us i).num ∧ (uA us i).num ≤ 1000000 by omega))) | (have DN := Lib.hid (decide_eq_false (show ¬ (1 ≤ (uA us i).num ∧ (uA us i).num ≤ 1000000) by omega))) | skip
        first | (have DD := Lib.hid (decide_eq_true (show 1 ≤ (uA us i).den ∧ (uA us i).den ≤ 1000000 by omega))) | (have DD := Lib.hid (decide_eq_false (show ¬ (1 ≤ (uA us i).den ∧ (uA us i).den ≤ 1000000) by omega))) | skip
        go_enter Tryz.func37, Tryz.ntmps37
        go_wp2_with fail
        generalize w.alloc (.cells #[.string (uA us i).name, .string (uA us i).of, .int .i64 (uA us i).num, .int .i64 (uA us i).den] 69) = w1 at HW ⊢
        obtain ⟨c0, c1, c2, c3, hb1, hz1⟩ := HW
        refine (risname_c _ _ r5).mono ?_
        rintro e w2 ⟨rfl, hb2⟩
        rw [K1.out]
        obtain ⟨d0, d1, d2, d3, hz2⟩ := uBox_below ⟨c0, c1, c2, c3⟩ hz1 hb2
        have hb := below_then hb2 hb1 hb1.size
        have x0 := (hb.cell (p := ⟨b, off + (i - 1) * 4, none⟩) hbl).trans y0
        clear c0 c1 c2 c3 hb2
        go_wp2_with fail
        have lq := LQ.out; have e1 := E1.out; have e3 := E3.out
        go_quiet (fail)
        clear e1 e3 lq
        go_wp2_with (first | (go_at_call_of 48 (Value.int IntKind.i64 (uA us i).num); refine (within_c _ _ _ _).mono ?_; rintro e w4 ⟨rfl, rfl⟩; rw [DN.out]) | (go_at_call_of 48 (Value.int IntKind.i64 (uA us i).den); refine (within_c _ _ _ _).mono ?_; rintro e w5 ⟨rfl, rfl⟩; rw [DD.out]))
        go_ret
        exact ⟨by rw [K.out]; rfl, below_drewN hb _⟩
    · have lq' : (Op.bytesLess (uA us i).name.toList (uA us (i - 1)).name.toList || (uA us i).name.toList == (uA us (i - 1)).name.toList) = true := by
        rw [lq, decide_eq_false (show ¬ Lib.compareBytes (uA us (i - 1)).name.data.toList (uA us i).name.data.toList < 0 from k2)]; rfl
      have K := Lib.hid (uf_order k1 k0 k2)
      have LQ := Lib.hid lq'; clear lq lq' k1 k2
      go_enter Tryz.func37, Tryz.ntmps37
      go_wp2_with fail
      generalize w.alloc (.cells #[.string (uA us i).name, .string (uA us i).of, .int .i64 (uA us i).num, .int .i64 (uA us i).den] 69) = w1 at HW ⊢
      obtain ⟨c0, c1, c2, c3, hb1, hz1⟩ := HW
      refine (risname_c _ _ r5).mono ?_
      rintro e w2 ⟨rfl, hb2⟩
      rw [K1.out]
      obtain ⟨d0, d1, d2, d3, hz2⟩ := uBox_below ⟨c0, c1, c2, c3⟩ hz1 hb2
      have hb := below_then hb2 hb1 hb1.size
      have x0 := (hb.cell (p := ⟨b, off + (i - 1) * 4, none⟩) hbl).trans y0
      clear c0 c1 c2 c3 hb2
      go_wp2_with fail
      have lq := LQ.out; have e1 := E1.out; have e3 := E3.out
      go_quiet (fail)
      clear e1 e3 lq
      go_wp2
      go_ret
      exact ⟨by rw [K.out]; rfl, below_drewN hb _⟩
  · have hr := uf_rest k1 (fun h => k0 h.1)
    have e5 : decide (0 < i) = false := by simpa using k0
    have E5 := Lib.hid e5
    clear k1 e5 k0
    rcases hr with ⟨K, f1⟩ | ⟨K, f1⟩ | ⟨K, f1, f2, f3⟩ | ⟨K, f1, f2, f3⟩ | ⟨K, f1, f2, f3, f4, f5, f6⟩ | ⟨K, f1, f2, f3, f4, f5, f6, f7⟩ | ⟨K, f1, f2, f3, f4, f5⟩ | ⟨K, f1, f2, f3, f4, f5, f6, f7⟩
    all_goals
      first | (have DN := Lib.hid (decide_eq_true (show 1 ≤ (uA us i).num ∧ (uA us i).num ≤ 1000000 by omega))) | (have DN := Lib.hid (decide_eq_false (show ¬ (1 ≤ (uA us i).num ∧ (uA us i).num ≤ 1000000) by omega))) | skip
      first | (have DD := Lib.hid (decide_eq_true (show 1 ≤ (uA us i).den ∧ (uA us i).den ≤ 1000000 by omega))) | (have DD := Lib.hid (decide_eq_false (show ¬ (1 ≤ (uA us i).den ∧ (uA us i).den ≤ 1000000) by omega))) | skip
      go_enter Tryz.func37, Tryz.ntmps37
      go_wp2_with fail
      generalize w.alloc (.cells #[.string (uA us i).name, .string (uA us i).of, .int .i64 (uA us i).num, .int .i64 (uA us i).den] 69) = w1 at HW ⊢
      obtain ⟨c0, c1, c2, c3, hb1, hz1⟩ := HW
      refine (risname_c _ _ r5).mono ?_
      rintro e w2 ⟨rfl, hb2⟩
      rw [K1.out]
      obtain ⟨d0, d1, d2, d3, hz2⟩ := uBox_below ⟨c0, c1, c2, c3⟩ hz1 hb2
      have hb := below_then hb2 hb1 hb1.size
      clear c0 c1 c2 c3 hb2
      go_wp2_with fail
      have e5 := E5.out
      go_quiet (fail)
      clear e5
      go_wp2_with (first | (go_at_call_of 48 (Value.int IntKind.i64 (uA us i).num); refine (within_c _ _ _ _).mono ?_; rintro e w4 ⟨rfl, rfl⟩; rw [DN.out]) | (go_at_call_of 48 (Value.int IntKind.i64 (uA us i).den); refine (within_c _ _ _ _).mono ?_; rintro e w5 ⟨rfl, rfl⟩; rw [DD.out]))
      go_ret
      exact ⟨by rw [K.out]; rfl, below_drewN hb _⟩
set_option maxHeartbeats 8000000 in
set_option maxRecDepth 100000 in
theorem rchkunits_c (us : List Unt) (A : Option Addr) (n c : Nat) (w : World) (hU : Uns w A n us) (hn : n ≤ 9223372036854775807) :
    Calls Tryz.prog 10 #[.slice A n c] w (RetI (chkU us) w) := by
  have HL := Lib.hid hU.1
  have HU := Lib.hid hU; clear hU
  by_cases hbig : 200 < n
  · have K := Lib.hid (chk_many (us := us) (by rw [HL.out]; exact hbig))
    go_enter Tryz.func10, Tryz.ntmps10
    go_wp2
    go_ret
    exact ⟨by rw [K.out]; rfl, Below.refl _ _⟩
  have hsm : n ≤ 200 := by omega
  have HB := Lib.hid (show ¬ 200 < us.length by rw [HL.out]; exact hbig)
  clear hbig
  go_enter Tryz.func10, Tryz.ntmps10
  go_wp2
  go_loopw [15] (fun v wr => ∃ j : Nat, j ≤ n ∧ v = .int .i64 (j : Int) ∧ Hid (∀ i, i < j → uFault us i = 0) ∧ Below w.heap.size w wr) (fun v _ => n - (intOf v).toNat)
  case atStart => exact ⟨0, Nat.zero_le _, rfl, Lib.hid (fun i hi => by omega), Below.refl _ _⟩
  case round =>
    obtain ⟨j, hj, rfl, HF, hbel⟩ := hrel
    have hzr := hbel.size
    rcases Nat.lt_or_ge j n with hjn | hjn
    · by_cases hf : uFault us j = 0
      · have HF2 := Lib.hid (show ∀ i, i < j + 1 → uFault us i = 0 from fun i hi => by
          rcases Nat.lt_or_ge i j with g | g
          · exact HF.out i g
          · rw [show i = j by omega]; exact hf)
        have hf' : (uFault us j != 0) = false := by simpa using hf
        clear hf
        go_wp2_with (go_at_call 37; refine (rufault_c us A n c j _ (HU.out.below hbel) hsm hjn).mono ?_; rintro e w1 ⟨rfl, hb1⟩)
        go_roundw
        case rel => exact ⟨j + 1, by omega, by go_num, HF2, below_then hb1 hbel hzr⟩
        case measure => simp [intOf]; omega
      · have K := Lib.hid (chk_first HB.out HF.out (by rw [HL.out]; exact hjn) hf)
        have hf' : (uFault us j != 0) = true := by simpa using hf
        clear hf
        go_wp2_with (go_at_call 37; refine (rufault_c us A n c j _ (HU.out.below hbel) hsm hjn).mono ?_; rintro e w1 ⟨rfl, hb1⟩)
        go_ret
        exact ⟨by rw [K.out]; rfl, below_then hb1 hbel hzr⟩
    · obtain rfl : j = n := by omega
      have HF2 := Lib.hid (show ∀ i, i < us.length → uFault us i = 0 by rw [HL.out]; exact HF.out)
      have HS := Lib.hid (chkU_sort HF2.out)
      go_wp2
      obtain ⟨wa, rfl⟩ : ∃ wa : World, wa = wr := ⟨_, rfl⟩
      go_loopw [27] (fun v wr => ∃ k : Nat, k ≤ j ∧ v = .int .i64 (k : Int) ∧ Hid (∀ i, i < k → knownU us i = true) ∧ Below w.heap.size w wr) (fun v _ => j - (intOf v).toNat)
      case atStart => exact ⟨0, Nat.zero_le _, rfl, Lib.hid (fun i hi => by omega), hbel⟩
      case round =>
        clear hbel hzr
        obtain ⟨k, hk, rfl, HK, hbel⟩ := hrel
        have hzr := hbel.size
        rcases Nat.lt_or_ge k j with hkn | hkn
        · obtain ⟨b, off, rfl, hbl, hx0, hx1, hx2, hx3⟩ := (HU.out.below hbel).at_ hkn
          have HW := uBox wr (uA us k) 69 _ rfl
          have hU1 := Lib.hid ((HU.out.below hbel).alloc (.cells #[.string (uA us k).name, .string (uA us k).of, .int .i64 (uA us k).num, .int .i64 (uA us k).den] 69))
          cases he : (uA us k).of.toList.isEmpty with
          | true =>
            have HK2 := Lib.hid (show ∀ i, i < k + 1 → knownU us i = true from fun i hi => by
              rcases Nat.lt_or_ge i k with g | g
              · exact HK.out i g
              · rw [show i = k by omega]; unfold knownU; rw [of_empty.1 he]; rfl)
            have hbel2 := hbel.alloc hzr (.cells #[.string (uA us k).name, .string (uA us k).of, .int .i64 (uA us k).num, .int .i64 (uA us k).den] 69)
            go_wp2
            go_roundw
            case rel => exact ⟨k + 1, by omega, by go_num, HK2, hbel2⟩
            case measure => simp [intOf]; omega
          | false =>
            have hne : ofU us k ≠ [] := fun g => by rw [of_empty.2 g] at he; cases he
            have hkw : knownU us k = (idxU us (uA us k).of.data.toList).isSome := by
              unfold knownU
              have h2 : (ofU us k).isEmpty = false := by simpa using hne
              rw [h2]; rfl
            cases hfd : idxU us (uA us k).of.data.toList with
            | some ix =>
              have HFD := Lib.hid (show ixU us (uA us k).of.data.toList = (ix : Int) by unfold ixU; rw [hfd])
              have HK2 := Lib.hid (show ∀ i, i < k + 1 → knownU us i = true from fun i hi => by
                rcases Nat.lt_or_ge i k with g | g
                · exact HK.out i g
                · rw [show i = k by omega, hkw, hfd]; rfl)
              clear hkw hfd hne
              go_wp2_with fail
              generalize wr.alloc (.cells #[.string (uA us k).name, .string (uA us k).of, .int .i64 (uA us k).num, .int .i64 (uA us k).den] 69) = w1 at HW hU1 ⊢
              obtain ⟨c0, c1, c2, c3, hb1, hz1⟩ := HW
              refine (unitof_c us _ _ j c _ hU1.out hsm).mono ?_
              rintro e w2 ⟨rfl, hb2⟩
              rw [HFD.out]
              obtain ⟨d0, d1, d2, d3, hz2⟩ := uBox_below ⟨c0, c1, c2, c3⟩ hz1 hb2
              have hbel2 := below_then hb2 (below_then hb1 hbel hzr) (below_then hb1 hbel hzr).size
              clear c0 c1 c2 c3 hb1 hb2
              go_wp2
              go_roundw
              case rel => exact ⟨k + 1, by omega, by go_num, HK2, hbel2⟩
              case measure => simp [intOf]; omega
            | none =>
              have HFD := Lib.hid (show ixU us (uA us k).of.data.toList = -1 by unfold ixU; rw [hfd])
              have K := Lib.hid (chk_second HB.out HF2.out (by rw [HL.out]; exact hkn) (by rw [hkw, hfd]; rfl))
              clear hkw hfd hne
              go_wp2_with fail
              generalize wr.alloc (.cells #[.string (uA us k).name, .string (uA us k).of, .int .i64 (uA us k).num, .int .i64 (uA us k).den] 69) = w1 at HW hU1 ⊢
              obtain ⟨c0, c1, c2, c3, hb1, hz1⟩ := HW
              refine (unitof_c us _ _ j c _ hU1.out hsm).mono ?_
              rintro e w2 ⟨rfl, hb2⟩
              rw [HFD.out]
              obtain ⟨d0, d1, d2, d3, hz2⟩ := uBox_below ⟨c0, c1, c2, c3⟩ hz1 hb2
              have hbel2 := below_then hb2 (below_then hb1 hbel hzr) (below_then hb1 hbel hzr).size
              clear c0 c1 c2 c3 hb1 hb2
              go_wp2
              go_ret
              exact ⟨by rw [K.out]; rfl, hbel2⟩
        · obtain rfl : k = j := by omega
          have HK2 := Lib.hid (show ∀ i, i < us.length → knownU us i = true by rw [HL.out]; exact HK.out)
          have H3 := Lib.hid (chk_third HB.out HF2.out HK2.out)
          go_wp2
          obtain ⟨wb, rfl⟩ : ∃ wb : World, wb = wr := ⟨_, rfl⟩
          go_loopw [44] (fun v wr => ∃ p : Nat, p ≤ k ∧ v = .int .i64 (p : Int) ∧ Hid (∀ i, i < p → chF us i = 0) ∧ Below w.heap.size w wr) (fun v _ => k - (intOf v).toNat)
          case atStart => exact ⟨0, Nat.zero_le _, rfl, Lib.hid (fun i hi => by omega), hbel⟩
          case round =>
            clear hbel hzr
            obtain ⟨p, hp, rfl, HP, hbel⟩ := hrel
            have hzr := hbel.size
            rcases Nat.lt_or_ge p k with hpn | hpn
            · go_wp2_with fail
              refine (chain_c us A k c p _ (HU.out.below hbel) hsm HK.out hpn).mono ?_
              rintro e w2 ⟨hb2, ⟨hc, rfl⟩ | ⟨l, B, d, hc, hl0, hl1, rfl, hd⟩⟩
              · have hcf : chF us p = 17 := by unfold chF; rw [hc]
                have K := Lib.hid (H3.out.trans ((firstF_at HP.out (by rw [HL.out]; exact hpn) (by rw [hcf]; decide)).trans hcf))
                clear hcf hc
                go_wp2
                go_ret
                exact ⟨by rw [K.out]; rfl, below_then hb2 hbel hzr⟩
              · clear hd
                have hl3 : l.length ≤ 201 := by rw [HL.out] at hl1; omega
                clear hl1
                by_cases h5 : 5 < l.length
                · have hcf : chF us p = 2 := by unfold chF; rw [hc]; exact if_pos h5
                  have K := Lib.hid (H3.out.trans ((firstF_at HP.out (by rw [HL.out]; exact hpn) (by rw [hcf]; decide)).trans hcf))
                  clear hcf hc
                  go_wp2
                  go_ret
                  exact ⟨by rw [K.out]; rfl, below_then hb2 hbel hzr⟩
                · have hcf : chF us p = 0 := by unfold chF; rw [hc]; exact if_neg h5
                  have HP2 := Lib.hid (show ∀ i, i < p + 1 → chF us i = 0 from fun i hi => by
                    rcases Nat.lt_or_ge i p with g | g
                    · exact HP.out i g
                    · rw [show i = p by omega]; exact hcf)
                  have h5' : l.length ≤ 5 := by omega
                  clear hcf hc h5
                  go_wp2
                  go_roundw
                  case rel => exact ⟨p + 1, by omega, by go_num, HP2, below_then hb2 hbel hzr⟩
                  case measure => simp [intOf]; omega
            · obtain rfl : p = k := by omega
              have K := Lib.hid (H3.out.trans (firstF_zero (by rw [HL.out]; exact HP.out)))
              go_wp2
              go_ret
              exact ⟨by rw [K.out]; rfl, hbel⟩
end Go.Proofs.YtegobkaldedhhaaGreatDoor
