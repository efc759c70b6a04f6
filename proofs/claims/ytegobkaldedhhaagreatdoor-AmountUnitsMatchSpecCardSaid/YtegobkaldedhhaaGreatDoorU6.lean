
/- The walk of package amount: CheckUnits. -/
import Derived.Test.YtegobkaldedhhaaGreatDoorU5
namespace Go.Proofs.YtegobkaldedhhaaGreatDoor
open Go.RowKit Limb
set_option linter.unusedVariables false
set_option linter.unusedSimpArgs false

theorem firstF_at {f : Nat → Int} {n m : Nat} (h : ∀ i, i < m → f i = 0) (hm : m < n) (hf : f m ≠ 0) : firstF f n = f m := by
  rcases firstF_cases f n with ⟨_, h2⟩ | ⟨k, hk, h1, h2, h3⟩
  · exact absurd (h2 m hm) hf
  · rcases Nat.lt_trichotomy k m with g | g | g
    · exact absurd (h k g) h2
    · subst g; exact h1
    · exact absurd (h3 m g) hf
theorem firstF_zero {f : Nat → Int} {n : Nat} (h : ∀ i, i < n → f i = 0) : firstF f n = 0 := by
  rcases firstF_cases f n with ⟨h1, _⟩ | ⟨k, hk, h1, h2, _⟩
  · exact h1
  · exact absurd (h k hk) h2
section
variable {us : List Unt} {m : Nat}
theorem chk_many (h : 200 < us.length) : chkU us = 2 := by unfold chkU; rw [if_pos h]
theorem chk_first (hn : ¬ 200 < us.length) (h : ∀ i, i < m → uFault us i = 0) (hm : m < us.length) (hf : uFault us m ≠ 0) : chkU us = uFault us m := by
  have e := firstF_at h hm hf
  unfold chkU; rw [if_neg hn, e, if_pos hf]
theorem chk_second (hn : ¬ 200 < us.length) (h : ∀ i, i < us.length → uFault us i = 0) (hm : m < us.length) (hk : knownU us m = false) : chkU us = 9 := by
  have e := firstF_zero h
  have e2 : firstF (fun i => if knownU us i then 0 else 9) us.length ≠ 0 := by
    intro e3
    rcases firstF_cases (fun i => if knownU us i then (0 : Int) else 9) us.length with ⟨_, h2⟩ | ⟨k, _, h1, h2, _⟩
    · have := h2 m hm; simp [hk] at this
    · rw [e3] at h1; exact h2 h1.symm
  unfold chkU; rw [if_neg hn, e, if_neg (by simp), if_pos e2]
theorem chk_third (hn : ¬ 200 < us.length) (h : ∀ i, i < us.length → uFault us i = 0) (hk : ∀ i, i < us.length → knownU us i = true) : chkU us = firstF (chF us) us.length := by
  have e := firstF_zero h
  have e2 : firstF (fun i => if knownU us i then (0 : Int) else 9) us.length = 0 := firstF_zero fun i hi => by simp [hk i hi]
  unfold chkU; rw [if_neg hn, e, if_neg (by simp), e2, if_neg (by simp)]
end

set_option maxHeartbeats 8000000 in
set_option maxRecDepth 100000 in
theorem chkunits_c (us : List Unt) (A : Option Addr) (n c : Nat) (w : World) (hU : Uns w A n us) (hn : n ≤ 9223372036854775807) :
    Calls Tryz.prog 9 #[.slice A n c] w (RetI (chkU us) w) := by
  have HL := Lib.hid hU.1
  have HU := Lib.hid hU; clear hU
  by_cases hbig : 200 < n
  · have K := Lib.hid (chk_many (us := us) (by rw [HL.out]; exact hbig))
    go_enter Tryz.func9, Tryz.ntmps9
    go_wp2
    go_ret
    exact ⟨by rw [K.out]; rfl, Below.refl _ _⟩
  have hsm : n ≤ 200 := by omega
  have HB := Lib.hid (show ¬ 200 < us.length by rw [HL.out]; exact hbig)
  clear hbig
  go_enter Tryz.func9, Tryz.ntmps9
  go_wp2
  go_loopw [17] (fun v wr => ∃ j : Nat, j ≤ n ∧ v = .int .i64 (j : Int) ∧ Hid (∀ i, i < j → uFault us i = 0) ∧ Below w.heap.size w wr) (fun v _ => n - (intOf v).toNat)
  case atStart => exact ⟨0, Nat.zero_le _, rfl, Lib.hid (fun i hi => by omega), Below.refl _ _⟩
  case round =>
    obtain ⟨j, hj, rfl, HF, hbel⟩ := hrel
    have hzr := hbel.size
    rcases Nat.lt_or_ge j n with hjn | hjn
    · by_cases hf : uFault us j = 0
      · have HF2 := Lib.hid (show ∀ i, i < j + 1 → uFault us i = 0 from fun i hi => by
          rcases Nat.lt_or_ge i j with g | g
          · exact HF.out i g
          · rw [show i = j by omega]; exact hf)
        have hf' : (uFault us j != 0) = false := by simpa using hf
        clear hf
        go_wp2_with (go_at_call 34; refine (ufault_c us A n c j _ (HU.out.below hbel) hsm hjn).mono ?_; rintro e w1 ⟨rfl, hb1⟩)
        go_roundw
        case rel => exact ⟨j + 1, by omega, by go_num, HF2, below_then hb1 hbel hzr⟩
        case measure => simp [intOf]; omega
      · have K := Lib.hid (chk_first HB.out HF.out (by rw [HL.out]; exact hjn) hf)
        have hf' : (uFault us j != 0) = true := by simpa using hf
        clear hf
        go_wp2_with (go_at_call 34; refine (ufault_c us A n c j _ (HU.out.below hbel) hsm hjn).mono ?_; rintro e w1 ⟨rfl, hb1⟩)
        go_ret
        exact ⟨by rw [K.out]; rfl, below_then hb1 hbel hzr⟩
    · obtain rfl : j = n := by omega
      have HF2 := Lib.hid (show ∀ i, i < us.length → uFault us i = 0 by rw [HL.out]; exact HF.out)
      have HS := Lib.hid (chkU_sort HF2.out)
      go_wp2
      obtain ⟨wa, rfl⟩ : ∃ wa : World, wa = wr := ⟨_, rfl⟩
      go_loopw [29] (fun v wr => ∃ k : Nat, k ≤ j ∧ v = .int .i64 (k : Int) ∧ Hid (∀ i, i < k → knownU us i = true) ∧ Below w.heap.size w wr) (fun v _ => j - (intOf v).toNat)
      case atStart => exact ⟨0, Nat.zero_le _, rfl, Lib.hid (fun i hi => by omega), hbel⟩
      case round =>
        clear hbel hzr
        obtain ⟨k, hk, rfl, HK, hbel⟩ := hrel
        have hzr := hbel.size
        rcases Nat.lt_or_ge k j with hkn | hkn
        · obtain ⟨b, off, rfl, hbl, hx0, hx1, hx2, hx3⟩ := (HU.out.below hbel).at_ hkn
          have HW := uBox wr (uA us k) 69 _ rfl
          have hU1 := Lib.hid ((HU.out.below hbel).alloc (.cells #[.string (uA us k).name, .string (uA us k).of, .int .i64 (uA us k).num, .int .i64 (uA us k).den] 69))
          cases he : (uA us k).of.toList.isEmpty with
          | true =>
            have HK2 := Lib.hid (show ∀ i, i < k + 1 → knownU us i = true from fun i hi => by
              rcases Nat.lt_or_ge i k with g | g
              · exact HK.out i g
              · rw [show i = k by omega]; unfold knownU; rw [of_empty.1 he]; rfl)
            go_wp2_with fail
            generalize wr.alloc (.cells #[.string (uA us k).name, .string (uA us k).of, .int .i64 (uA us k).num, .int .i64 (uA us k).den] 69) = w1 at HW hU1 ⊢
            obtain ⟨c0, c1, c2, c3, hb1, hz1⟩ := HW
            refine (unitat_c us _ _ j c _ hU1.out hsm HS.out).mono ?_
            rintro e w2 ⟨hb2, i', hi', rfl, hix⟩
            clear hix
            obtain ⟨d0, d1, d2, d3, hz2⟩ := uBox_below ⟨c0, c1, c2, c3⟩ hz1 hb2
            have hbel2 := below_then hb2 (below_then hb1 hbel hzr) (below_then hb1 hbel hzr).size
            clear c0 c1 c2 c3 hb1 hb2
            go_wp2
            go_roundw
            case rel => exact ⟨k + 1, by omega, by go_num, HK2, hbel2⟩
            case measure => simp [intOf]; omega
          | false =>
            have hne : ofU us k ≠ [] := fun g => by rw [of_empty.2 g] at he; cases he
            have hkw : knownU us k = foundU us (uA us k).of.data.toList := by
              unfold knownU foundU
              have h2 : (ofU us k).isEmpty = false := by simpa using hne
              rw [h2]; rfl
            cases hfd : foundU us (uA us k).of.data.toList with
            | true =>
              have HFD := Lib.hid hfd
              have HK2 := Lib.hid (show ∀ i, i < k + 1 → knownU us i = true from fun i hi => by
                rcases Nat.lt_or_ge i k with g | g
                · exact HK.out i g
                · rw [show i = k by omega, hkw, hfd])
              clear hkw hfd hne
              go_wp2_with fail
              generalize wr.alloc (.cells #[.string (uA us k).name, .string (uA us k).of, .int .i64 (uA us k).num, .int .i64 (uA us k).den] 69) = w1 at HW hU1 ⊢
              obtain ⟨c0, c1, c2, c3, hb1, hz1⟩ := HW
              refine (unitat_c us _ _ j c _ hU1.out hsm HS.out).mono ?_
              rintro e w2 ⟨hb2, i', hi', rfl, hix⟩
              clear hix
              rw [HFD.out]
              obtain ⟨d0, d1, d2, d3, hz2⟩ := uBox_below ⟨c0, c1, c2, c3⟩ hz1 hb2
              have hbel2 := below_then hb2 (below_then hb1 hbel hzr) (below_then hb1 hbel hzr).size
              clear c0 c1 c2 c3 hb1 hb2
              go_wp2
              go_roundw
              case rel => exact ⟨k + 1, by omega, by go_num, HK2, hbel2⟩
              case measure => simp [intOf]; omega
            | false =>
              have HFD := Lib.hid hfd
              have K := Lib.hid (chk_second HB.out HF2.out (by rw [HL.out]; exact hkn) (hkw.trans hfd))
              clear hkw hfd hne
              go_wp2_with fail
              generalize wr.alloc (.cells #[.string (uA us k).name, .string (uA us k).of, .int .i64 (uA us k).num, .int .i64 (uA us k).den] 69) = w1 at HW hU1 ⊢
              obtain ⟨c0, c1, c2, c3, hb1, hz1⟩ := HW
              refine (unitat_c us _ _ j c _ hU1.out hsm HS.out).mono ?_
              rintro e w2 ⟨hb2, i', hi', rfl, hix⟩
              clear hix
              rw [HFD.out]
              obtain ⟨d0, d1, d2, d3, hz2⟩ := uBox_below ⟨c0, c1, c2, c3⟩ hz1 hb2
              have hbel2 := below_then hb2 (below_then hb1 hbel hzr) (below_then hb1 hbel hzr).size
              clear c0 c1 c2 c3 hb1 hb2
              go_wp2
              go_ret
              exact ⟨by rw [K.out]; rfl, hbel2⟩
        · obtain rfl : k = j := by omega
          have HK2 := Lib.hid (show ∀ i, i < us.length → knownU us i = true by rw [HL.out]; exact HK.out)
          have H3 := Lib.hid (chk_third HB.out HF2.out HK2.out)
          go_wp2
          obtain ⟨wb, rfl⟩ : ∃ wb : World, wb = wr := ⟨_, rfl⟩
          go_loopw [50] (fun v wr => ∃ p : Nat, p ≤ k ∧ v = .int .i64 (p : Int) ∧ Hid (∀ i, i < p → chF us i = 0) ∧ Below w.heap.size w wr) (fun v _ => k - (intOf v).toNat)
          case atStart => exact ⟨0, Nat.zero_le _, rfl, Lib.hid (fun i hi => by omega), hbel⟩
          case round =>
            clear hbel hzr
            obtain ⟨p, hp, rfl, HP, hbel⟩ := hrel
            have hzr := hbel.size
            rcases Nat.lt_or_ge p k with hpn | hpn
            · go_wp2_with fail
              refine (steps_c us A k c p _ (HU.out.below hbel) hsm HS.out HK.out hpn).mono ?_
              rintro e w2 ⟨hb2, ⟨hc, rfl⟩ | ⟨l, B, d, hc, hl0, hl1, hl2, rfl, hd⟩⟩
              · have hcf : chF us p = 17 := by unfold chF; rw [hc]
                have K := Lib.hid (H3.out.trans ((firstF_at HP.out (by rw [HL.out]; exact hpn) (by rw [hcf]; decide)).trans hcf))
                clear hcf hc
                go_wp2
                go_ret
                exact ⟨by rw [K.out]; rfl, below_then hb2 hbel hzr⟩
              · clear hl2 hd
                have hl3 : l.length ≤ 200 := by rw [HL.out] at hl1; omega
                clear hl1
                by_cases h5 : 5 < l.length
                · have hcf : chF us p = 2 := by unfold chF; rw [hc]; exact if_pos h5
                  have K := Lib.hid (H3.out.trans ((firstF_at HP.out (by rw [HL.out]; exact hpn) (by rw [hcf]; decide)).trans hcf))
                  clear hcf hc
                  go_wp2
                  go_ret
                  exact ⟨by rw [K.out]; rfl, below_then hb2 hbel hzr⟩
                · have hcf : chF us p = 0 := by unfold chF; rw [hc]; exact if_neg h5
                  have HP2 := Lib.hid (show ∀ i, i < p + 1 → chF us i = 0 from fun i hi => by
                    rcases Nat.lt_or_ge i p with g | g
                    · exact HP.out i g
                    · rw [show i = p by omega]; exact hcf)
                  have h5' : l.length ≤ 5 := by omega
                  clear hcf hc h5
                  go_wp2
                  go_roundw
                  case rel => exact ⟨p + 1, by omega, by go_num, HP2, below_then hb2 hbel hzr⟩
                  case measure => simp [intOf]; omega
            · obtain rfl : p = k := by omega
              have K := Lib.hid (H3.out.trans (firstF_zero (by rw [HL.out]; exact HP.out)))
              go_wp2
              go_ret
              exact ⟨by rw [K.out]; rfl, hbel⟩
end Go.Proofs.YtegobkaldedhhaaGreatDoor
