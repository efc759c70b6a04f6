
/- The walk of package amount: weightsFault. -/
import Derived.Test.YtegabimiegdcjaaD1
import Derived.Test.YtegabimiegdcjaaSpec
namespace Go.Proofs.Ytegabimiegdcjaa
open Go.RowKit Limb Work
set_option linter.unusedVariables false
set_option linter.unusedSimpArgs false

/-- The sum of the first weights. -/
def sumW (ws : List Int) (j : Nat) : Int := (ws.take j).foldl (fun a b => a + b) 0
theorem sumW_step {ws : List Int} {j : Nat} (h : j < ws.length) : sumW ws (j + 1) = sumW ws j + hol ws j := by
  unfold sumW
  rw [foldl_snoc _ _ _ _ h, hol_get h]
theorem sumW_zero (ws : List Int) : sumW ws 0 = 0 := by simp [sumW]
def okW (ws : List Int) (j : Nat) : Prop := ∀ p, p < j → 0 ≤ hol ws p ∧ hol ws p ≤ 1000000000
theorem sumW_rng {ws : List Int} : ∀ j, j ≤ ws.length → okW ws j → 0 ≤ sumW ws j ∧ sumW ws j ≤ j * 1000000000 := by
  intro j
  induction j with
  | zero => intro _ _; rw [sumW_zero]; omega
  | succ j ih =>
    intro hj hk
    have h1 := ih (by omega) (fun p hp => hk p (by omega))
    have h2 := hk j (by omega)
    rw [sumW_step (by omega)]
    omega
theorem okW_dec (ws : List Int) (j : Nat) : okW ws j ∨ ∃ p, p < j ∧ okW ws p ∧ ¬ (0 ≤ hol ws p ∧ hol ws p ≤ 1000000000) := by
  induction j with
  | zero => exact .inl fun p hp => by omega
  | succ j ih =>
    rcases ih with h | ⟨p, h1, h2, h3⟩
    · by_cases hj : 0 ≤ hol ws j ∧ hol ws j ≤ 1000000000
      · refine .inl fun p hp => ?_
        rcases Nat.lt_or_ge p j with h1 | h1
        · exact h p h1
        · have : p = j := by omega
          subst this; exact hj
      · exact .inr ⟨j, by omega, h, hj⟩
    · exact .inr ⟨p, by omega, h2, h3⟩
open Classical in
/-- What is wrong with weights. -/
noncomputable def wtF (ws : List Int) : Int :=
  if ws.length = 0 then 9 else if 1000 < ws.length then 2 else if ¬ okW ws ws.length then 1 else if sumW ws ws.length = 0 then 13 else 0
theorem wtF_ok {ws : List Int} (h : wtF ws = 0) : 0 < ws.length ∧ ws.length ≤ 1000 ∧ okW ws ws.length ∧ 0 < sumW ws ws.length := by
  unfold wtF at h
  split at h
  · omega
  · split at h
    · omega
    · split at h
      · omega
      · rename_i h1 h2 h3
        split at h
        · omega
        · rename_i h4
          have hk := Classical.not_not.1 h3
          have := sumW_rng ws.length (Nat.le_refl _) hk
          exact ⟨by omega, by omega, hk, by omega⟩

set_option maxHeartbeats 2000000 in
set_option maxRecDepth 100000 in
theorem weights_c (ws : List Int) (A : Option Addr) (n c : Nat) (w : World) (hI : Ints w A n ws) (hn : n ≤ 9223372036854775807) :
    Calls Try.prog 53 #[.slice A n c] w fun e w' => w = w' ∧ e = .returned (.int .i64 (wtF ws)) := by
  have hl := hI.1
  by_cases h0 : n = 0
  · have e : wtF ws = 9 := by unfold wtF; rw [if_pos (by omega)]
    rw [e]
    have hz : ((n : Nat) : Int) = 0 := by omega
    clear e hI
    go_enter Try.func53, Try.ntmps53
    go_wp2
    go_ret
    exact ⟨rfl, rfl⟩
  · by_cases h1 : 1000 < n
    · have e : wtF ws = 2 := by unfold wtF; rw [if_neg (by omega), if_pos (by omega)]
      rw [e]
      have hz : (((n : Nat) : Int) == 0) = false := by rw [beq_eq_false_iff_ne]; omega
      have hz1 : (1000 : Int) < ((n : Nat) : Int) := by omega
      clear e hI
      go_enter Try.func53, Try.ntmps53
      go_wp2
      go_ret
      exact ⟨rfl, rfl⟩
    · have hz : (((n : Nat) : Int) == 0) = false := by rw [beq_eq_false_iff_ne]; omega
      have hz1 : ¬ (1000 : Int) < ((n : Nat) : Int) := by omega
      have HL := Lib.hid hl
      have HI := Lib.hid hI
      have HW1 : Hid (¬ okW ws n → wtF ws = 1) := Lib.hid (fun h => by unfold wtF; rw [if_neg (by omega), if_neg (by omega), if_pos (by rw [hl]; exact h)])
      have HW2 : Hid (okW ws n → wtF ws = if sumW ws n = 0 then 13 else 0) := Lib.hid (fun h => by unfold wtF; rw [if_neg (by omega), if_neg (by omega), if_neg (by rw [hl]; exact fun h2 => h2 h), hl])
      obtain ⟨F, hF⟩ : ∃ F, wtF ws = F := ⟨_, rfl⟩
      rw [hF]
      have HF := Lib.hid hF
      clear hl hI hF
      go_enter Try.func53, Try.ntmps53
      go_wp2
      go_loop [3, 14] (fun x y => ∃ j : Nat, j ≤ n ∧ x = .int .i64 (sumW ws j) ∧ y = .int .i64 j ∧ Hid (okW ws j)) (fun _ y => n - (intOf y).toNat)
      case atStart => exact ⟨0, Nat.zero_le _, by rw [sumW_zero], rfl, fun p hp => by omega⟩
      case round =>
        obtain ⟨j, hj, rfl, rfl, HK⟩ := hrel
        have hs := sumW_rng j (by rw [HL.out]; exact hj) HK.out
        rcases Nat.lt_or_ge j n with hlt | hge
        · obtain ⟨b, off, rfl, hbl, hc⟩ := HI.out.2.2 (by omega)
          have hx := hc j hlt
          clear hc
          by_cases hok : 0 ≤ hol ws j ∧ hol ws j ≤ 1000000000
          · have HS := Lib.hid (sumW_step (ws := ws) (j := j) (by rw [HL.out]; exact hlt))
            have HK2 : Hid (okW ws (j + 1)) := fun p hp => by
              rcases Nat.lt_or_ge p j with h | h
              · exact HK.out p h
              · have : p = j := by omega
                subst this; exact hok
            go_wp2_with (go_at_call 32; refine (out_no _ _ _ _ hok).mono ?_; rintro e w1 ⟨rfl, rfl⟩)
            go_round
            case rel => exact ⟨j + 1, by omega, by rw [HS.out], by go_num, HK2⟩
            case measure => simp [intOf]; omega
          · have HE : Hid (F = 1) := Lib.hid (by rw [← HF.out]; exact HW1.out (fun hk => hok (hk j hlt)))
            go_wp2_with (go_at_call 32; refine (out_yes _ _ _ _ hok).mono ?_; rintro e w1 ⟨rfl, rfl⟩)
            go_ret
            exact ⟨rfl, by rw [HE.out]; rfl⟩
        · obtain rfl : j = n := by omega
          have HE : Hid (F = if sumW ws j = 0 then 13 else 0) := Lib.hid (by rw [← HF.out]; exact HW2.out HK.out)
          obtain ⟨Z, hZ⟩ : ∃ Z, sumW ws j = Z := ⟨_, rfl⟩
          rw [hZ] at hs HE
          rw [hZ]
          clear hZ
          by_cases hz0 : Z = 0
          · have HE2 := Lib.hid (HE.out.trans (if_pos hz0))
            clear HE
            go_wp2
            go_ret
            exact ⟨rfl, by rw [HE2.out]; rfl⟩
          · have HE2 := Lib.hid (HE.out.trans (if_neg hz0))
            have hzb : (Z == 0) = false := by rw [beq_eq_false_iff_ne]; exact hz0
            clear HE
            go_wp2
            go_ret
            exact ⟨rfl, by rw [HE2.out]; rfl⟩

end Go.Proofs.Ytegabimiegdcjaa
