
/- The walks of package amount's numbers: isSum, taxDigit, bankRestOf. -/
import Derived.Test.YtegobkaldedhhaaGreatDoorK1
import Derived.Test.YtegobkaldedhhaaGreatDoorShelf
import Derived.Test.YtegobkaldedhhaaGreatDoorU3
import Derived.Test.YtegobkaldedhhaaGreatDoorD1
import Derived.WalkLawsBesides
import Derived.Deep.QuietTactic
import Derived.BigQuiet
namespace Go.Proofs.YtegobkaldedhhaaGreatDoor
open Go.RowKit Limb Nmb
set_option linter.unusedVariables false
set_option linter.unusedSimpArgs false

theorem ivK {a b : Int} (h : a = b) : Value.int .i64 a = .int .i64 b := by rw [h]
/-! ### Bytes -/
theorem byS (s : ByteArray) (j : Nat) (h : j < s.size) : (s[j].toNat : Int) = byA s.data.toList j := by
  rw [byA_get (by simpa using h)]; rfl
theorem szL (s : ByteArray) : s.data.toList.length = s.size := by simp
theorem inB_inL (l : List UInt8) (a b : Nat) : inB l a b = inL l a b := by
  rw [Bool.eq_iff_iff]
  unfold inB
  rw [List.all_eq_true]
  constructor
  · intro h
    refine inL_mk (fun i hi => ?_)
    have := of_decide_eq_true (h l[i] (List.getElem_mem hi))
    rw [byA_get hi]
    omega
  · intro h c hc
    obtain ⟨i, hi, rfl⟩ := List.getElem_of_mem hc
    have := inL_yes h hi
    rw [byA_get hi] at this
    exact decide_eq_true (by omega)
theorem digB_digs (l : List UInt8) : digB l = digs l := by
  unfold digB digs
  rw [inB_inL, Bool.and_comm]
  rfl

theorem sum_bd {l : List UInt8} (h : ∀ i, i < l.length → 0 ≤ dgt l i ∧ dgt l i ≤ 9) {k : Nat} (hk : k ≤ l.length) : 0 ≤ sumF (wt l) k ∧ sumF (wt l) k ≤ 27 * k := by
  induction k with
  | zero => exact ⟨Int.le_refl _, Int.le_refl _⟩
  | succ k ih =>
    have a := ih (by omega)
    have b := h (l.length - 1 - k) (by omega)
    rw [sumF]
    have : 0 ≤ wt l k ∧ wt l k ≤ 27 := by
      unfold wt
      rcases tr_cases k with ⟨_, e⟩ | ⟨_, e⟩ <;> rw [e] <;> omega
    omega
theorem wt_odd {l : List UInt8} {k : Nat} (h : k % 2 = 1) : wt l k = dgt l (l.length - 1 - k) * 3 := by unfold wt tr; rw [if_pos h]
theorem wt_even {l : List UInt8} {k : Nat} (h : ¬ k % 2 = 1) : wt l k = dgt l (l.length - 1 - k) := by unfold wt tr; rw [if_neg h, Int.mul_one]

set_option maxHeartbeats 1000000 in
set_option maxRecDepth 100000 in
theorem issum_c (s : ByteArray) (w : World) (hs : s.size ≤ 100) (hd : digs s.data.toList = true) :
    Calls Tryz.prog 109 #[.string s] w fun e w' => w = w' ∧ e = .returned (.bool (sumB s.data.toList)) := by
  have hdd := (digs_yes hd).2
  have hl := szL s
  have HSB := Lib.hid (fun k (h : k ≤ s.size) => sum_bd hdd (k := k) (by omega))
  have HD := Lib.hid hdd
  have HL := Lib.hid hl
  clear hd hdd hl
  go_enter Tryz.func109, Tryz.ntmps109
  go_wp2
  go_loop [3, 8] (fun x i => ∃ k : Nat, k ≤ s.size ∧ i = .int .i64 k ∧ x = .int .i64 (sumF (wt s.data.toList) k)) (fun _ i => s.size - (intOf i).toNat)
  case atStart => exact ⟨0, Nat.zero_le _, rfl, rfl⟩
  case round =>
    obtain ⟨k, hk, rfl, rfl⟩ := hrel
    obtain ⟨b1, b2⟩ := HSB.out k hk
    rcases Nat.lt_or_ge k s.size with hlt | hge
    · obtain ⟨j, hj⟩ : ∃ j, s.size - 1 - k = j := ⟨_, rfl⟩
      have hjs : j < s.size := by omega
      have e3 : ((s.size : Int) - 1 - (k : Int)).toNat = j := by omega
      obtain ⟨d1, d2⟩ := HD.out j (by rw [HL.out]; exact hjs)
      have hby := byS s j hjs
      have hB : 48 ≤ (s[j].toNat : Int) ∧ (s[j].toNat : Int) ≤ 57 := by unfold dgt at d1 d2; omega
      have hS := Lib.hid (show sumF (wt s.data.toList) (k + 1) = sumF (wt s.data.toList) k + wt s.data.toList k from rfl)
      by_cases hodd : k % 2 = 1
      · have hw := Lib.hid (show wt s.data.toList k = ((s[j].toNat : Int) - 48) * 3 by rw [wt_odd hodd, HL.out, hj, hby]; rfl)
        have ho : ((k : Int) % 2 == 1) = true := by simp; omega
        obtain ⟨hB1, hB2⟩ := hB
        clear hby d1 d2 hodd hj
        go_wp2
        go_round
        case rel => exact ⟨k + 1, by omega, by go_num, ivK (by rw [hS.out, hw.out])⟩
        case measure => simp [intOf]; omega
      · have hw := Lib.hid (show wt s.data.toList k = (s[j].toNat : Int) - 48 by rw [wt_even hodd, HL.out, hj, hby]; rfl)
        have ho : ((k : Int) % 2 == 1) = false := by simp; omega
        obtain ⟨hB1, hB2⟩ := hB
        clear hby d1 d2 hodd hj
        go_wp2
        go_round
        case rel => exact ⟨k + 1, by omega, by go_num, ivK (by rw [hS.out, hw.out])⟩
        case measure => simp [intOf]; omega
    · obtain rfl : k = s.size := by omega
      have he := Lib.hid (show sumB s.data.toList = (sumF (wt s.data.toList) s.size % 10 == 0) by unfold sumB; rw [HL.out]; rfl)
      go_wp2
      go_ret
      exact ⟨rfl, retB he.out.symm⟩

theorem taxD_sub (l : List UInt8) : taxD l = 48 + (11 - taxP l 10) % 10 := rfl
set_option maxHeartbeats 1000000 in
set_option maxRecDepth 100000 in
theorem taxd_c (s : ByteArray) (w : World) (hs : s.size = 10) (hd : digs s.data.toList = true) :
    Calls Tryz.prog 146 #[.string s] w fun e w' => w = w' ∧ e = .returned (.int .u8 (taxD s.data.toList)) := by
  have hdd := (digs_yes hd).2
  have hl := szL s
  have HTB := Lib.hid (fun k (h : k ≤ s.size) => taxP_bd (l := s.data.toList) (k := k) (fun i hi => by have := hdd i (by omega); unfold dgt at this; omega))
  have HD := Lib.hid hdd
  have HL := Lib.hid hl
  have HS := Lib.hid hs
  clear hd hdd hl hs
  go_enter Tryz.func146, Tryz.ntmps146
  go_wp2
  go_loop [3, 8] (fun x i => ∃ k : Nat, k ≤ s.size ∧ i = .int .i64 k ∧ x = .int .i64 (taxP s.data.toList k)) (fun _ i => s.size - (intOf i).toNat)
  case atStart => exact ⟨0, Nat.zero_le _, rfl, rfl⟩
  case round =>
    obtain ⟨k, hk, rfl, rfl⟩ := hrel
    obtain ⟨b1, b2⟩ := HTB.out k hk
    rcases Nat.lt_or_ge k s.size with hlt | hge
    · obtain ⟨d1, d2⟩ := HD.out k (by rw [HL.out]; exact hlt)
      have hby := byS s k hlt
      have hB : 48 ≤ (s[k].toNat : Int) ∧ (s[k].toNat : Int) ≤ 57 := by unfold dgt at d1 d2; omega
      have hS := Lib.hid (show taxP s.data.toList (k + 1) = stTx (taxP s.data.toList k) (s[k].toNat : Int) by rw [taxP, hby])
      have hk9 : k ≤ 9 := by have := HS.out; omega
      obtain ⟨hB1, hB2⟩ := hB
      clear hby d1 d2
      by_cases h0 : ((s[k].toNat : Int) - 48 + taxP s.data.toList k) % 10 = 0
      · have h0' : (((s[k].toNat : Int) - 48 + taxP s.data.toList k) % 10 == 0) = true := beq_iff_eq.2 h0
        have hst := Lib.hid (show stTx (taxP s.data.toList k) (s[k].toNat : Int) = 9 by unfold stTx; rw [if_pos h0]; rfl)
        clear h0
        go_wp2
        go_round
        case rel => exact ⟨k + 1, by omega, by go_num, ivK (by rw [hS.out, hst.out])⟩
        case measure => simp [intOf]; omega
      · have h0' : (((s[k].toNat : Int) - 48 + taxP s.data.toList k) % 10 == 0) = false := beq_eq_false_iff_ne.2 h0
        have hst := Lib.hid (show stTx (taxP s.data.toList k) (s[k].toNat : Int) = 2 * (((s[k].toNat : Int) - 48 + taxP s.data.toList k) % 10) % 11 by unfold stTx; rw [if_neg h0])
        have h1 : 0 ≤ ((s[k].toNat : Int) - 48 + taxP s.data.toList k) % 10 ∧ ((s[k].toNat : Int) - 48 + taxP s.data.toList k) % 10 ≤ 9 := by omega
        clear h0
        go_wp2
        go_round
        case rel => exact ⟨k + 1, by omega, by go_num, ivK (by rw [hS.out, hst.out])⟩
        case measure => simp [intOf]; omega
    · have e10 : k = 10 := by have := HS.out; omega
      subst e10
      have he := Lib.hid (taxD_sub s.data.toList)
      have h1 : 0 ≤ (11 - taxP s.data.toList 10) % 10 ∧ (11 - taxP s.data.toList 10) % 10 ≤ 9 := by omega
      go_wp2
      go_ret
      exact ⟨rfl, retI he.out.symm⟩
end Go.Proofs.YtegobkaldedhhaaGreatDoor
