
/- The walks of the reference's numbers: threes, taxDigit, isLetters, isDigits, remainder. -/
import Derived.Test.YtegobkaldedhhaaGreatDoorK4
namespace Go.Proofs.YtegobkaldedhhaaGreatDoor
open Go.RowKit Limb Nmb
set_option linter.unusedVariables false
set_option linter.unusedSimpArgs false

set_option maxHeartbeats 1000000 in
set_option maxRecDepth 100000 in
theorem rthrees_c (s : ByteArray) (w : World) (hs : s.size ≤ 100) (hd : digs s.data.toList = true) :
    Calls Tryz.prog 111 #[.string s] w fun e w' => w = w' ∧ e = .returned (.bool (sumB s.data.toList)) := by
  have hdd := (digs_yes hd).2
  have hl := szL s
  have HSB := Lib.hid (fun k (h : k ≤ s.size) => sum_bd hdd (k := k) (by omega))
  have HD := Lib.hid hdd
  have HL := Lib.hid hl
  clear hd hdd hl
  go_enter Tryz.func111, Tryz.ntmps111
  go_wp2
  go_loop [3, 8] (fun x i => ∃ k : Nat, k ≤ s.size ∧ i = .int .i64 k ∧ x = .int .i64 (sumF (wt s.data.toList) k)) (fun _ i => s.size - (intOf i).toNat)
  case atStart => exact ⟨0, Nat.zero_le _, rfl, rfl⟩
  case round =>
    obtain ⟨k, hk, rfl, rfl⟩ := hrel
    obtain ⟨b1, b2⟩ := HSB.out k hk
    rcases Nat.lt_or_ge k s.size with hlt | hge
    · obtain ⟨j, hj⟩ : ∃ j, s.size - 1 - k = j := ⟨_, rfl⟩
      have hjs : j < s.size := by omega
      have e3 : ((s.size : Int) - 1 - (k : Int)).toNat = j := by omega
      obtain ⟨d1, d2⟩ := HD.out j (by rw [HL.out]; exact hjs)
      have hby := byS s j hjs
      have hB : 48 ≤ (s[j].toNat : Int) ∧ (s[j].toNat : Int) ≤ 57 := by unfold dgt at d1 d2; omega
      have hS := Lib.hid (show sumF (wt s.data.toList) (k + 1) = sumF (wt s.data.toList) k + wt s.data.toList k from rfl)
      by_cases hodd : k % 2 = 1
      · have hw := Lib.hid (show wt s.data.toList k = ((s[j].toNat : Int) - 48) * 3 by rw [wt_odd hodd, HL.out, hj, hby]; rfl)
        have ho : ((k : Int) % 2 == 1) = true := by simp; omega
        obtain ⟨hB1, hB2⟩ := hB
        clear hby d1 d2 hodd hj
        go_wp2
        go_round
        case rel => exact ⟨k + 1, by omega, by go_num, ivK (by rw [hS.out, hw.out])⟩
        case measure => simp [intOf]; omega
      · have hw := Lib.hid (show wt s.data.toList k = (s[j].toNat : Int) - 48 by rw [wt_even hodd, HL.out, hj, hby]; rfl)
        have ho : ((k : Int) % 2 == 1) = false := by simp; omega
        obtain ⟨hB1, hB2⟩ := hB
        clear hby d1 d2 hodd hj
        go_wp2
        go_round
        case rel => exact ⟨k + 1, by omega, by go_num, ivK (by rw [hS.out, hw.out])⟩
        case measure => simp [intOf]; omega
    · obtain rfl : k = s.size := by omega
      have he := Lib.hid (show sumB s.data.toList = (sumF (wt s.data.toList) s.size % 10 == 0) by unfold sumB; rw [HL.out]; rfl)
      go_wp2
      go_ret
      exact ⟨rfl, retB he.out.symm⟩

set_option maxHeartbeats 1000000 in
set_option maxRecDepth 100000 in
theorem rtaxd_c (s : ByteArray) (w : World) (hs : 10 ≤ s.size) (hd : digs s.data.toList = true) :
    Calls Tryz.prog 115 #[.string s] w fun e w' => w = w' ∧ e = .returned (.int .u8 (taxD s.data.toList)) := by
  have hdd := (digs_yes hd).2
  have hl := szL s
  have HTB := Lib.hid (fun k (h : k ≤ s.size) => taxP_bd (l := s.data.toList) (k := k) (fun i hi => by have := hdd i (by omega); unfold dgt at this; omega))
  have HD := Lib.hid hdd
  have HL := Lib.hid hl
  have HS := Lib.hid hs
  clear hd hdd hl hs
  go_enter Tryz.func115, Tryz.ntmps115
  go_wp2
  go_loop [3, 6] (fun x i => ∃ k : Nat, k ≤ 10 ∧ i = .int .i64 k ∧ x = .int .i64 (taxP s.data.toList k)) (fun _ i => 10 - (intOf i).toNat)
  case atStart => exact ⟨0, Nat.zero_le _, rfl, rfl⟩
  case round =>
    obtain ⟨k, hk, rfl, rfl⟩ := hrel
    obtain ⟨b1, b2⟩ := HTB.out k (by have := HS.out; omega)
    rcases Nat.lt_or_ge k 10 with hk10 | hge
    · have hlt : k < s.size := by have := HS.out; omega
      obtain ⟨d1, d2⟩ := HD.out k (by rw [HL.out]; exact hlt)
      have hby := byS s k hlt
      have hB : 48 ≤ (s[k].toNat : Int) ∧ (s[k].toNat : Int) ≤ 57 := by unfold dgt at d1 d2; omega
      have hS := Lib.hid (show taxP s.data.toList (k + 1) = stTx (taxP s.data.toList k) (s[k].toNat : Int) by rw [taxP, hby])
      obtain ⟨hB1, hB2⟩ := hB
      clear hby d1 d2
      by_cases h0 : ((s[k].toNat : Int) - 48 + taxP s.data.toList k) % 10 = 0
      · have h0' : (((s[k].toNat : Int) - 48 + taxP s.data.toList k) % 10 == 0) = true := beq_iff_eq.2 h0
        have hst := Lib.hid (show stTx (taxP s.data.toList k) (s[k].toNat : Int) = 9 by unfold stTx; rw [if_pos h0]; rfl)
        clear h0
        go_wp2
        go_round
        case rel => exact ⟨k + 1, by omega, by go_num, ivK (by rw [hS.out, hst.out])⟩
        case measure => simp [intOf]; omega
      · have h0' : (((s[k].toNat : Int) - 48 + taxP s.data.toList k) % 10 == 0) = false := beq_eq_false_iff_ne.2 h0
        have hst := Lib.hid (show stTx (taxP s.data.toList k) (s[k].toNat : Int) = 2 * (((s[k].toNat : Int) - 48 + taxP s.data.toList k) % 10) % 11 by unfold stTx; rw [if_neg h0])
        have h1 : 0 ≤ ((s[k].toNat : Int) - 48 + taxP s.data.toList k) % 10 ∧ ((s[k].toNat : Int) - 48 + taxP s.data.toList k) % 10 ≤ 9 := by omega
        clear h0
        go_wp2
        go_round
        case rel => exact ⟨k + 1, by omega, by go_num, ivK (by rw [hS.out, hst.out])⟩
        case measure => simp [intOf]; omega
    · have e10 : k = 10 := by omega
      subst e10
      have he := Lib.hid (taxD_sub s.data.toList)
      have h1 : 0 ≤ (11 - taxP s.data.toList 10) % 10 ∧ (11 - taxP s.data.toList 10) % 10 ≤ 9 := by omega
      go_wp2
      go_ret
      exact ⟨rfl, retI he.out.symm⟩

theorem inL_all {l : List UInt8} {a b : Int} : inL l a b = l.all (fun c => decide (a ≤ (c.toNat : Int) ∧ (c.toNat : Int) ≤ b)) := by
  rw [Bool.eq_iff_iff, List.all_eq_true]
  constructor
  · intro h c hc
    obtain ⟨i, hi, rfl⟩ := List.getElem_of_mem hc
    have := inL_yes h hi
    rw [byA_get hi] at this
    exact decide_eq_true this
  · intro h
    refine inL_mk (fun i hi => ?_)
    have := of_decide_eq_true (h l[i] (List.getElem_mem hi))
    rw [byA_get hi]
    exact this
theorem all_at {s : ByteArray} {p : UInt8 → Bool} (h : ∀ i, (hi : i < s.size) → p s[i] = true) : s.data.toList.all p = true := by
  rw [List.all_eq_true]
  intro c hc
  obtain ⟨i, hi, rfl⟩ := List.getElem_of_mem hc
  exact h i (by simpa using hi)
theorem all_not {s : ByteArray} {p : UInt8 → Bool} {i : Nat} (hi : i < s.size) (h : p s[i] = false) : s.data.toList.all p = false := by
  rw [Bool.eq_false_iff]
  intro h2
  have := List.all_eq_true.1 h2 s[i] (by have := List.getElem_mem (l := s.data.toList) (n := i) (by simpa using hi); exact this)
  rw [h] at this; cases this
def upC (c : UInt8) : Bool := decide ((65 : Int) ≤ (c.toNat : Int) ∧ (c.toNat : Int) ≤ 90)
def diC (c : UInt8) : Bool := decide ((48 : Int) ≤ (c.toNat : Int) ∧ (c.toNat : Int) ≤ 57)
def upS (s : ByteArray) (j : Nat) : Prop := ∀ i, i < j → (hi : i < s.size) → upC s[i] = true
def tgS (s : ByteArray) (j : Nat) : Prop := ∀ i, i < j → (hi : i < s.size) → tagC (s[i].toNat : Int) = true
def diS (s : ByteArray) (j : Nat) : Prop := ∀ i, i < j → (hi : i < s.size) → diC s[i] = true
theorem next_all {s : ByteArray} {p : UInt8 → Bool} {j : Nat} (h : ∀ i, i < j → (hi : i < s.size) → p s[i] = true) (hj : j < s.size) (hp : p s[j] = true) : ∀ i, i < j + 1 → (hi : i < s.size) → p s[i] = true := by
  intro i hi h2
  rcases Nat.lt_or_ge i j with h3 | h3
  · exact h i h3 h2
  · obtain rfl : i = j := by omega
    exact hp
set_option maxHeartbeats 1000000 in
set_option maxRecDepth 100000 in
theorem rletters_c (s : ByteArray) (w : World) (hs : s.size ≤ 9223372036854775807) :
    Calls Tryz.prog 112 #[.string s, .bool false] w fun e w' => w = w' ∧ e = .returned (.bool (inL s.data.toList 65 90)) := by
  obtain ⟨X, hX⟩ : ∃ X, inL s.data.toList 65 90 = X := ⟨_, rfl⟩
  have HX := Lib.hid (hX.symm.trans inL_all)
  rw [hX]
  clear hX
  go_enter Tryz.func112, Tryz.ntmps112
  go_wp2
  go_loop [9] (fun i => ∃ j : Nat, j ≤ s.size ∧ i = .int .i64 j ∧ upS s j) (fun i => s.size - (intOf i).toNat)
  case atStart => exact ⟨0, Nat.zero_le _, rfl, fun i hi => by omega⟩
  case round =>
    obtain ⟨j, hj, rfl, hall⟩ := hrel
    rcases Nat.lt_or_ge j s.size with hjn | hjn
    · by_cases h1 : (s[j].toNat : Int) < 65
      · have hr := all_not (p := upC) hjn (decide_eq_false (by omega))
        unfold upC at hr
        have hr := Lib.hid (HX.out.trans hr)
        clear hall
        go_wp2
        go_ret
        exact ⟨rfl, retB hr.out.symm⟩
      by_cases h2 : (90 : Int) < (s[j].toNat : Int)
      · have hr := all_not (p := upC) hjn (decide_eq_false (by omega))
        unfold upC at hr
        have hr := Lib.hid (HX.out.trans hr)
        clear hall
        go_wp2
        go_ret
        exact ⟨rfl, retB hr.out.symm⟩
      · have hn := Lib.hid (next_all hall hjn (decide_eq_true (by omega)))
        clear hall
        go_wp2
        go_round
        case rel => exact ⟨j + 1, by omega, by go_num, hn.out⟩
        case measure => simp [intOf]; omega
    · have hr := all_at (s := s) (p := upC) (fun i hi => hall i (by omega) hi)
      unfold upC at hr
      have hr := Lib.hid (HX.out.trans hr)
      clear hall
      go_wp2
      go_ret
      exact ⟨rfl, retB hr.out.symm⟩
set_option maxHeartbeats 1000000 in
set_option maxRecDepth 100000 in
theorem rtags_c (s : ByteArray) (w : World) (hs : s.size ≤ 9223372036854775807) :
    Calls Tryz.prog 112 #[.string s, .bool true] w fun e w' => w = w' ∧ e = .returned (.bool (tagL s.data.toList)) := by
  have e0 : tagL s.data.toList = s.data.toList.all (fun c => tagC (c.toNat : Int)) := rfl
  obtain ⟨X, hX⟩ : ∃ X, tagL s.data.toList = X := ⟨_, rfl⟩
  have HX := Lib.hid (hX.symm.trans e0)
  rw [hX]
  clear hX e0
  go_enter Tryz.func112, Tryz.ntmps112
  go_wp2
  go_loop [9] (fun i => ∃ j : Nat, j ≤ s.size ∧ i = .int .i64 j ∧ tgS s j) (fun i => s.size - (intOf i).toNat)
  case atStart => exact ⟨0, Nat.zero_le _, rfl, fun i hi => by omega⟩
  case round =>
    obtain ⟨j, hj, rfl, hall⟩ := hrel
    rcases Nat.lt_or_ge j s.size with hjn | hjn
    · rcases (show (s[j].toNat : Int) < 48 ∨ (57 < (s[j].toNat : Int) ∧ (s[j].toNat : Int) < 65) ∨ 90 < (s[j].toNat : Int) ∨ (48 ≤ (s[j].toNat : Int) ∧ (s[j].toNat : Int) ≤ 57) ∨ (65 ≤ (s[j].toNat : Int) ∧ (s[j].toNat : Int) ≤ 90) by omega) with h1 | ⟨h1, h2⟩ | h1 | ⟨h1, h2⟩ | ⟨h1, h2⟩
      · have hr := Lib.hid (HX.out.trans (all_not (p := fun c => tagC (c.toNat : Int)) hjn (decide_eq_false (by omega))))
        clear hall
        go_wp2
        go_ret
        exact ⟨rfl, retB hr.out.symm⟩
      · have hr := Lib.hid (HX.out.trans (all_not (p := fun c => tagC (c.toNat : Int)) hjn (decide_eq_false (by omega))))
        clear hall
        go_wp2
        go_ret
        exact ⟨rfl, retB hr.out.symm⟩
      · have hr := Lib.hid (HX.out.trans (all_not (p := fun c => tagC (c.toNat : Int)) hjn (decide_eq_false (by omega))))
        clear hall
        go_wp2
        go_ret
        exact ⟨rfl, retB hr.out.symm⟩
      · have hn := Lib.hid (next_all (p := fun c => tagC (c.toNat : Int)) hall hjn (decide_eq_true (by omega)))
        clear hall
        go_wp2
        go_round
        case rel => exact ⟨j + 1, by omega, by go_num, hn.out⟩
        case measure => simp [intOf]; omega
      · have hn := Lib.hid (next_all (p := fun c => tagC (c.toNat : Int)) hall hjn (decide_eq_true (by omega)))
        clear hall
        go_wp2
        go_round
        case rel => exact ⟨j + 1, by omega, by go_num, hn.out⟩
        case measure => simp [intOf]; omega
    · have hr := Lib.hid (HX.out.trans (all_at (s := s) (p := fun c => tagC (c.toNat : Int)) (fun i hi => hall i (by omega) hi)))
      clear hall
      go_wp2
      go_ret
      exact ⟨rfl, retB hr.out.symm⟩
set_option maxHeartbeats 1000000 in
set_option maxRecDepth 100000 in
theorem rdigs_c (s : ByteArray) (w : World) (hs : s.size ≤ 9223372036854775807) :
    Calls Tryz.prog 110 #[.string s] w fun e w' => w = w' ∧ e = .returned (.bool (digs s.data.toList)) := by
  have hlen := szL s
  have hem : s.toList.isEmpty = s.data.toList.isEmpty := by rw [Lib.toList_data]
  have e0 : digs s.data.toList = (inL s.data.toList 48 57 && !s.data.toList.isEmpty) := rfl
  rw [e0, ← hem]
  cases he : s.toList.isEmpty with
  | true =>
    rw [Bool.not_true, Bool.and_false]
    clear hlen hem e0
    go_enter Tryz.func110, Tryz.ntmps110
    go_wp2
    go_ret
    exact ⟨rfl, rfl⟩
  | false =>
  rw [Bool.not_false, Bool.and_true]
  obtain ⟨X, hX⟩ : ∃ X, inL s.data.toList 48 57 = X := ⟨_, rfl⟩
  have HX := Lib.hid (hX.symm.trans inL_all)
  rw [hX]
  clear hlen hem e0 hX
  go_enter Tryz.func110, Tryz.ntmps110
  go_wp2
  go_loop [8] (fun i => ∃ j : Nat, j ≤ s.size ∧ i = .int .i64 j ∧ diS s j) (fun i => s.size - (intOf i).toNat)
  case atStart => exact ⟨0, Nat.zero_le _, rfl, fun i hi => by omega⟩
  case round =>
    obtain ⟨j, hj, rfl, hall⟩ := hrel
    rcases Nat.lt_or_ge j s.size with hjn | hjn
    · by_cases h1 : (s[j].toNat : Int) < 48
      · have hr := all_not (p := diC) hjn (decide_eq_false (by omega))
        unfold diC at hr
        have hr := Lib.hid (HX.out.trans hr)
        clear hall
        go_wp2
        go_ret
        exact ⟨rfl, retB hr.out.symm⟩
      by_cases h2 : (57 : Int) < (s[j].toNat : Int)
      · have hr := all_not (p := diC) hjn (decide_eq_false (by omega))
        unfold diC at hr
        have hr := Lib.hid (HX.out.trans hr)
        clear hall
        go_wp2
        go_ret
        exact ⟨rfl, retB hr.out.symm⟩
      · have hn := Lib.hid (next_all hall hjn (decide_eq_true (by omega)))
        clear hall
        go_wp2
        go_round
        case rel => exact ⟨j + 1, by omega, by go_num, hn.out⟩
        case measure => simp [intOf]; omega
    · have hr := all_at (s := s) (p := diC) (fun i hi => hall i (by omega) hi)
      unfold diC at hr
      have hr := Lib.hid (HX.out.trans hr)
      clear hall
      go_wp2
      go_ret
      exact ⟨rfl, retB hr.out.symm⟩
theorem remF_bd {l : List UInt8} {r : Int} (h : 0 ≤ r ∧ r ≤ 96) : 0 ≤ remF l r ∧ remF l r ≤ 96 := by
  induction l generalizing r with
  | nil => exact h
  | cons c l ih => exact ih (by omega)
set_option maxHeartbeats 1000000 in
set_option maxRecDepth 100000 in
theorem rremainder_c (s : ByteArray) (w : World) (hs : s.size ≤ 100) (hd : ∀ i, i < s.data.toList.length → 0 ≤ dgt s.data.toList i ∧ dgt s.data.toList i ≤ 9) :
    Calls Tryz.prog 113 #[.string s, .int .i64 97] w fun e w' => w = w' ∧ e = .returned (.int .i64 (remF s.data.toList 0)) := by
  have hl := szL s
  have HD := Lib.hid hd
  have HL := Lib.hid hl
  have HT := Lib.hid (fun k (h : k < s.size) => remF_take (l := s.data.toList) (k := k) (by omega) 0)
  have HE := Lib.hid (show remF (s.data.toList.take s.size) 0 = remF s.data.toList 0 by rw [← hl, List.take_length])
  have HB := Lib.hid (fun k => remF_bd (l := s.data.toList.take k) (r := 0) ⟨by decide, by decide⟩)
  clear hd hl
  go_enter Tryz.func113, Tryz.ntmps113
  go_wp2
  go_loop [5, 9] (fun x i => ∃ k : Nat, k ≤ s.size ∧ i = .int .i64 k ∧ x = .int .i64 (remF (s.data.toList.take k) 0)) (fun _ i => s.size - (intOf i).toNat)
  case atStart => exact ⟨0, Nat.zero_le _, rfl, rfl⟩
  case round =>
    obtain ⟨k, hk, rfl, rfl⟩ := hrel
    obtain ⟨b1, b2⟩ := HB.out k
    rcases Nat.lt_or_ge k s.size with hlt | hge
    · obtain ⟨d1, d2⟩ := HD.out k (by rw [HL.out]; exact hlt)
      have hby := byS s k hlt
      have hB : 48 ≤ (s[k].toNat : Int) ∧ (s[k].toNat : Int) ≤ 57 := by unfold dgt at d1 d2; omega
      have hS := Lib.hid (show remF (s.data.toList.take (k + 1)) 0 = (10 * remF (s.data.toList.take k) 0 + ((s[k].toNat : Int) - 48)) % 97 by rw [HT.out k hlt, hby]; rfl)
      obtain ⟨hB1, hB2⟩ := hB
      clear hby d1 d2
      go_wp2
      go_round
      case rel => exact ⟨k + 1, by omega, by go_num, ivK (by rw [hS.out])⟩
      case measure => simp [intOf]; omega
    · obtain rfl : k = s.size := by omega
      go_wp2
      go_ret
      exact ⟨rfl, retI HE.out⟩
end Go.Proofs.YtegobkaldedhhaaGreatDoor
