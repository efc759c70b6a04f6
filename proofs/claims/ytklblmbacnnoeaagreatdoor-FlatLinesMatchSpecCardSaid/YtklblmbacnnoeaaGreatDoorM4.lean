/- The walks of days and dates: the reference's. The walks of the reference's numbers: threes, taxDigit, isLetters, isDigits, remainder. The walks of the reference's days: ofDigits, number, readWeek, ReadDay. -/
import Derived.Test.YtklblmbacnnoeaaGreatDoorE4
import Derived.Test.YtklblmbacnnoeaaGreatDoorK4
import Derived.Test.YtklblmbacnnoeaaGreatDoorF4
-- merged: E3 K5 M4

namespace Go.Proofs.YtklblmbacnnoeaaGreatDoor
open Go.RowKit Limb Work
set_option linter.unusedVariables false
set_option linter.unusedSimpArgs false

theorem rlong_c (y : Int) (w : World) (h : 1 ≤ y ∧ y ≤ 10000) : Calls Tryz.prog 232 #[.int .i64 y] w fun e w' => w = w' ∧ e = .returned (.bool (leapB y)) := by
  obtain ⟨h1, h2⟩ := h
  by_cases a : y % 4 = 0
  · by_cases b : y % 100 = 0
    · by_cases c : y % 400 = 0
      · have e : leapB y = true := decide_eq_true ⟨a, Or.inr c⟩
        rw [e]
        have a := beqT a; have b := beqT b; have c := beqT c; clear e
        go_enter Tryz.func232, Tryz.ntmps232
        go_wp2
        go_ret
        exact ⟨rfl, rfl⟩
      · have e : leapB y = false := decide_eq_false (fun h => h.2.elim (fun h => h b) c)
        rw [e]
        have a := beqT a; have b := beqT b; have c := beqF c; clear e
        go_enter Tryz.func232, Tryz.ntmps232
        go_wp2
        go_ret
        exact ⟨rfl, rfl⟩
    · have e : leapB y = true := decide_eq_true ⟨a, Or.inl b⟩
      rw [e]
      have a := beqT a; have b := beqF b; clear e
      go_enter Tryz.func232, Tryz.ntmps232
      go_wp2
      go_ret
      exact ⟨rfl, rfl⟩
  · have e : leapB y = false := decide_eq_false (fun h => a h.1)
    have c := beqF (show ¬ y % 400 = 0 by omega)
    rw [e]
    have a := beqF a; clear e
    go_enter Tryz.func232, Tryz.ntmps232
    go_wp2
    go_ret
    exact ⟨rfl, rfl⟩
set_option maxRecDepth 100000 in
theorem rdaysof_c (y m : Int) (w : World) (h : 1 ≤ y ∧ y ≤ 10000) (hm : 1 ≤ m ∧ m ≤ 12) : Calls Tryz.prog 206 #[.int .i64 y, .int .i64 m] w fun e w' => w = w' ∧ e = .returned (.int .i64 (dim y m)) := by
  have HY := Lib.hid h
  have hm12 : m = 1 ∨ m = 2 ∨ m = 3 ∨ m = 4 ∨ m = 5 ∨ m = 6 ∨ m = 7 ∨ m = 8 ∨ m = 9 ∨ m = 10 ∨ m = 11 ∨ m = 12 := by omega
  clear h hm
  rcases hm12 with rfl | rfl | rfl | rfl | rfl | rfl | rfl | rfl | rfl | rfl | rfl | rfl
  case inr.inl =>
    cases hl : leapB y with
    | true =>
      rw [show dim y 2 = 29 by rw [dim_two, if_pos hl]]
      have HL := Lib.hid hl; clear hl
      go_enter Tryz.func206, Tryz.ntmps206
      go_wp2_with (go_at_call 232; refine (rlong_c _ _ HY.out).mono ?_; rw [HL.out]; rintro e w1 ⟨rfl, rfl⟩)
      go_ret
      exact ⟨rfl, rfl⟩
    | false =>
      rw [show dim y 2 = 28 by rw [dim_two, if_neg (by rw [hl]; simp)]]
      have HL := Lib.hid hl; clear hl
      go_enter Tryz.func206, Tryz.ntmps206
      go_wp2_with (go_at_call 232; refine (rlong_c _ _ HY.out).mono ?_; rw [HL.out]; rintro e w1 ⟨rfl, rfl⟩)
      go_ret
      exact ⟨rfl, rfl⟩
  all_goals
    go_enter Tryz.func206, Tryz.ntmps206
    go_wp2
    go_ret
    exact ⟨rfl, rfl⟩
theorem rbefore_c (y : Int) (w : World) (h : 1 ≤ y ∧ y ≤ 10000) : Calls Tryz.prog 204 #[.int .i64 y] w fun e w' => w = w' ∧ e = .returned (.int .i64 (bef y)) := by
  obtain ⟨h1, h2⟩ := h
  go_enter Tryz.func204, Tryz.ntmps204
  go_wp2
  go_ret
  exact ⟨rfl, rfl⟩
theorem rbefore_0 (w : World) : Calls Tryz.prog 204 #[.int .i64 0] w fun e w' => w = w' ∧ e = .returned (.int .i64 (-365)) := by
  go_enter Tryz.func204, Tryz.ntmps204
  go_wp2
  go_ret
  exact ⟨rfl, rfl⟩

set_option maxHeartbeats 1000000 in
theorem rdayof_c (y m d : Int) (w : World) (h1 : 1 ≤ y ∧ y ≤ 9999) (h2 : 1 ≤ m ∧ m ≤ 12) (h3 : 1 ≤ d ∧ d ≤ 31) :
    Calls Tryz.prog 207 #[.int .i64 y, .int .i64 m, .int .i64 d] w fun e w' => w = w' ∧ e = .returned (.int .i64 (num y m d)) := by
  obtain ⟨K, hK, rfl⟩ : ∃ K : Nat, K ≤ 11 ∧ m = (K : Int) + 1 := ⟨(m - 1).toNat, by omega, by omega⟩
  have HN := Lib.hid (num_cum (y := y) (d := d) (k := K))
  have HB := bef_bd (y := y) (by omega) (by omega)
  go_enter Tryz.func207, Tryz.ntmps207
  go_wp2_with fail
  refine (rbefore_c _ _ (by omega)).mono ?_
  rintro e w2 ⟨rfl, rfl⟩
  go_wp2
  go_loop [7, 8] (fun s i => ∃ k : Nat, k ≤ K ∧ i = .int .i64 ((k : Int) + 1) ∧ s = .int .i64 (bef y + d + cum y k)) (fun _ i => (K + 1 - (intOf i).toNat))
  case atStart => exact ⟨0, Nat.zero_le _, by go_num, ival (by rw [cum]; omega)⟩
  case round =>
    obtain ⟨k, hk, rfl, rfl⟩ := hrel
    have hcb := cum_bd12 y (k := k) (by omega)
    rcases Nat.lt_or_ge k K with hlt | hge
    · have hs := cum_bd12 y (k := k + 1) (by omega)
      have hS := Lib.hid (show cum y (k + 1) = cum y k + dim y ((k : Int) + 1) from rfl)
      have hdk := dim_bd y ((k : Int) + 1)
      have hlt' : (k : Int) + 1 < (K : Int) + 1 := by omega
      go_wp2_with fail
      refine (rdaysof_c _ _ _ (by omega) (by omega)).mono ?_
      rintro e w2 ⟨rfl, rfl⟩
      go_wp2
      go_round
      case rel => exact ⟨k + 1, by omega, ival (by omega), ival (by rw [hS.out]; omega)⟩
      case measure => simp [intOf]; omega
    · obtain rfl : k = K := by omega
      have hlt' : ¬ (k : Int) + 1 < (k : Int) + 1 := by omega
      go_wp2
      go_ret
      exact ⟨rfl, retI (by rw [HN.out]; omega)⟩

set_option maxHeartbeats 1000000 in
theorem rDayOf_c (y m d : Int) (w : World) (hy : -9223372036854775808 ≤ y ∧ y ≤ 9223372036854775807) :
    Calls Tryz.prog 163 #[.int .i64 y, .int .i64 m, .int .i64 d] w (RetNF (dayR y m d) (if dateB y m d = true then 0 else 1) w) := by
  by_cases h1 : 1 ≤ y ∧ y ≤ 9999
  case neg =>
    have hb : dateB y m d = false := dateB_not (fun h => h1 h.1)
    rw [dayR_no hb, hb]
    have e := Lib.hid (decide_eq_false h1)
    clear hb h1
    go_enter Tryz.func163, Tryz.ntmps163
    go_wp2_with (go_at_call 160; refine (within_c _ _ _ _).mono ?_; rw [e.out]; rintro e w1 ⟨rfl, rfl⟩)
    go_ret2
    exact ⟨rfl, Below.refl _ _⟩
  have E1 := Lib.hid (decide_eq_true h1)
  by_cases h2 : 1 ≤ m ∧ m ≤ 12
  case neg =>
    have hb : dateB y m d = false := dateB_not (fun h => h2 h.2.1)
    rw [dayR_no hb, hb]
    have E2 := Lib.hid (decide_eq_false h2)
    clear hb h2
    go_enter Tryz.func163, Tryz.ntmps163
    go_wp2_with fail
    refine (within_c _ _ _ _).mono ?_
    rw [E1.out]
    rintro e w1 ⟨rfl, rfl⟩
    go_wp2_with fail
    refine (within_c _ _ _ _).mono ?_
    rw [E2.out]
    rintro e w1 ⟨rfl, rfl⟩
    go_wp2
    go_ret2
    exact ⟨rfl, Below.refl _ _⟩
  have E2 := Lib.hid (decide_eq_true h2)
  have hd31 := dim_bd y m
  by_cases h3 : 1 ≤ d ∧ d ≤ dim y m
  case neg =>
    have hb : dateB y m d = false := dateB_not (fun h => h3 h.2.2)
    rw [dayR_no hb, hb]
    have E3 := Lib.hid (decide_eq_false h3)
    clear hb h3
    go_enter Tryz.func163, Tryz.ntmps163
    go_wp2_with fail
    refine (within_c _ _ _ _).mono ?_
    rw [E1.out]
    rintro e w1 ⟨rfl, rfl⟩
    go_wp2_with fail
    refine (within_c _ _ _ _).mono ?_
    rw [E2.out]
    rintro e w1 ⟨rfl, rfl⟩
    go_wp2_with fail
    refine (rdaysof_c _ _ _ (by omega) h2).mono ?_
    rintro e w1 ⟨rfl, rfl⟩
    go_wp2_with fail
    refine (within_c _ _ _ _).mono ?_
    rw [E3.out]
    rintro e w1 ⟨rfl, rfl⟩
    go_wp2
    go_ret2
    exact ⟨rfl, Below.refl _ _⟩
  have E3 := Lib.hid (decide_eq_true h3)
  have hb : dateB y m d = true := dateB_mk ⟨h1, h2, h3⟩
  rw [dayR_yes hb, hb]
  clear hb
  go_enter Tryz.func163, Tryz.ntmps163
  go_wp2_with fail
  refine (within_c _ _ _ _).mono ?_
  rw [E1.out]
  rintro e w1 ⟨rfl, rfl⟩
  go_wp2_with fail
  refine (within_c _ _ _ _).mono ?_
  rw [E2.out]
  rintro e w1 ⟨rfl, rfl⟩
  go_wp2_with fail
  refine (rdaysof_c _ _ _ (by omega) h2).mono ?_
  rintro e w1 ⟨rfl, rfl⟩
  go_wp2_with fail
  refine (within_c _ _ _ _).mono ?_
  rw [E3.out]
  rintro e w1 ⟨rfl, rfl⟩
  go_wp2_with fail
  refine (rdayof_c _ _ _ _ h1 h2 (by omega)).mono ?_
  rintro e w1 ⟨rfl, rfl⟩
  go_wp2
  go_ret2
  exact ⟨rfl, Below.refl _ _⟩

set_option maxHeartbeats 1000000 in
set_option maxRecDepth 100000 in
theorem rdateof_c (day y m d : Int) (w : World) (h1 : 1 ≤ day) (h2 : day ≤ 3652059) (h : DateIs day y m d) :
    Calls Tryz.prog 208 #[.int .i64 day] w fun e w' => w = w' ∧ e = .returned (.tuple #[.int .i64 y, .int .i64 m, .int .i64 d]) := by
  have HD := Lib.hid h
  obtain ⟨⟨y1, y2⟩, ⟨m1, m2⟩, ⟨d1, d2⟩, d3, b1, b2⟩ := h.facts
  have hn := h.2
  have hg := h.year_le (bef_guess h1)
  obtain ⟨K, hK, rfl⟩ : ∃ K : Nat, K ≤ 11 ∧ m = (K : Int) + 1 := ⟨(m - 1).toNat, by omega, by omega⟩
  rw [num_cum] at hn
  have HN := Lib.hid hn
  have HB := bef_bd (y := y) (by omega) (by omega)
  have hK12 := cum_bd12 y (k := K) (by omega)
  clear h hn
  go_enter Tryz.func208, Tryz.ntmps208
  go_wp2
  go_loop [2] (fun s => ∃ v : Int, 1 ≤ v ∧ v ≤ y ∧ s = .int .i64 v) (fun s => (y - intOf s).toNat)
  case atStart => exact ⟨day / 366 + 1, by omega, hg, rfl⟩
  case round =>
    obtain ⟨v, v1, v2, rfl⟩ := hrel
    rcases Int.lt_or_le v y with hlt | hge
    · have hm := bef_mono (a := v + 1) (b := y) (by omega)
      have hb3 : bef (v + 1) < day := by omega
      clear hm
      go_wp2_with fail
      refine (rbefore_c _ _ (by omega)).mono ?_
      rintro e w2 ⟨rfl, rfl⟩
      go_wp2
      go_round
      case rel => exact ⟨v + 1, by omega, by omega, rfl⟩
      case measure => simp [intOf]; omega
    · obtain rfl : v = y := by omega
      have hb3 : ¬ bef (v + 1) < day := by omega
      have hc := cum_bd12 v (k := 0) (by omega)
      go_wp2_with fail
      refine (rbefore_c _ _ (by omega)).mono ?_
      rintro e w2 ⟨rfl, rfl⟩
      go_wp2_with fail
      refine (rbefore_c _ _ (by omega)).mono ?_
      rintro e w2 ⟨rfl, rfl⟩
      go_wp2
      go_loop [3, 4] (fun i s => ∃ k : Nat, k ≤ K ∧ i = .int .i64 ((k : Int) + 1) ∧ s = .int .i64 (d + cum v K - cum v k)) (fun i _ => (K + 1 - (intOf i).toNat))
      case atStart => exact ⟨0, Nat.zero_le _, by go_num, ival (by have := HN.out; have : cum v 0 = 0 := rfl; omega)⟩
      case round =>
        obtain ⟨k, hk, rfl, rfl⟩ := hrel
        have hcb := cum_bd12 v (k := k) (by omega)
        have hdk := dim_bd v ((k : Int) + 1)
        rcases Nat.lt_or_ge k K with hlt | hge
        · have hs := cum_le v (i := k + 1) (j := K) (by omega)
          rw [cum] at hs
          have hS := Lib.hid (show cum v (k + 1) = cum v k + dim v ((k : Int) + 1) from rfl)
          have ht : dim v ((k : Int) + 1) < d + cum v K - cum v k := by omega
          have ht2 : dim v ((k : Int) + 1) + cum v k < d + cum v K := by omega
          go_wp2_with fail
          refine (rdaysof_c _ _ _ (by omega) (by omega)).mono ?_
          rintro e w2 ⟨rfl, rfl⟩
          go_wp2_with fail
          refine (rdaysof_c _ _ _ (by omega) (by omega)).mono ?_
          rintro e w3 ⟨rfl, rfl⟩
          go_wp2
          go_round
          case rel => exact ⟨k + 1, by omega, ival (by omega), ival (by rw [hS.out]; omega)⟩
          case measure => simp [intOf]; omega
        · obtain rfl : k = K := by omega
          have ht : ¬ dim v ((k : Int) + 1) < d + cum v k - cum v k := by omega
          go_wp2_with fail
          refine (rdaysof_c _ _ _ (by omega) (by omega)).mono ?_
          rintro e w2 ⟨rfl, rfl⟩
          go_wp2
          refine bodyPost_ret (v := .tuple #[.int .i64 v, .int .i64 ((k : Int) + 1), .int .i64 d]) (by simp [results, Tryz.results208, go_sem]; try omega) rfl ⟨rfl, rfl⟩

set_option maxHeartbeats 1000000 in
theorem rweekof_c (day y m d : Int) (w : World) (h1 : 1 ≤ day) (h2 : day ≤ 3652059) (h : DateIs (thu day) y m d) :
    Calls Tryz.prog 205 #[.int .i64 day] w fun e w' => w = w' ∧ e = .returned (.tuple #[.int .i64 y, .int .i64 (wk day y), .int .i64 ((day - 1) % 7 + 1)]) := by
  have ht := thu_bd h1 h2
  obtain ⟨⟨y1, y2⟩, -, -, -, b1, b2⟩ := h.facts
  have HD := Lib.hid h; clear h
  have hw := wk_bd b1 b2
  have HB := bef_bd (y := y) (by omega) (by omega)
  have hm : 0 ≤ (day - 1) % 7 ∧ (day - 1) % 7 ≤ 6 := by omega
  have E0 := Lib.hid (show day - ((day - 1) % 7 + 1) + 4 = thu day by unfold thu; omega)
  have E7 := Lib.hid (show (thu day - bef y - 1) / 7 + 1 = wk day y from rfl)
  go_enter Tryz.func205, Tryz.ntmps205
  go_wp2_with fail
  rw [E0.out]
  refine (rdateof_c (thu day) y m d _ ht.1 ht.2 HD.out).mono ?_
  rintro e w1 ⟨rfl, rfl⟩
  go_wp2_with fail
  refine (rbefore_c _ _ (by omega)).mono ?_
  rintro e w2 ⟨rfl, rfl⟩
  go_wp2
  refine bodyPost_ret (v := .tuple #[.int .i64 y, .int .i64 (wk day y), .int .i64 ((day - 1) % 7 + 1)]) (by simp [results, Tryz.results205, go_sem]; try (rw [E7.out])) rfl ⟨rfl, rfl⟩
end Go.Proofs.YtklblmbacnnoeaaGreatDoor

namespace Go.Proofs.YtklblmbacnnoeaaGreatDoor
open Go.RowKit Limb Nmb
set_option linter.unusedVariables false
set_option linter.unusedSimpArgs false

theorem inL_all {l : List UInt8} {a b : Int} : inL l a b = l.all (fun c => decide (a ≤ (c.toNat : Int) ∧ (c.toNat : Int) ≤ b)) := by
  rw [Bool.eq_iff_iff, List.all_eq_true]
  constructor
  · intro h c hc
    obtain ⟨i, hi, rfl⟩ := List.getElem_of_mem hc
    have := inL_yes h hi
    rw [byA_get hi] at this
    exact decide_eq_true this
  · intro h
    refine inL_mk (fun i hi => ?_)
    have := of_decide_eq_true (h l[i] (List.getElem_mem hi))
    rw [byA_get hi]
    exact this
theorem all_at {s : ByteArray} {p : UInt8 → Bool} (h : ∀ i, (hi : i < s.size) → p s[i] = true) : s.data.toList.all p = true := by
  rw [List.all_eq_true]
  intro c hc
  obtain ⟨i, hi, rfl⟩ := List.getElem_of_mem hc
  exact h i (by simpa using hi)
theorem all_not {s : ByteArray} {p : UInt8 → Bool} {i : Nat} (hi : i < s.size) (h : p s[i] = false) : s.data.toList.all p = false := by
  rw [Bool.eq_false_iff]
  intro h2
  have := List.all_eq_true.1 h2 s[i] (by have := List.getElem_mem (l := s.data.toList) (n := i) (by simpa using hi); exact this)
  rw [h] at this; cases this
def diC (c : UInt8) : Bool := decide ((48 : Int) ≤ (c.toNat : Int) ∧ (c.toNat : Int) ≤ 57)
def diS (s : ByteArray) (j : Nat) : Prop := ∀ i, i < j → (hi : i < s.size) → diC s[i] = true
theorem next_all {s : ByteArray} {p : UInt8 → Bool} {j : Nat} (h : ∀ i, i < j → (hi : i < s.size) → p s[i] = true) (hj : j < s.size) (hp : p s[j] = true) : ∀ i, i < j + 1 → (hi : i < s.size) → p s[i] = true := by
  intro i hi h2
  rcases Nat.lt_or_ge i j with h3 | h3
  · exact h i h3 h2
  · obtain rfl : i = j := by omega
    exact hp
set_option maxHeartbeats 1000000 in
set_option maxRecDepth 100000 in
theorem rdigs_c (s : ByteArray) (w : World) (hs : s.size ≤ 9223372036854775807) :
    Calls Tryz.prog 79 #[.string s] w fun e w' => w = w' ∧ e = .returned (.bool (digs s.data.toList)) := by
  have hlen := szL s
  have hem : s.toList.isEmpty = s.data.toList.isEmpty := by rw [Lib.toList_data]
  have e0 : digs s.data.toList = (inL s.data.toList 48 57 && !s.data.toList.isEmpty) := rfl
  rw [e0, ← hem]
  cases he : s.toList.isEmpty with
  | true =>
    rw [Bool.not_true, Bool.and_false]
    clear hlen hem e0
    go_enter Tryz.func79, Tryz.ntmps79
    go_wp2
    go_ret
    exact ⟨rfl, rfl⟩
  | false =>
  rw [Bool.not_false, Bool.and_true]
  obtain ⟨X, hX⟩ : ∃ X, inL s.data.toList 48 57 = X := ⟨_, rfl⟩
  have HX := Lib.hid (hX.symm.trans inL_all)
  rw [hX]
  clear hlen hem e0 hX
  go_enter Tryz.func79, Tryz.ntmps79
  go_wp2
  go_loop [8] (fun i => ∃ j : Nat, j ≤ s.size ∧ i = .int .i64 j ∧ diS s j) (fun i => s.size - (intOf i).toNat)
  case atStart => exact ⟨0, Nat.zero_le _, rfl, fun i hi => by omega⟩
  case round =>
    obtain ⟨j, hj, rfl, hall⟩ := hrel
    rcases Nat.lt_or_ge j s.size with hjn | hjn
    · by_cases h1 : (s[j].toNat : Int) < 48
      · have hr := all_not (p := diC) hjn (decide_eq_false (by omega))
        unfold diC at hr
        have hr := Lib.hid (HX.out.trans hr)
        clear hall
        go_wp2
        go_ret
        exact ⟨rfl, retB hr.out.symm⟩
      by_cases h2 : (57 : Int) < (s[j].toNat : Int)
      · have hr := all_not (p := diC) hjn (decide_eq_false (by omega))
        unfold diC at hr
        have hr := Lib.hid (HX.out.trans hr)
        clear hall
        go_wp2
        go_ret
        exact ⟨rfl, retB hr.out.symm⟩
      · have hn := Lib.hid (next_all hall hjn (decide_eq_true (by omega)))
        clear hall
        go_wp2
        go_round
        case rel => exact ⟨j + 1, by omega, by go_num, hn.out⟩
        case measure => simp [intOf]; omega
    · have hr := all_at (s := s) (p := diC) (fun i hi => hall i (by omega) hi)
      unfold diC at hr
      have hr := Lib.hid (HX.out.trans hr)
      clear hall
      go_wp2
      go_ret
      exact ⟨rfl, retB hr.out.symm⟩
end Go.Proofs.YtklblmbacnnoeaaGreatDoor

namespace Go.Proofs.YtklblmbacnnoeaaGreatDoor
open Go.RowKit Limb Work Nmb
set_option linter.unusedVariables false
set_option linter.unusedSimpArgs false

theorem dv_mono_take {l : List UInt8} : ∀ {j k : Nat}, k ≤ j → j ≤ l.length → dv (l.take k) ≤ dv (l.take j) := by
  intro j
  induction j with
  | zero =>
    intro k h _
    obtain rfl : k = 0 := by omega
    exact Nat.le_refl _
  | succ j ih =>
    intro k h hj
    rcases Nat.lt_or_ge j k with h1 | h1
    · obtain rfl : k = j + 1 := by omega
      exact Nat.le_refl _
    · have := ih h1 (by omega)
      rw [dv_take (by omega)]
      omega
def maxU (n : Nat) : Bool := decide (n ≤ 1000000000000000)
def RetOd (l : List UInt8) (w : World) (e : Ending) (w' : World) : Prop := w = w' ∧ e = .returned (.tuple #[.int .i64 (if maxU (dv l) = true then (dv l : Int) else 0), .bool (maxU (dv l))])
set_option maxHeartbeats 1000000 in
set_option maxRecDepth 100000 in
theorem ofdigits_c (s : ByteArray) (w : World) (hs : s.size ≤ 9223372036854775807) (hd : ∀ c ∈ s.data.toList, 48 ≤ c.toNat ∧ c.toNat ≤ 57) :
    Calls Tryz.prog 81 #[.string s] w (RetOd s.data.toList w) := by
  have hl := szL s
  have HD := Lib.hid (show ∀ k, (h : k < s.size) → 48 ≤ (s[k].toNat : Int) ∧ (s[k].toNat : Int) ≤ 57 from fun k h => by have := hd s[k] (by have := List.getElem_mem (l := s.data.toList) (n := k) (by simpa using h); exact this); omega)
  have HT := Lib.hid (show ∀ k, (h : k < s.size) → (dv (s.data.toList.take (k + 1)) : Int) = 10 * (dv (s.data.toList.take k) : Int) + ((s[k].toNat : Int) - 48) from fun k h => by
    have e := dv_take (l := s.data.toList) (k := k) (by omega)
    have h2 := hd s[k] (by have := List.getElem_mem (l := s.data.toList) (n := k) (by simpa using h); exact this)
    rw [e]
    show ((10 * dv (s.data.toList.take k) + (s[k].toNat - 48) : Nat) : Int) = _
    omega)
  have HE := Lib.hid (show s.data.toList.take s.size = s.data.toList by rw [← hl, List.take_length])
  have HM := Lib.hid (fun k (h : k ≤ s.size) => dv_mono_take (l := s.data.toList) (j := s.size) (k := k) h (by omega))
  clear hd hl
  go_enter Tryz.func81, Tryz.ntmps81
  go_wp2
  go_loop [4, 8] (fun x i => ∃ k n : Nat, k ≤ s.size ∧ i = .int .i64 k ∧ x = .int .i64 n ∧ n ≤ 1000000000000000 ∧ Hid (dv (s.data.toList.take k) = n)) (fun _ i => s.size - (intOf i).toNat)
  case atStart => exact ⟨0, 0, Nat.zero_le _, rfl, rfl, by omega, Lib.hid rfl⟩
  case round =>
    obtain ⟨k, n, hk, rfl, rfl, hn, HN⟩ := hrel
    rcases Nat.lt_or_ge k s.size with hlt | hge
    · obtain ⟨d1, d2⟩ := HD.out k hlt
      have hT := HT.out k hlt
      rw [HN.out] at hT
      obtain ⟨m, hm⟩ : ∃ m, dv (s.data.toList.take (k + 1)) = m := ⟨_, rfl⟩
      rw [hm] at hT
      have HT2 := Lib.hid hT
      have HM2 := Lib.hid hm
      have hb1 : 0 ≤ (s[k].toNat : Int) - 48 ∧ (s[k].toNat : Int) - 48 ≤ 9 := by omega
      by_cases hbig : 1000000000000000 < 10 * (n : Int) + ((s[k].toNat : Int) - 48)
      · have hno := Lib.hid (show maxU (dv s.data.toList) = false by
          have := HM.out (k + 1) (by omega)
          rw [HE.out, hm] at this
          exact decide_eq_false (by omega))
        clear hT hm hb1
        go_wp2
        go_ret2
        refine ⟨rfl, ?_⟩
        rw [hno.out]; rfl
      · clear hT hm hb1
        go_wp2
        go_round
        case rel => exact ⟨k + 1, m, by omega, by go_num, by rw [HT2.out], by have := HT2.out; omega, HM2⟩
        case measure => simp [intOf]; omega
    · obtain rfl : k = s.size := by omega
      have hyes := Lib.hid (show maxU (dv s.data.toList) = true ∧ (dv s.data.toList : Int) = n by
        have h1 := HN.out
        rw [HE.out] at h1
        rw [h1]
        exact ⟨decide_eq_true hn, rfl⟩)
      go_wp2
      go_ret2
      refine ⟨rfl, ?_⟩
      rw [hyes.out.1, hyes.out.2]; rfl
theorem rnumber_c (s : ByteArray) (w : World) (hs : s.size ≤ 10) : Calls Tryz.prog 161 #[.string s] w fun e w' => e = .returned (.int .i64 (numF s.data.toList)) ∧ w' = w := by
  have HD := Lib.hid (fun w => rdigs_c s w (by omega))
  cases hd : digs s.data.toList with
  | false =>
    rw [numF_no hd]
    rw [hd] at HD
    clear hd
    go_enter Tryz.func161, Tryz.ntmps161
    go_wp2_with fail
    refine (HD.out _).mono ?_
    rintro e w1 ⟨rfl, rfl⟩
    go_wp2
    go_ret
    exact ⟨rfl, rfl⟩
  | true =>
    rw [numF_yes hd]
    rw [hd] at HD
    have HO := Lib.hid (fun w => ofdigits_c s w (by omega) (digs_mem hd))
    have hm : maxU (dv s.data.toList) = true := decide_eq_true (by
      have := dv_lt hd
      have h2 : 10 ^ s.data.toList.length ≤ 10 ^ 10 := Nat.pow_le_pow_right (by decide) (by rw [szL]; exact hs)
      omega)
    unfold RetOd at HO
    rw [hm, if_pos rfl] at HO
    clear hd hm
    go_enter Tryz.func161, Tryz.ntmps161
    go_wp2_with fail
    refine (HD.out _).mono ?_
    rintro e w1 ⟨rfl, rfl⟩
    go_wp2_with fail
    refine (HO.out _).mono ?_
    rintro e w1 ⟨rfl, rfl⟩
    go_wp2
    go_ret
    exact ⟨rfl, rfl⟩

/-! ### A week -/
theorem week_hit {day z y k d : Int} (b1 : bef z < thu day) (b2 : thu day ≤ bef (z + 1)) (hy : 1 ≤ y ∧ y ≤ 9999) (hd : 1 ≤ day ∧ day ≤ 3652059) (e1 : z = y) (e2 : wk day z = k) (e3 : (day - 1) % 7 + 1 = d) : weekO y k d = some day := by
  subst e1
  rw [weekO_yes (weekB_of hy hd b1 b2 e2 e3), week_day b1 e2 e3]
/-- No day of these is it. -/
def missW (y k d lo hi : Int) : Prop := ∀ e, lo ≤ e → e < hi → weekB y k d = true → weekN y k d ≠ e
theorem missW.next {y k d lo hi : Int} (h : missW y k d lo hi) (h2 : weekB y k d = true → weekN y k d ≠ hi) : missW y k d lo (hi + 1) := by
  intro e a b c
  rcases Int.lt_or_le e hi with h3 | h3
  · exact h e a h3 c
  · obtain rfl : e = hi := by omega
    exact h2 c
theorem week_miss {day z y k d : Int} (b1 : bef z < thu day) (b2 : thu day ≤ bef (z + 1)) (h : ¬ (z = y ∧ wk day z = k ∧ (day - 1) % 7 + 1 = d)) : weekB y k d = true → weekN y k d ≠ day := by
  intro hb e
  obtain ⟨-, -, -, g1, g2, g3⟩ := of_decide_eq_true hb
  have hw := week_in hb
  rw [e] at g1 g2 g3 hw
  obtain rfl := year_unique b1 b2 g1 g2
  exact h ⟨rfl, g3, hw.2.2.1⟩
def RetW (o : Option Int) (w : World) (e : Ending) (w' : World) : Prop := e = .returned (.tuple #[.int .i64 (o.getD 0), .int .i64 (if o.isSome = true then 0 else 10)]) ∧ Below w.heap.size w w'
theorem retW_none {o : Option Int} {w w' : World} (ho : o = none) (hb : Below w.heap.size w w') : RetW o w (.returned (.tuple #[.int .i64 0, .int .i64 10])) w' := by subst ho; exact ⟨rfl, hb⟩
theorem retW_some {o : Option Int} {n : Int} {w w' : World} (ho : o = some n) (hb : Below w.heap.size w w') : RetW o w (.returned (.tuple #[.int .i64 n, .int .i64 0])) w' := by subst ho; exact ⟨rfl, hb⟩

theorem numF_lo (l : List UInt8) : -1 ≤ numF l := by unfold numF; split <;> omega
theorem numF_hi {l : List UInt8} {k N : Nat} (h : l.length ≤ k) (hN : 10 ^ k ≤ N) (h0 : 0 < N) : numF l < N := by
  cases hd : digs l with
  | false => rw [numF_no hd]; omega
  | true =>
    rw [numF_yes hd]
    have := dv_lt hd
    have h2 : 10 ^ l.length ≤ 10 ^ k := Nat.pow_le_pow_right (by decide) h
    omega
set_option maxHeartbeats 2000000 in
set_option maxRecDepth 100000 in
theorem readweek_c (s : ByteArray) (w : World) (hs : s.size = 7) :
    Calls Tryz.prog 162 #[.string s] w (RetW (weekO (numF (s.data.toList.take 4)) (numF ((s.data.toList.drop 4).take 2)) (numF (s.data.toList.drop 6))) w) := by
  obtain ⟨A, hA⟩ : ∃ A, s.extract 0 4 = A := ⟨_, rfl⟩
  obtain ⟨B, hB⟩ : ∃ B, s.extract 4 6 = B := ⟨_, rfl⟩
  obtain ⟨C, hC⟩ : ∃ C, s.extract 6 s.size = C := ⟨_, rfl⟩
  have HA := Lib.hid (fun w => rnumber_c A w (by rw [← hA, ByteArray.size_extract]; omega))
  have HB := Lib.hid (fun w => rnumber_c B w (by rw [← hB, ByteArray.size_extract]; omega))
  have HC := Lib.hid (fun w => rnumber_c C w (by rw [← hC, ByteArray.size_extract]; omega))
  obtain ⟨X, hX⟩ : ∃ X, numF A.data.toList = X := ⟨_, rfl⟩
  obtain ⟨Y, hY⟩ : ∃ Y, numF B.data.toList = Y := ⟨_, rfl⟩
  obtain ⟨Z, hZ⟩ : ∃ Z, numF C.data.toList = Z := ⟨_, rfl⟩
  rw [hX] at HA
  rw [hY] at HB
  rw [hZ] at HC
  have e1 : s.data.toList.take 4 = A.data.toList := by rw [← hA, ext_to]
  have e2 : (s.data.toList.drop 4).take 2 = B.data.toList := by rw [← hB, ext_mid]
  have e3 : s.data.toList.drop 6 = C.data.toList := by rw [← hC, ext_from]
  rw [e1, e2, e3, hX, hY, hZ]
  have x1 := numF_lo A.data.toList
  have x2 := numF_hi (l := A.data.toList) (k := 4) (N := 10000) (by rw [szL, ← hA, ByteArray.size_extract]; omega) (by decide) (by decide)
  have y1 := numF_lo B.data.toList
  have y2 := numF_hi (l := B.data.toList) (k := 2) (N := 100) (by rw [szL, ← hB, ByteArray.size_extract]; omega) (by decide) (by decide)
  have z1 := numF_lo C.data.toList
  have z2 := numF_hi (l := C.data.toList) (k := 1) (N := 10) (by rw [szL, ← hC, ByteArray.size_extract]; omega) (by decide) (by decide)
  rw [hX] at x1 x2
  rw [hY] at y1 y2
  rw [hZ] at z1 z2
  have q4 : (4 : Int) ≤ (s.size : Int) := by omega
  have q6 : (6 : Int) ≤ (s.size : Int) := by omega
  clear hX hY hZ e1 e2 e3
  have HS := Lib.hid hs
  clear hs
  by_cases hbad : X < 0 ∨ Y < 1 ∨ Z < 1 ∨ 7 < Z
  · have HO := Lib.hid (weekO_no (weekB_neg (y := X) (w := Y) (d := Z) (by omega)))
    have hb2 : X < 0 ∨ (¬ X < 0 ∧ Y < 1) ∨ (¬ X < 0 ∧ ¬ Y < 1 ∧ Z < 1) ∨ (¬ X < 0 ∧ ¬ Y < 1 ∧ ¬ Z < 1 ∧ 7 < Z) := by omega
    clear hbad
    have h9 : ¬ 9999 < X := by omega
    rcases hb2 with h | ⟨h, h2⟩ | ⟨h, h2, h3⟩ | ⟨h, h2, h3, h4⟩
    all_goals (
      go_enter Tryz.func162, Tryz.ntmps162
      go_wp2_with fail
      go_quiet (first | (go_at_call_of 161 (Value.string A); exact Calls.quiet_of_same (HA.out _)) | (go_at_call_of 161 (Value.string B); exact Calls.quiet_of_same (HB.out _)) | (go_at_call_of 161 (Value.string C); exact Calls.quiet_of_same (HC.out _)))
      go_wp2
      go_ret2
      exact retW_none HO.out (below_drewN (Below.refl _ _) _))
  have h0 : ¬ X < 0 := by omega
  have h2 : ¬ Y < 1 := by omega
  have h3 : ¬ Z < 1 := by omega
  have h4 : ¬ 7 < Z := by omega
  have h9 : ¬ 9999 < X := by omega
  clear hbad
  by_cases hx0 : X = 0
  · subst hx0
    have HO := Lib.hid (weekO_no (weekB_neg (y := 0) (w := Y) (d := Z) (by omega)))
    go_enter Tryz.func162, Tryz.ntmps162
    go_wp2_with fail
    go_quiet (first | (go_at_call_of 161 (Value.string A); exact Calls.quiet_of_same (HA.out _)) | (go_at_call_of 161 (Value.string B); exact Calls.quiet_of_same (HB.out _)) | (go_at_call_of 161 (Value.string C); exact Calls.quiet_of_same (HC.out _)))
    go_wp2_with fail
    refine (rbefore_0 _).mono ?_
    rintro e w1 ⟨rfl, rfl⟩
    go_wp2
    go_ret2
    exact retW_none HO.out (below_drewN (Below.refl _ _) _)
  have ex0 : (X == 0) = false := beq_eq_false_iff_ne.2 hx0
  have hxx : 1 ≤ X := by omega
  have HXX := Lib.hid (show 1 ≤ X ∧ X ≤ 9999 by omega)
  have hB := bef_bd (y := X) (by omega) (by omega)
  obtain ⟨F, hF⟩ : ∃ F, bef X = F := ⟨_, rfl⟩
  have HF := Lib.hid hF
  rw [hF] at hB
  obtain ⟨f0, f1⟩ := hB
  obtain ⟨O, hO⟩ : ∃ O, weekO X Y Z = O := ⟨_, rfl⟩
  have HO := Lib.hid hO
  obtain ⟨lo, hlo⟩ : ∃ lo, max (1 : Int) (F + 1 - 7) = lo := ⟨_, rfl⟩
  obtain ⟨hi, hhi⟩ : ∃ hi, min (3652059 : Int) (F + 1 + 380) = hi := ⟨_, rfl⟩
  have l1 : 1 ≤ lo ∧ lo ≤ 3652060 := by omega
  have i1 : hi ≤ 3652059 := by omega
  have HLO := Lib.hid hlo; have HHI := Lib.hid hhi
  have HIN := Lib.hid (show weekB X Y Z = true → lo ≤ weekN X Y Z ∧ weekN X Y Z ≤ hi from fun h => by
    have a := week_in h
    have b := of_decide_eq_true h
    have c := b.2.2.1
    rw [hF] at a
    omega)
  rw [hO]
  have d1 : decide (X < 0) = false := decide_eq_false h0
  have d2 : decide (9999 < X) = false := decide_eq_false h9
  have d3 : decide (Y < 1) = false := decide_eq_false h2
  have d4 : decide (Z < 1) = false := decide_eq_false h3
  have d5 : decide (7 < Z) = false := decide_eq_false h4
  clear hF hO hlo hhi hx0 h0 h9 h2 h3 h4
  go_enter Tryz.func162, Tryz.ntmps162
  go_wp2_with fail
  go_quiet (first | (go_at_call_of 161 (Value.string A); exact Calls.quiet_of_same (HA.out _)) | (go_at_call_of 161 (Value.string B); exact Calls.quiet_of_same (HB.out _)) | (go_at_call_of 161 (Value.string C); exact Calls.quiet_of_same (HC.out _)))
  go_wp2_with fail
  refine (rbefore_c _ _ (by have := HXX.out; omega)).mono ?_
  rw [HF.out]
  rintro e w1 ⟨rfl, rfl⟩
  go_wp2_with fail
  rw [HLO.out]
  have hll : lo ≤ hi + 1 := by have := HLO.out; have := HHI.out; omega
  clear d1 d2 d3 d4 d5
  go_loop [8] (fun x => ∃ d : Int, lo ≤ d ∧ d ≤ hi + 1 ∧ x = .int .i64 d ∧ missW X Y Z lo d) (fun x => (hi + 1 - intOf x).toNat)
  case atStart => exact ⟨lo, Int.le_refl _, hll, rfl, fun e a b => by omega⟩
  case round =>
    obtain ⟨d, hd1, hd2, rfl, hmiss⟩ := hrel
    have HMS := Lib.hid hmiss
    have hh := HHI.out
    clear hmiss
    by_cases hle : d ≤ hi
    · have r1 : 1 ≤ d := by omega
      have r2 : d ≤ 3652059 := by omega
      obtain ⟨z, zm, zd, hz⟩ := thu_ex r1 r2
      obtain ⟨⟨zz1, zz2⟩, -, -, -, b1, b2⟩ := hz.facts
      have HZ := Lib.hid hz
      have HHIT := Lib.hid (fun e1 e2 e3 => week_hit (k := Y) (d := Z) b1 b2 HXX.out ⟨r1, r2⟩ e1 e2 e3)
      have HMIS := Lib.hid (fun e => HMS.out.next (week_miss (y := X) (k := Y) (d := Z) b1 b2 e))
      have HWK := Lib.hid (fun w => rweekof_c d z zm zd w r1 r2 HZ.out)
      obtain ⟨V, hV⟩ : ∃ V, wk d z = V := ⟨_, rfl⟩
      rw [hV] at HWK HHIT HMIS
      have m1 : 0 ≤ (d - 1) % 7 := by omega
      have m2 : (d - 1) % 7 ≤ 6 := by omega
      have m3 : 1 ≤ d - ((d - 1) % 7 + 1) + 4 := by omega
      have m4 : d - ((d - 1) % 7 + 1) + 4 ≤ 3652059 := by have := thu_bd r1 r2; unfold thu at this; omega
      clear hz hV b1 b2
      cases e1 : (z == X) with
      | false =>
        have HN := Lib.hid (HMIS.out (fun h => by rw [h.1] at e1; simp at e1))
        go_wp2_with fail
        refine (HWK.out _).mono ?_
        rintro e w1 ⟨rfl, rfl⟩
        go_wp2
        go_round
        case rel => exact ⟨d + 1, by omega, by omega, rfl, HN.out⟩
        case measure => simp [intOf]; omega
      | true =>
      cases e2 : (V == Y) with
      | false =>
        have HN := Lib.hid (HMIS.out (fun h => by rw [h.2.1] at e2; simp at e2))
        go_wp2_with fail
        refine (HWK.out _).mono ?_
        rintro e w1 ⟨rfl, rfl⟩
        go_wp2
        go_round
        case rel => exact ⟨d + 1, by omega, by omega, rfl, HN.out⟩
        case measure => simp [intOf]; omega
      | true =>
      cases e3 : ((d - 1) % 7 + 1 == Z) with
      | false =>
        have HN := Lib.hid (HMIS.out (fun h => by rw [h.2.2] at e3; simp at e3))
        go_wp2_with fail
        refine (HWK.out _).mono ?_
        rintro e w1 ⟨rfl, rfl⟩
        go_wp2
        go_round
        case rel => exact ⟨d + 1, by omega, by omega, rfl, HN.out⟩
        case measure => simp [intOf]; omega
      | true =>
        have HH := Lib.hid (HO.out.symm.trans (HHIT.out (beq_iff_eq.1 e1) (beq_iff_eq.1 e2) (beq_iff_eq.1 e3)))
        go_wp2_with fail
        refine (HWK.out _).mono ?_
        rintro e w1 ⟨rfl, rfl⟩
        go_wp2
        go_ret2
        exact retW_some HH.out (below_drewN (Below.refl _ _) _)
    · have HN := Lib.hid (HO.out.symm.trans (weekO_no (by
        cases hb : weekB X Y Z with
        | false => rfl
        | true => have a := HIN.out hb; exact absurd rfl (HMS.out _ a.1 (by omega) hb))))
      go_wp2
      go_ret2
      exact retW_none HN.out (below_drewN (Below.refl _ _) _)

end Go.Proofs.YtklblmbacnnoeaaGreatDoor
