
/- The walks of days and dates: the reference's. -/
import Derived.Test.YtegobkaldedhhaaGreatDoorE2
namespace Go.Proofs.YtegobkaldedhhaaGreatDoor
open Go.RowKit Limb Work
set_option linter.unusedVariables false
set_option linter.unusedSimpArgs false

theorem rlong_c (y : Int) (w : World) (h : 1 ≤ y ∧ y ≤ 10000) : Calls Tryz.prog 156 #[.int .i64 y] w fun e w' => w = w' ∧ e = .returned (.bool (leapB y)) := by
  obtain ⟨h1, h2⟩ := h
  by_cases a : y % 4 = 0
  · by_cases b : y % 100 = 0
    · by_cases c : y % 400 = 0
      · have e : leapB y = true := decide_eq_true ⟨a, Or.inr c⟩
        rw [e]
        have a := beqT a; have b := beqT b; have c := beqT c; clear e
        go_enter Tryz.func156, Tryz.ntmps156
        go_wp2
        go_ret
        exact ⟨rfl, rfl⟩
      · have e : leapB y = false := decide_eq_false (fun h => h.2.elim (fun h => h b) c)
        rw [e]
        have a := beqT a; have b := beqT b; have c := beqF c; clear e
        go_enter Tryz.func156, Tryz.ntmps156
        go_wp2
        go_ret
        exact ⟨rfl, rfl⟩
    · have e : leapB y = true := decide_eq_true ⟨a, Or.inl b⟩
      rw [e]
      have a := beqT a; have b := beqF b; clear e
      go_enter Tryz.func156, Tryz.ntmps156
      go_wp2
      go_ret
      exact ⟨rfl, rfl⟩
  · have e : leapB y = false := decide_eq_false (fun h => a h.1)
    have c := beqF (show ¬ y % 400 = 0 by omega)
    rw [e]
    have a := beqF a; clear e
    go_enter Tryz.func156, Tryz.ntmps156
    go_wp2
    go_ret
    exact ⟨rfl, rfl⟩
set_option maxRecDepth 100000 in
theorem rdaysof_c (y m : Int) (w : World) (h : 1 ≤ y ∧ y ≤ 10000) (hm : 1 ≤ m ∧ m ≤ 12) : Calls Tryz.prog 131 #[.int .i64 y, .int .i64 m] w fun e w' => w = w' ∧ e = .returned (.int .i64 (dim y m)) := by
  have HY := Lib.hid h
  have hm12 : m = 1 ∨ m = 2 ∨ m = 3 ∨ m = 4 ∨ m = 5 ∨ m = 6 ∨ m = 7 ∨ m = 8 ∨ m = 9 ∨ m = 10 ∨ m = 11 ∨ m = 12 := by omega
  clear h hm
  rcases hm12 with rfl | rfl | rfl | rfl | rfl | rfl | rfl | rfl | rfl | rfl | rfl | rfl
  case inr.inl =>
    cases hl : leapB y with
    | true =>
      rw [show dim y 2 = 29 by rw [dim_two, if_pos hl]]
      have HL := Lib.hid hl; clear hl
      go_enter Tryz.func131, Tryz.ntmps131
      go_wp2_with (go_at_call 156; refine (rlong_c _ _ HY.out).mono ?_; rw [HL.out]; rintro e w1 ⟨rfl, rfl⟩)
      go_ret
      exact ⟨rfl, rfl⟩
    | false =>
      rw [show dim y 2 = 28 by rw [dim_two, if_neg (by rw [hl]; simp)]]
      have HL := Lib.hid hl; clear hl
      go_enter Tryz.func131, Tryz.ntmps131
      go_wp2_with (go_at_call 156; refine (rlong_c _ _ HY.out).mono ?_; rw [HL.out]; rintro e w1 ⟨rfl, rfl⟩)
      go_ret
      exact ⟨rfl, rfl⟩
  all_goals
    go_enter Tryz.func131, Tryz.ntmps131
    go_wp2
    go_ret
    exact ⟨rfl, rfl⟩
theorem rbefore_c (y : Int) (w : World) (h : 1 ≤ y ∧ y ≤ 10000) : Calls Tryz.prog 129 #[.int .i64 y] w fun e w' => w = w' ∧ e = .returned (.int .i64 (bef y)) := by
  obtain ⟨h1, h2⟩ := h
  go_enter Tryz.func129, Tryz.ntmps129
  go_wp2
  go_ret
  exact ⟨rfl, rfl⟩
theorem rbefore_0 (w : World) : Calls Tryz.prog 129 #[.int .i64 0] w fun e w' => w = w' ∧ e = .returned (.int .i64 (-365)) := by
  go_enter Tryz.func129, Tryz.ntmps129
  go_wp2
  go_ret
  exact ⟨rfl, rfl⟩

set_option maxHeartbeats 1000000 in
theorem rdayof_c (y m d : Int) (w : World) (h1 : 1 ≤ y ∧ y ≤ 9999) (h2 : 1 ≤ m ∧ m ≤ 12) (h3 : 1 ≤ d ∧ d ≤ 31) :
    Calls Tryz.prog 132 #[.int .i64 y, .int .i64 m, .int .i64 d] w fun e w' => w = w' ∧ e = .returned (.int .i64 (num y m d)) := by
  obtain ⟨K, hK, rfl⟩ : ∃ K : Nat, K ≤ 11 ∧ m = (K : Int) + 1 := ⟨(m - 1).toNat, by omega, by omega⟩
  have HN := Lib.hid (num_cum (y := y) (d := d) (k := K))
  have HB := bef_bd (y := y) (by omega) (by omega)
  go_enter Tryz.func132, Tryz.ntmps132
  go_wp2_with fail
  refine (rbefore_c _ _ (by omega)).mono ?_
  rintro e w2 ⟨rfl, rfl⟩
  go_wp2
  go_loop [7, 8] (fun s i => ∃ k : Nat, k ≤ K ∧ i = .int .i64 ((k : Int) + 1) ∧ s = .int .i64 (bef y + d + cum y k)) (fun _ i => (K + 1 - (intOf i).toNat))
  case atStart => exact ⟨0, Nat.zero_le _, by go_num, ival (by rw [cum]; omega)⟩
  case round =>
    obtain ⟨k, hk, rfl, rfl⟩ := hrel
    have hcb := cum_bd12 y (k := k) (by omega)
    rcases Nat.lt_or_ge k K with hlt | hge
    · have hs := cum_bd12 y (k := k + 1) (by omega)
      have hS := Lib.hid (show cum y (k + 1) = cum y k + dim y ((k : Int) + 1) from rfl)
      have hdk := dim_bd y ((k : Int) + 1)
      have hlt' : (k : Int) + 1 < (K : Int) + 1 := by omega
      go_wp2_with fail
      refine (rdaysof_c _ _ _ (by omega) (by omega)).mono ?_
      rintro e w2 ⟨rfl, rfl⟩
      go_wp2
      go_round
      case rel => exact ⟨k + 1, by omega, ival (by omega), ival (by rw [hS.out]; omega)⟩
      case measure => simp [intOf]; omega
    · obtain rfl : k = K := by omega
      have hlt' : ¬ (k : Int) + 1 < (k : Int) + 1 := by omega
      go_wp2
      go_ret
      exact ⟨rfl, retI (by rw [HN.out]; omega)⟩

set_option maxHeartbeats 1000000 in
theorem rDayOf_c (y m d : Int) (w : World) (hy : -9223372036854775808 ≤ y ∧ y ≤ 9223372036854775807) :
    Calls Tryz.prog 71 #[.int .i64 y, .int .i64 m, .int .i64 d] w (RetNF (dayR y m d) (if dateB y m d = true then 0 else 1) w) := by
  by_cases h1 : 1 ≤ y ∧ y ≤ 9999
  case neg =>
    have hb : dateB y m d = false := dateB_not (fun h => h1 h.1)
    rw [dayR_no hb, hb]
    have e := Lib.hid (decide_eq_false h1)
    clear hb h1
    go_enter Tryz.func71, Tryz.ntmps71
    go_wp2_with (go_at_call 48; refine (within_c _ _ _ _).mono ?_; rw [e.out]; rintro e w1 ⟨rfl, rfl⟩)
    go_ret2
    exact ⟨rfl, Below.refl _ _⟩
  have E1 := Lib.hid (decide_eq_true h1)
  by_cases h2 : 1 ≤ m ∧ m ≤ 12
  case neg =>
    have hb : dateB y m d = false := dateB_not (fun h => h2 h.2.1)
    rw [dayR_no hb, hb]
    have E2 := Lib.hid (decide_eq_false h2)
    clear hb h2
    go_enter Tryz.func71, Tryz.ntmps71
    go_wp2_with fail
    refine (within_c _ _ _ _).mono ?_
    rw [E1.out]
    rintro e w1 ⟨rfl, rfl⟩
    go_wp2_with fail
    refine (within_c _ _ _ _).mono ?_
    rw [E2.out]
    rintro e w1 ⟨rfl, rfl⟩
    go_wp2
    go_ret2
    exact ⟨rfl, Below.refl _ _⟩
  have E2 := Lib.hid (decide_eq_true h2)
  have hd31 := dim_bd y m
  by_cases h3 : 1 ≤ d ∧ d ≤ dim y m
  case neg =>
    have hb : dateB y m d = false := dateB_not (fun h => h3 h.2.2)
    rw [dayR_no hb, hb]
    have E3 := Lib.hid (decide_eq_false h3)
    clear hb h3
    go_enter Tryz.func71, Tryz.ntmps71
    go_wp2_with fail
    refine (within_c _ _ _ _).mono ?_
    rw [E1.out]
    rintro e w1 ⟨rfl, rfl⟩
    go_wp2_with fail
    refine (within_c _ _ _ _).mono ?_
    rw [E2.out]
    rintro e w1 ⟨rfl, rfl⟩
    go_wp2_with fail
    refine (rdaysof_c _ _ _ (by omega) h2).mono ?_
    rintro e w1 ⟨rfl, rfl⟩
    go_wp2_with fail
    refine (within_c _ _ _ _).mono ?_
    rw [E3.out]
    rintro e w1 ⟨rfl, rfl⟩
    go_wp2
    go_ret2
    exact ⟨rfl, Below.refl _ _⟩
  have E3 := Lib.hid (decide_eq_true h3)
  have hb : dateB y m d = true := dateB_mk ⟨h1, h2, h3⟩
  rw [dayR_yes hb, hb]
  clear hb
  go_enter Tryz.func71, Tryz.ntmps71
  go_wp2_with fail
  refine (within_c _ _ _ _).mono ?_
  rw [E1.out]
  rintro e w1 ⟨rfl, rfl⟩
  go_wp2_with fail
  refine (within_c _ _ _ _).mono ?_
  rw [E2.out]
  rintro e w1 ⟨rfl, rfl⟩
  go_wp2_with fail
  refine (rdaysof_c _ _ _ (by omega) h2).mono ?_
  rintro e w1 ⟨rfl, rfl⟩
  go_wp2_with fail
  refine (within_c _ _ _ _).mono ?_
  rw [E3.out]
  rintro e w1 ⟨rfl, rfl⟩
  go_wp2_with fail
  refine (rdayof_c _ _ _ _ h1 h2 (by omega)).mono ?_
  rintro e w1 ⟨rfl, rfl⟩
  go_wp2
  go_ret2
  exact ⟨rfl, Below.refl _ _⟩

set_option maxHeartbeats 1000000 in
set_option maxRecDepth 100000 in
theorem rdateof_c (day y m d : Int) (w : World) (h1 : 1 ≤ day) (h2 : day ≤ 3652059) (h : DateIs day y m d) :
    Calls Tryz.prog 155 #[.int .i64 day] w fun e w' => w = w' ∧ e = .returned (.tuple #[.int .i64 y, .int .i64 m, .int .i64 d]) := by
  have HD := Lib.hid h
  obtain ⟨⟨y1, y2⟩, ⟨m1, m2⟩, ⟨d1, d2⟩, d3, b1, b2⟩ := h.facts
  have hn := h.2
  have hg := h.year_le (bef_guess h1)
  obtain ⟨K, hK, rfl⟩ : ∃ K : Nat, K ≤ 11 ∧ m = (K : Int) + 1 := ⟨(m - 1).toNat, by omega, by omega⟩
  rw [num_cum] at hn
  have HN := Lib.hid hn
  have HB := bef_bd (y := y) (by omega) (by omega)
  have hK12 := cum_bd12 y (k := K) (by omega)
  clear h hn
  go_enter Tryz.func155, Tryz.ntmps155
  go_wp2
  go_loop [2] (fun s => ∃ v : Int, 1 ≤ v ∧ v ≤ y ∧ s = .int .i64 v) (fun s => (y - intOf s).toNat)
  case atStart => exact ⟨day / 366 + 1, by omega, hg, rfl⟩
  case round =>
    obtain ⟨v, v1, v2, rfl⟩ := hrel
    rcases Int.lt_or_le v y with hlt | hge
    · have hm := bef_mono (a := v + 1) (b := y) (by omega)
      have hb3 : bef (v + 1) < day := by omega
      clear hm
      go_wp2_with fail
      refine (rbefore_c _ _ (by omega)).mono ?_
      rintro e w2 ⟨rfl, rfl⟩
      go_wp2
      go_round
      case rel => exact ⟨v + 1, by omega, by omega, rfl⟩
      case measure => simp [intOf]; omega
    · obtain rfl : v = y := by omega
      have hb3 : ¬ bef (v + 1) < day := by omega
      have hc := cum_bd12 v (k := 0) (by omega)
      go_wp2_with fail
      refine (rbefore_c _ _ (by omega)).mono ?_
      rintro e w2 ⟨rfl, rfl⟩
      go_wp2_with fail
      refine (rbefore_c _ _ (by omega)).mono ?_
      rintro e w2 ⟨rfl, rfl⟩
      go_wp2
      go_loop [3, 4] (fun i s => ∃ k : Nat, k ≤ K ∧ i = .int .i64 ((k : Int) + 1) ∧ s = .int .i64 (d + cum v K - cum v k)) (fun i _ => (K + 1 - (intOf i).toNat))
      case atStart => exact ⟨0, Nat.zero_le _, by go_num, ival (by have := HN.out; have : cum v 0 = 0 := rfl; omega)⟩
      case round =>
        obtain ⟨k, hk, rfl, rfl⟩ := hrel
        have hcb := cum_bd12 v (k := k) (by omega)
        have hdk := dim_bd v ((k : Int) + 1)
        rcases Nat.lt_or_ge k K with hlt | hge
        · have hs := cum_le v (i := k + 1) (j := K) (by omega)
          rw [cum] at hs
          have hS := Lib.hid (show cum v (k + 1) = cum v k + dim v ((k : Int) + 1) from rfl)
          have ht : dim v ((k : Int) + 1) < d + cum v K - cum v k := by omega
          have ht2 : dim v ((k : Int) + 1) + cum v k < d + cum v K := by omega
          go_wp2_with fail
          refine (rdaysof_c _ _ _ (by omega) (by omega)).mono ?_
          rintro e w2 ⟨rfl, rfl⟩
          go_wp2_with fail
          refine (rdaysof_c _ _ _ (by omega) (by omega)).mono ?_
          rintro e w3 ⟨rfl, rfl⟩
          go_wp2
          go_round
          case rel => exact ⟨k + 1, by omega, ival (by omega), ival (by rw [hS.out]; omega)⟩
          case measure => simp [intOf]; omega
        · obtain rfl : k = K := by omega
          have ht : ¬ dim v ((k : Int) + 1) < d + cum v k - cum v k := by omega
          go_wp2_with fail
          refine (rdaysof_c _ _ _ (by omega) (by omega)).mono ?_
          rintro e w2 ⟨rfl, rfl⟩
          go_wp2
          refine bodyPost_ret (v := .tuple #[.int .i64 v, .int .i64 ((k : Int) + 1), .int .i64 d]) (by simp [results, Tryz.results155, go_sem]; try omega) rfl ⟨rfl, rfl⟩

set_option maxHeartbeats 1000000 in
theorem rweekof_c (day y m d : Int) (w : World) (h1 : 1 ≤ day) (h2 : day ≤ 3652059) (h : DateIs (thu day) y m d) :
    Calls Tryz.prog 130 #[.int .i64 day] w fun e w' => w = w' ∧ e = .returned (.tuple #[.int .i64 y, .int .i64 (wk day y), .int .i64 ((day - 1) % 7 + 1)]) := by
  have ht := thu_bd h1 h2
  obtain ⟨⟨y1, y2⟩, -, -, -, b1, b2⟩ := h.facts
  have HD := Lib.hid h; clear h
  have hw := wk_bd b1 b2
  have HB := bef_bd (y := y) (by omega) (by omega)
  have hm : 0 ≤ (day - 1) % 7 ∧ (day - 1) % 7 ≤ 6 := by omega
  have E0 := Lib.hid (show day - ((day - 1) % 7 + 1) + 4 = thu day by unfold thu; omega)
  have E7 := Lib.hid (show (thu day - bef y - 1) / 7 + 1 = wk day y from rfl)
  go_enter Tryz.func130, Tryz.ntmps130
  go_wp2_with fail
  rw [E0.out]
  refine (rdateof_c (thu day) y m d _ ht.1 ht.2 HD.out).mono ?_
  rintro e w1 ⟨rfl, rfl⟩
  go_wp2_with fail
  refine (rbefore_c _ _ (by omega)).mono ?_
  rintro e w2 ⟨rfl, rfl⟩
  go_wp2
  refine bodyPost_ret (v := .tuple #[.int .i64 y, .int .i64 (wk day y), .int .i64 ((day - 1) % 7 + 1)]) (by simp [results, Tryz.results130, go_sem]; try (rw [E7.out])) rfl ⟨rfl, rfl⟩
end Go.Proofs.YtegobkaldedhhaaGreatDoor
