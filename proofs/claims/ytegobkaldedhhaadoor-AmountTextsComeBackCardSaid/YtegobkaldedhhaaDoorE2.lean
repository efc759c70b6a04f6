
/- The walks of days and dates: the program's dayOf, DayOf, dateOf, DateOf, weekOf. -/
import Derived.Test.YtegobkaldedhhaaDoorE0
import Derived.Test.YtegobkaldedhhaaDoorE1
import Derived.Deep.QuietTactic
import Derived.BigQuiet
import Derived.IntWalk
namespace Go.Proofs.YtegobkaldedhhaaDoor
open Go.RowKit Limb Work
set_option linter.unusedVariables false
set_option linter.unusedSimpArgs false

/-- What dayOf comes to. -/
def dayR (y m d : Int) : Int := if dateB y m d = true then num y m d else 0
theorem dayR_yes {y m d : Int} (h : dateB y m d = true) : dayR y m d = num y m d := if_pos h
theorem dayR_no {y m d : Int} (h : dateB y m d = false) : dayR y m d = 0 := if_neg (by rw [h]; simp)
theorem num_cum {y d : Int} {k : Nat} : num y ((k : Int) + 1) d = bef y + cum y k + d := by
  unfold num; rw [show ((k : Int) + 1 - 1).toNat = k by omega]
theorem cum_bd12 (y : Int) {k : Nat} (h : k ≤ 12) : 0 ≤ cum y k ∧ cum y k ≤ 366 := by
  have a := cum_le y (i := 0) (j := k) (by omega)
  have b := cum_le y (i := k) (j := 12) h
  have c := cum_12_bd y
  rw [cum] at a
  omega

theorem ival {a b : Int} (h : a = b) : Value.int .i64 a = .int .i64 b := by rw [h]
def RetI2 (n : Int) (b : Bool) (w : World) (e : Ending) (w' : World) : Prop := e = .returned (.tuple #[.int .i64 n, .bool b]) ∧ Below w.heap.size w w'
def RetNF (n f : Int) (w : World) (e : Ending) (w' : World) : Prop := e = .returned (.tuple #[.int .i64 n, .int .i64 f]) ∧ Below w.heap.size w w'

set_option maxHeartbeats 1000000 in
set_option maxRecDepth 100000 in
theorem dayof_c (y m d : Int) (w : World) (hy : -9223372036854775808 ≤ y ∧ y ≤ 9223372036854775807) :
    Calls Tryd.prog 45 #[.int .i64 y, .int .i64 m, .int .i64 d] w (RetI2 (dayR y m d) (dateB y m d) w) := by
  by_cases h1 : 1 ≤ y ∧ y ≤ 9999
  case neg =>
    have hb : dateB y m d = false := dateB_not (fun h => h1 h.1)
    rw [dayR_no hb, hb]
    clear hb
    go_enter Tryd.func45, Tryd.ntmps45
    go_wp2_with (go_at_call 59; refine (out_yes _ _ _ _ h1).mono ?_; rintro e w1 ⟨rfl, rfl⟩)
    go_ret2
    exact ⟨rfl, by go_grown⟩
  by_cases h2 : 1 ≤ m ∧ m ≤ 12
  case neg =>
    have hb : dateB y m d = false := dateB_not (fun h => h2 h.2.1)
    rw [dayR_no hb, hb]
    clear hb
    go_enter Tryd.func45, Tryd.ntmps45
    go_wp2_with fail
    refine (out_no _ _ _ _ h1).mono ?_
    rintro e w1 ⟨rfl, rfl⟩
    go_wp2_with fail
    refine (out_yes _ _ _ _ h2).mono ?_
    rintro e w1 ⟨rfl, rfl⟩
    go_wp2
    go_ret2
    exact ⟨rfl, by go_grown⟩
  by_cases h3 : 1 ≤ d ∧ d ≤ dim y m
  case neg =>
    have hb : dateB y m d = false := dateB_not (fun h => h3 h.2.2)
    rw [dayR_no hb, hb]
    clear hb
    go_enter Tryd.func45, Tryd.ntmps45
    go_wp2_with fail
    refine (out_no _ _ _ _ h1).mono ?_
    rintro e w1 ⟨rfl, rfl⟩
    go_wp2_with fail
    refine (out_no _ _ _ _ h2).mono ?_
    rintro e w1 ⟨rfl, rfl⟩
    go_wp2_with fail
    refine (daysof_c _ _ _ (by omega) h2).mono ?_
    rintro e w1 ⟨hb1, rfl⟩
    go_wp2_with fail
    refine (out_yes _ _ _ _ h3).mono ?_
    rintro e w2 ⟨rfl, rfl⟩
    go_wp2
    go_ret2
    exact ⟨rfl, by go_grown⟩
  have hb : dateB y m d = true := dateB_mk ⟨h1, h2, h3⟩
  rw [dayR_yes hb, hb]
  have hd31 := dim_bd y m
  obtain ⟨K, hK, rfl⟩ : ∃ K : Nat, K ≤ 11 ∧ m = (K : Int) + 1 := ⟨(m - 1).toNat, by omega, by omega⟩
  have HN := Lib.hid (num_cum (y := y) (d := d) (k := K))
  have HB := bef_bd (y := y) (by omega) (by omega)
  clear hb hy
  go_enter Tryd.func45, Tryd.ntmps45
  go_wp2_with fail
  refine (out_no _ _ _ _ h1).mono ?_
  rintro e w1 ⟨rfl, rfl⟩
  go_wp2_with fail
  refine (out_no _ _ _ _ h2).mono ?_
  rintro e w1 ⟨rfl, rfl⟩
  go_wp2_with fail
  refine (daysof_c _ _ _ (by omega) h2).mono ?_
  rintro e w1 ⟨hb1, rfl⟩
  go_wp2_with fail
  refine (out_no _ _ _ _ h3).mono ?_
  rintro e w2 ⟨rfl, rfl⟩
  go_wp2_with fail
  refine (before_c _ _ (by omega)).mono ?_
  rintro e w2 ⟨rfl, rfl⟩
  go_wp2
  go_loopw [8, 9] (fun s i wr => ∃ k : Nat, k ≤ K ∧ i = .int .i64 ((k : Int) + 1) ∧ s = .int .i64 (bef y + d + cum y k) ∧ Below w.heap.size w wr) (fun _ i _ => (K + 1 - (intOf i).toNat))
  case atStart => exact ⟨0, Nat.zero_le _, by go_num, ival (by rw [cum]; omega), hb1⟩
  case round =>
    obtain ⟨k, hk, rfl, rfl, hbel⟩ := hrel
    have hcb := cum_bd12 y (k := k) (by omega)
    have hz := hbel.size
    rcases Nat.lt_or_ge k K with hlt | hge
    · have hs := cum_bd12 y (k := k + 1) (by omega)
      have hS := Lib.hid (show cum y (k + 1) = cum y k + dim y ((k : Int) + 1) from rfl)
      have hdk := dim_bd y ((k : Int) + 1)
      have hlt' : (k : Int) + 1 < (K : Int) + 1 := by omega
      go_wp2_with fail
      refine (daysof_c _ _ _ (by omega) (by omega)).mono ?_
      rintro e w2 ⟨hb2, rfl⟩
      go_wp2
      go_roundw
      case rel => exact ⟨k + 1, by omega, ival (by omega), ival (by rw [hS.out]; omega), below_then hb2 hbel hz⟩
      case measure => simp [intOf]; omega
    · obtain rfl : k = K := by omega
      have hlt' : ¬ (k : Int) + 1 < (k : Int) + 1 := by omega
      go_wp2
      go_ret2
      exact ⟨congrArg (fun x => Ending.returned (.tuple #[.int .i64 x, .bool true])) (show bef y + d + cum y k = num y ((k : Int) + 1) d by rw [HN.out]; omega), hbel⟩

def RetD3 (y m d : Int) (w : World) (e : Ending) (w' : World) : Prop := e = .returned (.tuple #[.int .i64 y, .int .i64 m, .int .i64 d]) ∧ Below w.heap.size w w'
theorem Work.DateIs.year_le {day y m d v : Int} (h : DateIs day y m d) (hv : bef v < day) : v ≤ y := by
  have f := h.facts
  rcases Int.lt_or_le y v with k | k
  · have := bef_mono (a := y + 1) (b := v) (by omega); omega
  · exact k
set_option maxHeartbeats 1000000 in
set_option maxRecDepth 100000 in
theorem dateof_c (day y m d : Int) (w : World) (h1 : 1 ≤ day) (h2 : day ≤ 3652059) (h : DateIs day y m d) :
    Calls Tryd.prog 50 #[.int .i64 day] w (RetD3 y m d w) := by
  have HD := Lib.hid h
  obtain ⟨⟨y1, y2⟩, ⟨m1, m2⟩, ⟨d1, d2⟩, d3, b1, b2⟩ := h.facts
  have hn := h.2
  have hg := h.year_le (bef_guess h1)
  obtain ⟨K, hK, rfl⟩ : ∃ K : Nat, K ≤ 11 ∧ m = (K : Int) + 1 := ⟨(m - 1).toNat, by omega, by omega⟩
  rw [num_cum] at hn
  have HN := Lib.hid hn
  have HB := bef_bd (y := y) (by omega) (by omega)
  have hK12 := cum_bd12 y (k := K) (by omega)
  clear h hn
  go_enter Tryd.func50, Tryd.ntmps50
  go_wp2
  go_loop [2] (fun s => ∃ v : Int, 1 ≤ v ∧ v ≤ y ∧ s = .int .i64 v) (fun s => (y - intOf s).toNat)
  case atStart => exact ⟨day / 366 + 1, by omega, hg, rfl⟩
  case round =>
    obtain ⟨v, v1, v2, rfl⟩ := hrel
    rcases Int.lt_or_le v y with hlt | hge
    · have hm := bef_mono (a := v + 1) (b := y) (by omega)
      have hb3 : bef (v + 1) < day := by omega
      have hv9 : v < 9999 := by omega
      clear hm
      go_wp2_with fail
      refine (before_c _ _ (by omega)).mono ?_
      rintro e w2 ⟨rfl, rfl⟩
      go_wp2
      go_round
      case rel => exact ⟨v + 1, by omega, by omega, rfl⟩
      case measure => simp [intOf]; omega
    · obtain rfl : v = y := by omega
      have hb3 : ¬ bef (v + 1) < day := by omega
      have hc := cum_bd12 v (k := 0) (by omega)
      by_cases hv9 : v < 9999
      all_goals
        go_wp2_with (go_at_call 103; refine (before_c _ _ (by omega)).mono ?_; rintro e w2 ⟨rfl, rfl⟩)
        go_loopw [3, 4] (fun i s wr => ∃ k : Nat, k ≤ K ∧ i = .int .i64 ((k : Int) + 1) ∧ s = .int .i64 (d + cum v K - cum v k) ∧ Below w.heap.size w wr) (fun i _ _ => (K + 1 - (intOf i).toNat))
        case atStart => exact ⟨0, Nat.zero_le _, by go_num, ival (by have := HN.out; have : cum v 0 = 0 := rfl; omega), Below.refl _ _⟩
        case round =>
          obtain ⟨k, hk, rfl, rfl, hbel⟩ := hrel
          have hcb := cum_bd12 v (k := k) (by omega)
          have hz := hbel.size
          have hdk := dim_bd v ((k : Int) + 1)
          rcases Nat.lt_or_ge k K with hlt | hge
          · have hs := cum_le v (i := k + 1) (j := K) (by omega)
            rw [cum] at hs
            have hS := Lib.hid (show cum v (k + 1) = cum v k + dim v ((k : Int) + 1) from rfl)
            have ht : dim v ((k : Int) + 1) < d + cum v K - cum v k := by omega
            have ht2 : dim v ((k : Int) + 1) + cum v k < d + cum v K := by omega
            go_wp2_with fail
            refine (daysof_c _ _ _ (by omega) (by omega)).mono ?_
            rintro e w2 ⟨hb2, rfl⟩
            have hbel2 := below_then hb2 hbel hz
            have hz2 := hbel2.size
            go_wp2_with fail
            refine (daysof_c _ _ _ (by omega) (by omega)).mono ?_
            rintro e w3 ⟨hb3, rfl⟩
            go_wp2
            go_roundw
            case rel => exact ⟨k + 1, by omega, ival (by omega), ival (by rw [hS.out]; omega), below_then hb3 hbel2 hz2⟩
            case measure => simp [intOf]; omega
          · obtain rfl : k = K := by omega
            have ht : ¬ dim v ((k : Int) + 1) < d + cum v k - cum v k := by omega
            go_wp2_with fail
            refine (daysof_c _ _ _ (by omega) (by omega)).mono ?_
            rintro e w2 ⟨hb2, rfl⟩
            go_wp2
            refine bodyPost_ret (v := .tuple #[.int .i64 v, .int .i64 ((k : Int) + 1), .int .i64 d]) (by simp [results, Tryd.results50, go_sem]; try omega) rfl ⟨rfl, below_then hb2 hbel hz⟩

theorem DayOf_c (y m d : Int) (w : World) (hy : -9223372036854775808 ≤ y ∧ y ≤ 9223372036854775807) :
    Calls Tryd.prog 12 #[.int .i64 y, .int .i64 m, .int .i64 d] w (RetNF (dayR y m d) (if dateB y m d = true then 0 else 1) w) := by
  cases hb : dateB y m d with
  | true =>
    have HB := Lib.hid hb; clear hb
    go_enter Tryd.func12, Tryd.ntmps12
    go_wp2_with fail
    refine (dayof_c y m d _ hy).mono ?_
    rw [HB.out]
    rintro e w1 ⟨rfl, hb1⟩
    go_wp2
    go_ret2
    exact ⟨rfl, hb1⟩
  | false =>
    rw [dayR_no hb]
    have HB := Lib.hid hb; clear hb
    go_enter Tryd.func12, Tryd.ntmps12
    go_wp2_with fail
    refine (dayof_c y m d _ hy).mono ?_
    rw [HB.out]
    rintro e w1 ⟨rfl, hb1⟩
    go_wp2
    go_ret2
    exact ⟨rfl, hb1⟩

def RetD4 (y m d f : Int) (w : World) (e : Ending) (w' : World) : Prop := e = .returned (.tuple #[.int .i64 y, .int .i64 m, .int .i64 d, .int .i64 f]) ∧ Below w.heap.size w w'
theorem DateOf_no (day : Int) (w : World) (h : dayB day = false) : Calls Tryd.prog 14 #[.int .i64 day] w (RetD4 0 0 0 1 w) := by
  have H := Lib.hid h; clear h
  go_enter Tryd.func14, Tryd.ntmps14
  go_wp2_with (go_at_call 49; refine (isday_c _ _).mono ?_; rw [H.out]; rintro e w1 ⟨rfl, rfl⟩)
  refine bodyPost_ret (v := .tuple #[.int .i64 0, .int .i64 0, .int .i64 0, .int .i64 1]) (by simp [results, Tryd.results14, go_sem]) rfl ⟨rfl, Below.refl _ _⟩
theorem DateOf_yes (day y m d : Int) (w : World) (h1 : 1 ≤ day) (h2 : day ≤ 3652059) (h : DateIs day y m d) : Calls Tryd.prog 14 #[.int .i64 day] w (RetD4 y m d 0 w) := by
  have H := Lib.hid (dayB_mk ⟨h1, h2⟩); have HD := Lib.hid h; clear h
  go_enter Tryd.func14, Tryd.ntmps14
  go_wp2_with fail
  refine (isday_c _ _).mono ?_
  rw [H.out]
  rintro e w1 ⟨rfl, rfl⟩
  go_wp2_with fail
  refine (dateof_c day y m d _ h1 h2 HD.out).mono ?_
  rintro e w1 ⟨rfl, hb1⟩
  go_wp2
  refine bodyPost_ret (v := .tuple #[.int .i64 y, .int .i64 m, .int .i64 d, .int .i64 0]) (by simp [results, Tryd.results14, go_sem]) rfl ⟨rfl, hb1⟩

set_option maxHeartbeats 1000000 in
theorem weekof_c (day y m d : Int) (w : World) (h1 : 1 ≤ day) (h2 : day ≤ 3652059) (h : DateIs (thu day) y m d) :
    Calls Tryd.prog 55 #[.int .i64 day] w fun e w' => e = .returned (.tuple #[.int .i64 y, .int .i64 (wk day y)]) ∧ Below w.heap.size w w' := by
  have ht := thu_bd h1 h2
  obtain ⟨⟨y1, y2⟩, -, -, -, b1, b2⟩ := h.facts
  have HD := Lib.hid h; clear h
  have hw := wk_bd b1 b2
  have HB := bef_bd (y := y) (by omega) (by omega)
  have e0 : day - (day - 1) % 7 + 3 = thu day := rfl
  have e7 : (thu day - bef y - 1) / 7 + 1 = wk day y := rfl
  have hm : 0 ≤ (day - 1) % 7 ∧ (day - 1) % 7 ≤ 6 := by omega
  have E0 := Lib.hid e0; have E7 := Lib.hid e7; clear e0 e7
  go_enter Tryd.func55, Tryd.ntmps55
  go_wp2_with fail
  refine (weekday_c _ _ ⟨h1, by omega⟩).mono ?_
  rintro e w1 ⟨rfl, rfl⟩
  go_wp2_with fail
  rw [E0.out]
  refine (dateof_c (thu day) y m d _ ht.1 ht.2 HD.out).mono ?_
  rintro e w1 ⟨rfl, hb1⟩
  go_wp2_with fail
  refine (before_c _ _ (by omega)).mono ?_
  rintro e w2 ⟨rfl, rfl⟩
  go_wp2
  go_ret2
  exact ⟨congrArg (fun x => Ending.returned (.tuple #[.int .i64 y, .int .i64 x])) E7.out, hb1⟩
end Go.Proofs.YtegobkaldedhhaaDoor
