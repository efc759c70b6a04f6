/- The walks of days and dates: the program's dayOf, DayOf, dateOf, DateOf, weekOf. The walks of days and dates: padded, and the text of a day, in the program. -/
import Derived.Test.YtklblmbacnnoeaaGreatDoorF6
import Derived.Test.YtklblmbacnnoeaaGreatDoorE1
import Derived.Deep.QuietTactic
import Derived.BigQuiet
import Derived.IntWalk
import Derived.Test.YtklblmbacnnoeaaGreatDoorShelf
import Derived.Lib.AppendIntMem
import Derived.Lib.ItoaLen
import Derived.Lib.Repeat
-- merged: E2 E4

namespace Go.Proofs.YtklblmbacnnoeaaGreatDoor
open Go.RowKit Limb Work
set_option linter.unusedVariables false
set_option linter.unusedSimpArgs false

/-- What dayOf comes to. -/
def dayR (y m d : Int) : Int := if dateB y m d = true then num y m d else 0
theorem dayR_yes {y m d : Int} (h : dateB y m d = true) : dayR y m d = num y m d := if_pos h
theorem dayR_no {y m d : Int} (h : dateB y m d = false) : dayR y m d = 0 := if_neg (by rw [h]; simp)
theorem num_cum {y d : Int} {k : Nat} : num y ((k : Int) + 1) d = bef y + cum y k + d := by
  unfold num; rw [show ((k : Int) + 1 - 1).toNat = k by omega]
theorem cum_bd12 (y : Int) {k : Nat} (h : k ≤ 12) : 0 ≤ cum y k ∧ cum y k ≤ 366 := by
  have a := cum_le y (i := 0) (j := k) (by omega)
  have b := cum_le y (i := k) (j := 12) h
  have c := cum_12_bd y
  rw [cum] at a
  omega

theorem ival {a b : Int} (h : a = b) : Value.int .i64 a = .int .i64 b := by rw [h]
def RetI2 (n : Int) (b : Bool) (w : World) (e : Ending) (w' : World) : Prop := e = .returned (.tuple #[.int .i64 n, .bool b]) ∧ Below w.heap.size w w'
def RetNF (n f : Int) (w : World) (e : Ending) (w' : World) : Prop := e = .returned (.tuple #[.int .i64 n, .int .i64 f]) ∧ Below w.heap.size w w'

set_option maxHeartbeats 1000000 in
set_option maxRecDepth 100000 in
theorem dayof_c (y m d : Int) (w : World) (hy : -9223372036854775808 ≤ y ∧ y ≤ 9223372036854775807) :
    Calls Tryz.prog 228 #[.int .i64 y, .int .i64 m, .int .i64 d] w (RetI2 (dayR y m d) (dateB y m d) w) := by
  by_cases h1 : 1 ≤ y ∧ y ≤ 9999
  case neg =>
    have hb : dateB y m d = false := dateB_not (fun h => h1 h.1)
    rw [dayR_no hb, hb]
    clear hb
    go_enter Tryz.func228, Tryz.ntmps228
    go_wp2_with (go_at_call 58; refine (out_yes _ _ _ _ h1).mono ?_; rintro e w1 ⟨rfl, rfl⟩)
    go_ret2
    exact ⟨rfl, by go_grown⟩
  by_cases h2 : 1 ≤ m ∧ m ≤ 12
  case neg =>
    have hb : dateB y m d = false := dateB_not (fun h => h2 h.2.1)
    rw [dayR_no hb, hb]
    clear hb
    go_enter Tryz.func228, Tryz.ntmps228
    go_wp2_with fail
    refine (out_no _ _ _ _ h1).mono ?_
    rintro e w1 ⟨rfl, rfl⟩
    go_wp2_with fail
    refine (out_yes _ _ _ _ h2).mono ?_
    rintro e w1 ⟨rfl, rfl⟩
    go_wp2
    go_ret2
    exact ⟨rfl, by go_grown⟩
  by_cases h3 : 1 ≤ d ∧ d ≤ dim y m
  case neg =>
    have hb : dateB y m d = false := dateB_not (fun h => h3 h.2.2)
    rw [dayR_no hb, hb]
    clear hb
    go_enter Tryz.func228, Tryz.ntmps228
    go_wp2_with fail
    refine (out_no _ _ _ _ h1).mono ?_
    rintro e w1 ⟨rfl, rfl⟩
    go_wp2_with fail
    refine (out_no _ _ _ _ h2).mono ?_
    rintro e w1 ⟨rfl, rfl⟩
    go_wp2_with fail
    refine (daysof_c _ _ _ (by omega) h2).mono ?_
    rintro e w1 ⟨hb1, rfl⟩
    go_wp2_with fail
    refine (out_yes _ _ _ _ h3).mono ?_
    rintro e w2 ⟨rfl, rfl⟩
    go_wp2
    go_ret2
    exact ⟨rfl, by go_grown⟩
  have hb : dateB y m d = true := dateB_mk ⟨h1, h2, h3⟩
  rw [dayR_yes hb, hb]
  have hd31 := dim_bd y m
  obtain ⟨K, hK, rfl⟩ : ∃ K : Nat, K ≤ 11 ∧ m = (K : Int) + 1 := ⟨(m - 1).toNat, by omega, by omega⟩
  have HN := Lib.hid (num_cum (y := y) (d := d) (k := K))
  have HB := bef_bd (y := y) (by omega) (by omega)
  clear hb hy
  go_enter Tryz.func228, Tryz.ntmps228
  go_wp2_with fail
  refine (out_no _ _ _ _ h1).mono ?_
  rintro e w1 ⟨rfl, rfl⟩
  go_wp2_with fail
  refine (out_no _ _ _ _ h2).mono ?_
  rintro e w1 ⟨rfl, rfl⟩
  go_wp2_with fail
  refine (daysof_c _ _ _ (by omega) h2).mono ?_
  rintro e w1 ⟨hb1, rfl⟩
  go_wp2_with fail
  refine (out_no _ _ _ _ h3).mono ?_
  rintro e w2 ⟨rfl, rfl⟩
  go_wp2_with fail
  refine (before_c _ _ (by omega)).mono ?_
  rintro e w2 ⟨rfl, rfl⟩
  go_wp2
  go_loopw [8, 9] (fun s i wr => ∃ k : Nat, k ≤ K ∧ i = .int .i64 ((k : Int) + 1) ∧ s = .int .i64 (bef y + d + cum y k) ∧ Below w.heap.size w wr) (fun _ i _ => (K + 1 - (intOf i).toNat))
  case atStart => exact ⟨0, Nat.zero_le _, by go_num, ival (by rw [cum]; omega), hb1⟩
  case round =>
    obtain ⟨k, hk, rfl, rfl, hbel⟩ := hrel
    have hcb := cum_bd12 y (k := k) (by omega)
    have hz := hbel.size
    rcases Nat.lt_or_ge k K with hlt | hge
    · have hs := cum_bd12 y (k := k + 1) (by omega)
      have hS := Lib.hid (show cum y (k + 1) = cum y k + dim y ((k : Int) + 1) from rfl)
      have hdk := dim_bd y ((k : Int) + 1)
      have hlt' : (k : Int) + 1 < (K : Int) + 1 := by omega
      go_wp2_with fail
      refine (daysof_c _ _ _ (by omega) (by omega)).mono ?_
      rintro e w2 ⟨hb2, rfl⟩
      go_wp2
      go_roundw
      case rel => exact ⟨k + 1, by omega, ival (by omega), ival (by rw [hS.out]; omega), below_then hb2 hbel hz⟩
      case measure => simp [intOf]; omega
    · obtain rfl : k = K := by omega
      have hlt' : ¬ (k : Int) + 1 < (k : Int) + 1 := by omega
      go_wp2
      go_ret2
      exact ⟨congrArg (fun x => Ending.returned (.tuple #[.int .i64 x, .bool true])) (show bef y + d + cum y k = num y ((k : Int) + 1) d by rw [HN.out]; omega), hbel⟩

def RetD3 (y m d : Int) (w : World) (e : Ending) (w' : World) : Prop := e = .returned (.tuple #[.int .i64 y, .int .i64 m, .int .i64 d]) ∧ Below w.heap.size w w'
theorem Work.DateIs.year_le {day y m d v : Int} (h : DateIs day y m d) (hv : bef v < day) : v ≤ y := by
  have f := h.facts
  rcases Int.lt_or_le y v with k | k
  · have := bef_mono (a := y + 1) (b := v) (by omega); omega
  · exact k
set_option maxHeartbeats 1000000 in
set_option maxRecDepth 100000 in
theorem dateof_c (day y m d : Int) (w : World) (h1 : 1 ≤ day) (h2 : day ≤ 3652059) (h : DateIs day y m d) :
    Calls Tryz.prog 200 #[.int .i64 day] w (RetD3 y m d w) := by
  have HD := Lib.hid h
  obtain ⟨⟨y1, y2⟩, ⟨m1, m2⟩, ⟨d1, d2⟩, d3, b1, b2⟩ := h.facts
  have hn := h.2
  have hg := h.year_le (bef_guess h1)
  obtain ⟨K, hK, rfl⟩ : ∃ K : Nat, K ≤ 11 ∧ m = (K : Int) + 1 := ⟨(m - 1).toNat, by omega, by omega⟩
  rw [num_cum] at hn
  have HN := Lib.hid hn
  have HB := bef_bd (y := y) (by omega) (by omega)
  have hK12 := cum_bd12 y (k := K) (by omega)
  clear h hn
  go_enter Tryz.func200, Tryz.ntmps200
  go_wp2
  go_loop [2] (fun s => ∃ v : Int, 1 ≤ v ∧ v ≤ y ∧ s = .int .i64 v) (fun s => (y - intOf s).toNat)
  case atStart => exact ⟨day / 366 + 1, by omega, hg, rfl⟩
  case round =>
    obtain ⟨v, v1, v2, rfl⟩ := hrel
    rcases Int.lt_or_le v y with hlt | hge
    · have hm := bef_mono (a := v + 1) (b := y) (by omega)
      have hb3 : bef (v + 1) < day := by omega
      have hv9 : v < 9999 := by omega
      clear hm
      go_wp2_with fail
      refine (before_c _ _ (by omega)).mono ?_
      rintro e w2 ⟨rfl, rfl⟩
      go_wp2
      go_round
      case rel => exact ⟨v + 1, by omega, by omega, rfl⟩
      case measure => simp [intOf]; omega
    · obtain rfl : v = y := by omega
      have hb3 : ¬ bef (v + 1) < day := by omega
      have hc := cum_bd12 v (k := 0) (by omega)
      by_cases hv9 : v < 9999
      all_goals
        go_wp2_with (go_at_call 230; refine (before_c _ _ (by omega)).mono ?_; rintro e w2 ⟨rfl, rfl⟩)
        go_loopw [3, 4] (fun i s wr => ∃ k : Nat, k ≤ K ∧ i = .int .i64 ((k : Int) + 1) ∧ s = .int .i64 (d + cum v K - cum v k) ∧ Below w.heap.size w wr) (fun i _ _ => (K + 1 - (intOf i).toNat))
        case atStart => exact ⟨0, Nat.zero_le _, by go_num, ival (by have := HN.out; have : cum v 0 = 0 := rfl; omega), Below.refl _ _⟩
        case round =>
          obtain ⟨k, hk, rfl, rfl, hbel⟩ := hrel
          have hcb := cum_bd12 v (k := k) (by omega)
          have hz := hbel.size
          have hdk := dim_bd v ((k : Int) + 1)
          rcases Nat.lt_or_ge k K with hlt | hge
          · have hs := cum_le v (i := k + 1) (j := K) (by omega)
            rw [cum] at hs
            have hS := Lib.hid (show cum v (k + 1) = cum v k + dim v ((k : Int) + 1) from rfl)
            have ht : dim v ((k : Int) + 1) < d + cum v K - cum v k := by omega
            have ht2 : dim v ((k : Int) + 1) + cum v k < d + cum v K := by omega
            go_wp2_with fail
            refine (daysof_c _ _ _ (by omega) (by omega)).mono ?_
            rintro e w2 ⟨hb2, rfl⟩
            have hbel2 := below_then hb2 hbel hz
            have hz2 := hbel2.size
            go_wp2_with fail
            refine (daysof_c _ _ _ (by omega) (by omega)).mono ?_
            rintro e w3 ⟨hb3, rfl⟩
            go_wp2
            go_roundw
            case rel => exact ⟨k + 1, by omega, ival (by omega), ival (by rw [hS.out]; omega), below_then hb3 hbel2 hz2⟩
            case measure => simp [intOf]; omega
          · obtain rfl : k = K := by omega
            have ht : ¬ dim v ((k : Int) + 1) < d + cum v k - cum v k := by omega
            go_wp2_with fail
            refine (daysof_c _ _ _ (by omega) (by omega)).mono ?_
            rintro e w2 ⟨hb2, rfl⟩
            go_wp2
            refine bodyPost_ret (v := .tuple #[.int .i64 v, .int .i64 ((k : Int) + 1), .int .i64 d]) (by simp [results, Tryz.results200, go_sem]; try omega) rfl ⟨rfl, below_then hb2 hbel hz⟩

set_option maxHeartbeats 1000000 in
theorem weekof_c (day y m d : Int) (w : World) (h1 : 1 ≤ day) (h2 : day ≤ 3652059) (h : DateIs (thu day) y m d) :
    Calls Tryz.prog 202 #[.int .i64 day] w fun e w' => e = .returned (.tuple #[.int .i64 y, .int .i64 (wk day y)]) ∧ Below w.heap.size w w' := by
  have ht := thu_bd h1 h2
  obtain ⟨⟨y1, y2⟩, -, -, -, b1, b2⟩ := h.facts
  have HD := Lib.hid h; clear h
  have hw := wk_bd b1 b2
  have HB := bef_bd (y := y) (by omega) (by omega)
  have e0 : day - (day - 1) % 7 + 3 = thu day := rfl
  have e7 : (thu day - bef y - 1) / 7 + 1 = wk day y := rfl
  have hm : 0 ≤ (day - 1) % 7 ∧ (day - 1) % 7 ≤ 6 := by omega
  have E0 := Lib.hid e0; have E7 := Lib.hid e7; clear e0 e7
  go_enter Tryz.func202, Tryz.ntmps202
  go_wp2_with fail
  refine (weekday_c _ _ ⟨h1, by omega⟩).mono ?_
  rintro e w1 ⟨rfl, rfl⟩
  go_wp2_with fail
  rw [E0.out]
  refine (dateof_c (thu day) y m d _ ht.1 ht.2 HD.out).mono ?_
  rintro e w1 ⟨rfl, hb1⟩
  go_wp2_with fail
  refine (before_c _ _ (by omega)).mono ?_
  rintro e w2 ⟨rfl, rfl⟩
  go_wp2
  go_ret2
  exact ⟨congrArg (fun x => Ending.returned (.tuple #[.int .i64 y, .int .i64 x])) E7.out, hb1⟩
end Go.Proofs.YtklblmbacnnoeaaGreatDoor

namespace Go.Proofs.YtklblmbacnnoeaaGreatDoor
open Go.RowKit Limb Work
set_option linter.unusedVariables false
set_option linter.unusedSimpArgs false

/-- A number with so many digits. -/
def padN (n k : Nat) : List UInt8 := List.replicate (k - (Lib.decDigits n).length) 48 ++ Lib.decDigits n
def padS (n : Int) (k : Nat) : ByteArray := ⟨(padN n.toNat k).toArray⟩
theorem nd_le : ∀ (k u : Nat), u < 10 ^ (k + 1) → Lib.nDigits u ≤ k + 1
  | 0, u, h => by rw [Lib.nDigits_small (by simpa using h)]; exact Nat.le_refl _
  | k + 1, u, h => by
    by_cases h1 : u < 10
    · rw [Lib.nDigits_small h1]; omega
    · rw [Lib.nDigits_big h1]
      have := nd_le k (u / 10) (by rw [Nat.pow_succ] at h; omega)
      omega
theorem dec_len {n k : Nat} (hk : 1 ≤ k) (h : n < 10 ^ k) : 1 ≤ (Lib.decDigits n).length ∧ (Lib.decDigits n).length ≤ k := by
  rw [Lib.decDigits_length]
  refine ⟨Lib.nDigits_pos n, ?_⟩
  have := nd_le (k - 1) n (by rw [show k - 1 + 1 = k by omega]; exact h)
  omega
theorem padN_len {n k : Nat} (hk : 1 ≤ k) (h : n < 10 ^ k) : (padN n k).length = k := by
  have := dec_len hk h
  unfold padN
  simp
  omega
theorem padS_size {n : Int} {k : Nat} (hk : 1 ≤ k) (h : n.toNat < 10 ^ k) : (padS n k).size = k := by
  have := padN_len hk h
  unfold padS
  show (padN n.toNat k).toArray.size = k
  simpa using this
theorem padS_one {n : Int} (h : 0 ≤ n ∧ n ≤ 9) : padS n 1 = (⟨(Lib.decDigits n.toNat).toArray⟩ : ByteArray) := by
  have := dec_len (n := n.toNat) (k := 1) (by decide) (by omega)
  unfold padS padN
  rw [show 1 - (Lib.decDigits n.toNat).length = 0 by omega]
  rfl
/-- The library's table of powers lies in memory. -/
def Tab (w : World) : Prop := Lib.TabIs Tryz.prog w "internal/strconv.uint64pow10" .u64 Lib.pow10Tab
theorem Tab.below {w w' : World} (h : Tab w) (hb : Below w.heap.size w w') : Tab w' := Lib.tabBelow_of_tabIs h w' hb
theorem itoa_c (n : Int) (w : World) (h0 : 0 ≤ n) (h1 : n ≤ 9223372036854775807) (ht : Tab w) :
    Calls Tryz.prog 104 #[.int .i64 n] w fun e w' => e = .returned (.string ⟨(Lib.decDigits n.toNat).toArray⟩) ∧ Below w.heap.size w w' := by
  refine (Tryz.strconv_Itoa n (by omega) h1 w ht).mono ?_
  rintro e w' ⟨rfl, k, os, rfl⟩
  refine ⟨?_, Lib.below_grow _ w (Nat.le_refl _) k os⟩
  unfold Lib.itoa
  rw [if_neg (by omega)]
def RetS (s : ByteArray) (w : World) (e : Ending) (w' : World) : Prop := e = .returned (.string s) ∧ Below w.heap.size w w'
theorem rep_one (c : UInt8) : ∀ n, Lib.repeatL [c] n = List.replicate n c
  | 0 => rfl
  | n + 1 => by rw [Lib.repeatL, rep_one c n, List.replicate_succ]; rfl
set_option maxHeartbeats 1000000 in
set_option maxRecDepth 100000 in
theorem padded_c (n : Int) (k : Nat) (K : Int) (w : World) (hK : K = (k : Int)) (h0 : 0 ≤ n) (hk0 : 1 ≤ k) (hk : k ≤ 4) (hn : n.toNat < 10 ^ k) (ht : Tab w) :
    Calls Tryz.prog 201 #[.int .i64 n, .int .i64 K] w (RetS (padS n k) w) := by
  have hnb : n ≤ 9999 := by
    have : 10 ^ k ≤ 10 ^ 4 := Nat.pow_le_pow_right (by decide) hk
    omega
  have hl := dec_len hk0 hn
  obtain ⟨s, hs⟩ : ∃ s : ByteArray, (⟨(Lib.decDigits n.toNat).toArray⟩ : ByteArray) = s := ⟨_, rfl⟩
  have hsl : s.data.toList = Lib.decDigits n.toNat := by rw [← hs]
  have hss : s.size = (Lib.decDigits n.toNat).length := by rw [← hsl]; simp
  rw [← hss] at hl
  obtain ⟨c, hc⟩ : ∃ c : Nat, k - s.size = c := ⟨_, rfl⟩
  have HREP := Lib.hid (Tryz.strings_Repeat ⟨#[48]⟩ c)
  have HP := Lib.hid (show padS n k = (⟨(Lib.repeatL [48] c).toArray⟩ : ByteArray) ++ s by
    unfold padS padN
    rw [← hss, hc, ← hsl, rep_one]
    apply ByteArray.ext
    rw [ByteArray.data_append]
    simp)
  have hI := Lib.hid (fun w => itoa_c n w h0 (by omega)); rw [hs] at hI
  have E1 := Lib.hid (show K - (s.size : Int) = ((c : Nat) : Int) by omega)
  obtain ⟨r, hr⟩ : ∃ r : ByteArray, (⟨(Lib.repeatL [48] c).toArray⟩ : ByteArray) = r := ⟨_, rfl⟩
  have hrs : r.size = c := by rw [← hr, rep_one]; show (List.replicate c (48 : UInt8)).toArray.size = c; simp
  have HR := Lib.hid hr
  have hcond : ¬ 9223372036854775807 < r.size + s.size := by omega
  have hK4 : 1 ≤ K ∧ K ≤ 4 := by omega
  have hc4 : c ≤ 4 := by omega
  clear hc hss hsl hs hr hrs hK hn hk hk0
  go_enter Tryz.func201, Tryz.ntmps201
  go_wp2_with fail
  refine (hI.out _ ht).mono ?_
  rintro e w1 ⟨rfl, hb1⟩
  go_wp2_with fail
  rw [E1.out]
  refine (HREP.out _ (by omega) (by show 1 * c ≤ _; omega)).mono ?_
  rintro e w2 ⟨rfl, hb2⟩
  rw [show (⟨(Lib.repeatL (⟨#[48]⟩ : ByteArray).data.toList c).toArray⟩ : ByteArray) = r from HR.out]
  go_wp2
  go_ret
  exact ⟨congrArg (fun x => Ending.returned (.string x)) (show r ++ s = padS n k by rw [HP.out, HR.out]), below_then hb2 hb1 hb1.size⟩
/-! ### The text of a day -/
def formB (f : Int) : Bool := decide (1 ≤ f ∧ f ≤ 5)
theorem isform_c (f : Int) (w : World) : Calls Tryz.prog 194 #[.int .i64 f] w fun e w' => w = w' ∧ e = .returned (.bool (formB f)) := by
  by_cases h : 1 ≤ f ∧ f ≤ 5
  · rw [show formB f = true from decide_eq_true h]
    go_enter Tryz.func194, Tryz.ntmps194
    go_wp2_with (go_at_call 58; refine (out_no _ _ _ _ h).mono ?_; rintro e w1 ⟨rfl, rfl⟩)
    go_ret
    exact ⟨rfl, rfl⟩
  · rw [show formB f = false from decide_eq_false h]
    go_enter Tryz.func194, Tryz.ntmps194
    go_wp2_with (go_at_call 58; refine (out_yes _ _ _ _ h).mono ?_; rintro e w1 ⟨rfl, rfl⟩)
    go_ret
    exact ⟨rfl, rfl⟩
/-- The text of a day: y m d its date, z the year of its week. -/
def dtS (form day y m d z : Int) : ByteArray :=
  if form = 1 then padS y 4 ++ padS m 2 ++ padS d 2
  else if form = 2 then padS (y % 100) 2 ++ padS m 2 ++ padS d 2
  else if form = 3 then padS d 2 ++ padS m 2 ++ padS y 4
  else if form = 4 then padS y 4 ++ ⟨#[45]⟩ ++ padS m 2 ++ ⟨#[45]⟩ ++ padS d 2
  else padS z 4 ++ padS (wk day z) 2 ++ padS ((day - 1) % 7 + 1) 1
def RetSF (s : ByteArray) (f : Int) (w : World) (e : Ending) (w' : World) : Prop := e = .returned (.tuple #[.string s, .int .i64 f]) ∧ Below w.heap.size w w'
theorem RetSF.eq {s t : ByteArray} {f : Int} {w : World} {e : Ending} {w' : World} (h : RetSF s f w e w') (he : s = t) : RetSF t f w e w' := he ▸ h
set_option maxHeartbeats 2000000 in
set_option maxRecDepth 100000 in
theorem DayText_ok (day form y m d z zm zd : Int) (w : World) (h : formB form = true) (h1 : 1 ≤ day) (h2 : day ≤ 3652059) (hD : DateIs day y m d) (hZ : DateIs (thu day) z zm zd) (ht : Tab w) :
    Calls Tryz.prog 159 #[.int .i64 day, .int .i64 form] w (RetSF (dtS form day y m d z) 0 w) := by
  obtain ⟨⟨y1, y2⟩, ⟨m1, m2⟩, ⟨d1, d2⟩, -, -, -⟩ := hD.facts
  obtain ⟨⟨z1, z2⟩, -, -, -, b1, b2⟩ := hZ.facts
  have hw := wk_bd b1 b2
  have H := Lib.hid h; have HD := Lib.hid (dayB_mk ⟨h1, h2⟩)
  have HDI := Lib.hid hD; have HZ := Lib.hid hZ
  have hform := of_decide_eq_true h
  clear h hD hZ b1 b2
  have hf : form = 1 ∨ form = 2 ∨ form = 3 ∨ form = 4 ∨ form = 5 := by omega
  clear hform
  rcases hf with rfl | rfl | rfl | rfl | rfl
  -- FORMS
  · skip
    have s0 : (padS y 4).size = 4 := padS_size (by omega) (by omega)
    have s1 : (padS m 2).size = 2 := padS_size (by omega) (by omega)
    have s2 : (padS d 2).size = 2 := padS_size (by omega) (by omega)
    have k1 : ¬ 9223372036854775807 < (padS y 4).size + (padS m 2).size := by rw [s0, s1]; decide
    have k2 : ¬ 9223372036854775807 < (padS y 4 ++ padS m 2).size + (padS d 2).size := by rw [ByteArray.size_append, s0, s1, s2]; decide
    clear s0 s1 s2
    go_enter Tryz.func159, Tryz.ntmps159
    go_wp2_with fail
    refine (isform_c _ _).mono ?_
    rw [H.out]
    rintro e w1 ⟨rfl, rfl⟩
    go_wp2_with fail
    refine (isday_c _ _).mono ?_
    rw [HD.out]
    rintro e w1 ⟨rfl, rfl⟩
    go_wp2_with fail
    refine (dateof_c day y m d _ h1 h2 HDI.out).mono ?_
    rintro e w1 ⟨rfl, hb1⟩
    go_wp2_with fail
    refine (padded_c y 4 _ _ rfl (by omega) (by decide) (by decide) (by omega) (ht.below hb1)).mono ?_
    rintro e w2 ⟨rfl, hc0⟩
    have hd0 := below_then hc0 hb1 hb1.size
    go_wp2_with fail
    refine (padded_c m 2 _ _ rfl (by omega) (by decide) (by decide) (by omega) (ht.below hd0)).mono ?_
    rintro e w3 ⟨rfl, hc1⟩
    have hd1 := below_then hc1 hd0 hd0.size
    go_wp2_with fail
    refine (padded_c d 2 _ _ rfl (by omega) (by decide) (by decide) (by omega) (ht.below hd1)).mono ?_
    rintro e w4 ⟨rfl, hc2⟩
    have hd2 := below_then hc2 hd1 hd1.size
    go_wp2
    go_ret2
    exact ⟨rfl, hd2⟩
  · skip
    have s0 : (padS (y % 100) 2).size = 2 := padS_size (by omega) (by omega)
    have s1 : (padS m 2).size = 2 := padS_size (by omega) (by omega)
    have s2 : (padS d 2).size = 2 := padS_size (by omega) (by omega)
    have k1 : ¬ 9223372036854775807 < (padS (y % 100) 2).size + (padS m 2).size := by rw [s0, s1]; decide
    have k2 : ¬ 9223372036854775807 < (padS (y % 100) 2 ++ padS m 2).size + (padS d 2).size := by rw [ByteArray.size_append, s0, s1, s2]; decide
    clear s0 s1 s2
    go_enter Tryz.func159, Tryz.ntmps159
    go_wp2_with fail
    refine (isform_c _ _).mono ?_
    rw [H.out]
    rintro e w1 ⟨rfl, rfl⟩
    go_wp2_with fail
    refine (isday_c _ _).mono ?_
    rw [HD.out]
    rintro e w1 ⟨rfl, rfl⟩
    go_wp2_with fail
    refine (dateof_c day y m d _ h1 h2 HDI.out).mono ?_
    rintro e w1 ⟨rfl, hb1⟩
    go_wp2_with fail
    refine (padded_c (y % 100) 2 _ _ rfl (by omega) (by decide) (by decide) (by omega) (ht.below hb1)).mono ?_
    rintro e w2 ⟨rfl, hc0⟩
    have hd0 := below_then hc0 hb1 hb1.size
    go_wp2_with fail
    refine (padded_c m 2 _ _ rfl (by omega) (by decide) (by decide) (by omega) (ht.below hd0)).mono ?_
    rintro e w3 ⟨rfl, hc1⟩
    have hd1 := below_then hc1 hd0 hd0.size
    go_wp2_with fail
    refine (padded_c d 2 _ _ rfl (by omega) (by decide) (by decide) (by omega) (ht.below hd1)).mono ?_
    rintro e w4 ⟨rfl, hc2⟩
    have hd2 := below_then hc2 hd1 hd1.size
    go_wp2
    go_ret2
    exact ⟨rfl, hd2⟩
  · skip
    have s0 : (padS d 2).size = 2 := padS_size (by omega) (by omega)
    have s1 : (padS m 2).size = 2 := padS_size (by omega) (by omega)
    have s2 : (padS y 4).size = 4 := padS_size (by omega) (by omega)
    have k1 : ¬ 9223372036854775807 < (padS d 2).size + (padS m 2).size := by rw [s0, s1]; decide
    have k2 : ¬ 9223372036854775807 < (padS d 2 ++ padS m 2).size + (padS y 4).size := by rw [ByteArray.size_append, s0, s1, s2]; decide
    clear s0 s1 s2
    go_enter Tryz.func159, Tryz.ntmps159
    go_wp2_with fail
    refine (isform_c _ _).mono ?_
    rw [H.out]
    rintro e w1 ⟨rfl, rfl⟩
    go_wp2_with fail
    refine (isday_c _ _).mono ?_
    rw [HD.out]
    rintro e w1 ⟨rfl, rfl⟩
    go_wp2_with fail
    refine (dateof_c day y m d _ h1 h2 HDI.out).mono ?_
    rintro e w1 ⟨rfl, hb1⟩
    go_wp2_with fail
    refine (padded_c d 2 _ _ rfl (by omega) (by decide) (by decide) (by omega) (ht.below hb1)).mono ?_
    rintro e w2 ⟨rfl, hc0⟩
    have hd0 := below_then hc0 hb1 hb1.size
    go_wp2_with fail
    refine (padded_c m 2 _ _ rfl (by omega) (by decide) (by decide) (by omega) (ht.below hd0)).mono ?_
    rintro e w3 ⟨rfl, hc1⟩
    have hd1 := below_then hc1 hd0 hd0.size
    go_wp2_with fail
    refine (padded_c y 4 _ _ rfl (by omega) (by decide) (by decide) (by omega) (ht.below hd1)).mono ?_
    rintro e w4 ⟨rfl, hc2⟩
    have hd2 := below_then hc2 hd1 hd1.size
    go_wp2
    go_ret2
    exact ⟨rfl, hd2⟩
  · skip
    have s0 : (padS y 4).size = 4 := padS_size (by omega) (by omega)
    have s1 : (padS m 2).size = 2 := padS_size (by omega) (by omega)
    have s2 : (padS d 2).size = 2 := padS_size (by omega) (by omega)
    have k1 : ¬ 9223372036854775807 < (padS y 4).size + (⟨#[45]⟩ : ByteArray).size := by rw [s0]; decide
    have k2 : ¬ 9223372036854775807 < (padS y 4 ++ ⟨#[45]⟩).size + (padS m 2).size := by rw [ByteArray.size_append, s0, s1]; decide
    have k3 : ¬ 9223372036854775807 < (padS y 4 ++ ⟨#[45]⟩ ++ padS m 2).size + (⟨#[45]⟩ : ByteArray).size := by rw [ByteArray.size_append, ByteArray.size_append, s0, s1]; decide
    have k4 : ¬ 9223372036854775807 < (padS y 4 ++ ⟨#[45]⟩ ++ padS m 2 ++ ⟨#[45]⟩).size + (padS d 2).size := by rw [ByteArray.size_append, ByteArray.size_append, ByteArray.size_append, s0, s1, s2]; decide
    clear s0 s1 s2
    go_enter Tryz.func159, Tryz.ntmps159
    go_wp2_with fail
    refine (isform_c _ _).mono ?_
    rw [H.out]
    rintro e w1 ⟨rfl, rfl⟩
    go_wp2_with fail
    refine (isday_c _ _).mono ?_
    rw [HD.out]
    rintro e w1 ⟨rfl, rfl⟩
    go_wp2_with fail
    refine (dateof_c day y m d _ h1 h2 HDI.out).mono ?_
    rintro e w1 ⟨rfl, hb1⟩
    go_wp2_with fail
    refine (padded_c y 4 _ _ rfl (by omega) (by decide) (by decide) (by omega) (ht.below hb1)).mono ?_
    rintro e w2 ⟨rfl, hc0⟩
    have hd0 := below_then hc0 hb1 hb1.size
    go_wp2_with fail
    refine (padded_c m 2 _ _ rfl (by omega) (by decide) (by decide) (by omega) (ht.below hd0)).mono ?_
    rintro e w3 ⟨rfl, hc1⟩
    have hd1 := below_then hc1 hd0 hd0.size
    go_wp2_with fail
    refine (padded_c d 2 _ _ rfl (by omega) (by decide) (by decide) (by omega) (ht.below hd1)).mono ?_
    rintro e w4 ⟨rfl, hc2⟩
    have hd2 := below_then hc2 hd1 hd1.size
    go_wp2
    go_ret2
    exact ⟨rfl, hd2⟩
  · skip
    have s0 : (padS z 4).size = 4 := padS_size (by omega) (by omega)
    have s1 : (padS (wk day z) 2).size = 2 := padS_size (by omega) (by omega)
    have s2 : (padS ((day - 1) % 7 + 1) 1).size = 1 := padS_size (by omega) (by omega)
    have k1 : ¬ 9223372036854775807 < (padS z 4).size + (padS (wk day z) 2).size := by rw [s0, s1]; decide
    have k2 : ¬ 9223372036854775807 < (padS z 4 ++ padS (wk day z) 2).size + (padS ((day - 1) % 7 + 1) 1).size := by rw [ByteArray.size_append, s0, s1, s2]; decide
    clear s0 s1 s2
    go_enter Tryz.func159, Tryz.ntmps159
    go_wp2_with fail
    refine (isform_c _ _).mono ?_
    rw [H.out]
    rintro e w1 ⟨rfl, rfl⟩
    go_wp2_with fail
    refine (isday_c _ _).mono ?_
    rw [HD.out]
    rintro e w1 ⟨rfl, rfl⟩
    go_wp2_with fail
    refine (dateof_c day y m d _ h1 h2 HDI.out).mono ?_
    rintro e w1 ⟨rfl, hb1⟩
    go_wp2_with fail
    refine (weekof_c day z zm zd _ h1 h2 HZ.out).mono ?_
    rintro e w1b ⟨rfl, hb1b⟩
    have hb1 := below_then hb1b hb1 hb1.size
    go_wp2_with fail
    refine (padded_c z 4 _ _ rfl (by omega) (by decide) (by decide) (by omega) (ht.below hb1)).mono ?_
    rintro e w2 ⟨rfl, hc0⟩
    have hd0 := below_then hc0 hb1 hb1.size
    go_wp2_with fail
    refine (padded_c (wk day z) 2 _ _ rfl (by omega) (by decide) (by decide) (by omega) (ht.below hd0)).mono ?_
    rintro e w3 ⟨rfl, hc1⟩
    have hd1 := below_then hc1 hd0 hd0.size
    go_wp2_with fail
    refine (weekday_c _ _ ⟨h1, by omega⟩).mono ?_
    rintro e w5 ⟨rfl, rfl⟩
    go_wp2_with fail
    refine (itoa_c _ _ (by omega) (by omega) (ht.below hd1)).mono ?_
    rintro e w4 ⟨rfl, hc2⟩
    rw [show (⟨(Lib.decDigits ((day - 1) % 7 + 1).toNat).toArray⟩ : ByteArray) = padS ((day - 1) % 7 + 1) 1 from (padS_one (by omega)).symm]
    have hd2 := below_then hc2 hd1 hd1.size
    go_wp2
    go_ret2
    exact ⟨rfl, hd2⟩
  -- END FORMS
end Go.Proofs.YtklblmbacnnoeaaGreatDoor
