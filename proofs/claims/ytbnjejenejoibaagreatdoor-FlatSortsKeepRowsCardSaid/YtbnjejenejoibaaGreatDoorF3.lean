/- The walks of days and dates: the program's dayOf, DayOf, dateOf, DateOf, weekOf. The walks of CheckFormat's parts: marks, forms, idle. -/
import Derived.Test.YtbnjejenejoibaaGreatDoorM0
import Derived.Test.YtbnjejenejoibaaGreatDoorUN
import Derived.Deep.QuietTactic
import Derived.BigQuiet
import Derived.IntWalk
import Derived.Deep.DeepCutAuto
import Derived.Test.YtbnjejenejoibaaGreatDoorT3
-- merged: E2 F3
namespace Go.Proofs.YtbnjejenejoibaaGreatDoor
open Go.RowKit Limb Work
set_option linter.unusedVariables false
set_option linter.unusedSimpArgs false
def dayR (y m d : Int) : Int := if dateB y m d = true then num y m d else 0
theorem dayR_yes {y m d : Int} (h : dateB y m d = true) : dayR y m d = num y m d := if_pos h
theorem dayR_no {y m d : Int} (h : dateB y m d = false) : dayR y m d = 0 := if_neg (by rw [h]; simp)
theorem num_cum {y d : Int} {k : Nat} : num y ((k : Int) + 1) d = bef y + cum y k + d := by
 unfold num; rw [show ((k : Int) + 1 - 1).toNat = k by omega]
theorem cum_bd12 (y : Int) {k : Nat} (h : k <= 12) : 0 <= cum y k /\ cum y k <= 366 := by
 have a := cum_le y (i := 0) (j := k) (by omega)
 have b := cum_le y (i := k) (j := 12) h
 have c := cum_12_bd y
 rw [cum] at a
 omega
theorem ival {a b : Int} (h : a = b) : Value.int .i64 a = .int .i64 b := by rw [h]
def RetI2 (n : Int) (b : Bool) (w : World) (e : Ending) (w' : World) : Prop := e = .returned (.tuple #[.int .i64 n, .bool b]) /\ Below w.heap.size w w'
def RetNF (n f : Int) (w : World) (e : Ending) (w' : World) : Prop := e = .returned (.tuple #[.int .i64 n, .int .i64 f]) /\ Below w.heap.size w w'
set_option maxHeartbeats 1000000 in
set_option maxRecDepth 100000 in
theorem dayof_c (y m d : Int) (w : World) (hy : -9223372036854775808 <= y /\ y <= 9223372036854775807) :
  Calls Tryz.prog 271 #[.int .i64 y, .int .i64 m, .int .i64 d] w (RetI2 (dayR y m d) (dateB y m d) w) := by
 by_cases h1 : 1 <= y /\ y <= 9999
 case neg =>
  have hb : dateB y m d = false := dateB_not (fun h => h1 h.1)
  rw [dayR_no hb, hb]
  clear hb
  go_enter Tryz.func271, Tryz.ntmps271
  go_wp2_with (go_at_call 104; refine (out_yes _ _ _ _ h1).mono ?_; rintro e w1 ⟨rfl, rfl⟩)
  go_ret2
  exact ⟨rfl, by go_grown⟩
 by_cases h2 : 1 <= m /\ m <= 12
 case neg =>
  have hb : dateB y m d = false := dateB_not (fun h => h2 h.2.1)
  rw [dayR_no hb, hb]
  clear hb
  go_enter Tryz.func271, Tryz.ntmps271
  go_wp2_with fail
  refine (out_no _ _ _ _ h1).mono ?_
  rintro e w1 ⟨rfl, rfl⟩
  go_wp2_with fail
  refine (out_yes _ _ _ _ h2).mono ?_
  rintro e w1 ⟨rfl, rfl⟩
  go_wp2
  go_ret2
  exact ⟨rfl, by go_grown⟩
 by_cases h3 : 1 <= d /\ d <= dim y m
 case neg =>
  have hb : dateB y m d = false := dateB_not (fun h => h3 h.2.2)
  rw [dayR_no hb, hb]
  clear hb
  go_enter Tryz.func271, Tryz.ntmps271
  go_wp2_with fail
  refine (out_no _ _ _ _ h1).mono ?_
  rintro e w1 ⟨rfl, rfl⟩
  go_wp2_with fail
  refine (out_no _ _ _ _ h2).mono ?_
  rintro e w1 ⟨rfl, rfl⟩
  go_wp2_with fail
  refine (daysof_c _ _ _ (by omega) h2).mono ?_
  rintro e w1 ⟨hb1, rfl⟩
  go_wp2_with fail
  refine (out_yes _ _ _ _ h3).mono ?_
  rintro e w2 ⟨rfl, rfl⟩
  go_wp2
  go_ret2
  exact ⟨rfl, by go_grown⟩
 have hb : dateB y m d = true := dateB_mk ⟨h1, h2, h3⟩
 rw [dayR_yes hb, hb]
 have hd31 := dim_bd y m
 obtain ⟨K, hK, rfl⟩ : ∃ K : Nat, K <= 11 /\ m = (K : Int) + 1 := ⟨(m - 1).toNat, by omega, by omega⟩
 have HN := Lib.hid (num_cum (y := y) (d := d) (k := K))
 have HB := bef_bd (y := y) (by omega) (by omega)
 clear hb hy
 go_enter Tryz.func271, Tryz.ntmps271
 go_wp2_with fail
 refine (out_no _ _ _ _ h1).mono ?_
 rintro e w1 ⟨rfl, rfl⟩
 go_wp2_with fail
 refine (out_no _ _ _ _ h2).mono ?_
 rintro e w1 ⟨rfl, rfl⟩
 go_wp2_with fail
 refine (daysof_c _ _ _ (by omega) h2).mono ?_
 rintro e w1 ⟨hb1, rfl⟩
 go_wp2_with fail
 refine (out_no _ _ _ _ h3).mono ?_
 rintro e w2 ⟨rfl, rfl⟩
 go_wp2_with fail
 refine (before_c _ _ (by omega)).mono ?_
 rintro e w2 ⟨rfl, rfl⟩
 go_wp2
 go_loopw [8, 9] (fun s i wr => ∃ k : Nat, k <= K /\ i = .int .i64 ((k : Int) + 1) /\ s = .int .i64 (bef y + d + cum y k) /\ Below w.heap.size w wr) (fun _ i _ => (K + 1 - (intOf i).toNat))
 case atStart => exact ⟨0, Nat.zero_le _, by go_num, ival (by rw [cum]; omega), hb1⟩
 case round =>
  obtain ⟨k, hk, rfl, rfl, hbel⟩ := hrel
  have hcb := cum_bd12 y (k := k) (by omega)
  have hz := hbel.size
  rcases Nat.lt_or_ge k K with hlt | hge
  ·have hs := cum_bd12 y (k := k + 1) (by omega)
   have hS := Lib.hid (show cum y (k + 1) = cum y k + dim y ((k : Int) + 1) from rfl)
   have hdk := dim_bd y ((k : Int) + 1)
   have hlt' : (k : Int) + 1 < (K : Int) + 1 := by omega
   go_wp2_with fail
   refine (daysof_c _ _ _ (by omega) (by omega)).mono ?_
   rintro e w2 ⟨hb2, rfl⟩
   go_wp2
   go_roundw
   case rel => exact ⟨k + 1, by omega, ival (by omega), ival (by rw [hS.out]; omega), below_then hb2 hbel hz⟩
   case measure => simp [intOf]; omega
  ·obtain rfl : k = K := by omega
   have hlt' : ¬ (k : Int) + 1 < (k : Int) + 1 := by omega
   go_wp2
   go_ret2
   exact ⟨congrArg (fun x => Ending.returned (.tuple #[.int .i64 x, .bool true])) (show bef y + d + cum y k = num y ((k : Int) + 1) d by rw [HN.out]; omega), hbel⟩
def RetD3 (y m d : Int) (w : World) (e : Ending) (w' : World) : Prop := e = .returned (.tuple #[.int .i64 y, .int .i64 m, .int .i64 d]) /\ Below w.heap.size w w'
theorem Work.DateIs.year_le {day y m d v : Int} (h : DateIs day y m d) (hv : bef v < day) : v <= y := by
 have f := h.facts
 rcases Int.lt_or_le y v with k | k
 ·have := bef_mono (a := y + 1) (b := v) (by omega); omega
 ·exact k
set_option maxHeartbeats 1000000 in
set_option maxRecDepth 100000 in
theorem dateof_c (day y m d : Int) (w : World) (h1 : 1 <= day) (h2 : day <= 3652059) (h : DateIs day y m d) :
  Calls Tryz.prog 245 #[.int .i64 day] w (RetD3 y m d w) := by
 have HD := Lib.hid h
 obtain ⟨⟨y1, y2⟩, ⟨m1, m2⟩, ⟨d1, d2⟩, d3, b1, b2⟩ := h.facts
 have hn := h.2
 have hg := h.year_le (bef_guess h1)
 obtain ⟨K, hK, rfl⟩ : ∃ K : Nat, K <= 11 /\ m = (K : Int) + 1 := ⟨(m - 1).toNat, by omega, by omega⟩
 rw [num_cum] at hn
 have HN := Lib.hid hn
 have HB := bef_bd (y := y) (by omega) (by omega)
 have hK12 := cum_bd12 y (k := K) (by omega)
 clear h hn
 go_enter Tryz.func245, Tryz.ntmps245
 go_wp2
 go_loop [2] (fun s => ∃ v : Int, 1 <= v /\ v <= y /\ s = .int .i64 v) (fun s => (y - intOf s).toNat)
 case atStart => exact ⟨day / 366 + 1, by omega, hg, rfl⟩
 case round =>
  obtain ⟨v, v1, v2, rfl⟩ := hrel
  rcases Int.lt_or_le v y with hlt | hge
  ·have hm := bef_mono (a := v + 1) (b := y) (by omega)
   have hb3 : bef (v + 1) < day := by omega
   have hv9 : v < 9999 := by omega
   clear hm
   go_wp2_with fail
   refine (before_c _ _ (by omega)).mono ?_
   rintro e w2 ⟨rfl, rfl⟩
   go_wp2
   go_round
   case rel => exact ⟨v + 1, by omega, by omega, rfl⟩
   case measure => simp [intOf]; omega
  ·obtain rfl : v = y := by omega
   have hb3 : ¬ bef (v + 1) < day := by omega
   have hc := cum_bd12 v (k := 0) (by omega)
   by_cases hv9 : v < 9999
   all_goals
    go_wp2_with (go_at_call 274; refine (before_c _ _ (by omega)).mono ?_; rintro e w2 ⟨rfl, rfl⟩)
    go_loopw [3, 4] (fun i s wr => ∃ k : Nat, k <= K /\ i = .int .i64 ((k : Int) + 1) /\ s = .int .i64 (d + cum v K - cum v k) /\ Below w.heap.size w wr) (fun i _ _ => (K + 1 - (intOf i).toNat))
    case atStart => exact ⟨0, Nat.zero_le _, by go_num, ival (by have := HN.out; have : cum v 0 = 0 := rfl; omega), Below.refl _ _⟩
    case round =>
     obtain ⟨k, hk, rfl, rfl, hbel⟩ := hrel
     have hcb := cum_bd12 v (k := k) (by omega)
     have hz := hbel.size
     have hdk := dim_bd v ((k : Int) + 1)
     rcases Nat.lt_or_ge k K with hlt | hge
     ·have hs := cum_le v (i := k + 1) (j := K) (by omega)
      rw [cum] at hs
      have hS := Lib.hid (show cum v (k + 1) = cum v k + dim v ((k : Int) + 1) from rfl)
      have ht : dim v ((k : Int) + 1) < d + cum v K - cum v k := by omega
      have ht2 : dim v ((k : Int) + 1) + cum v k < d + cum v K := by omega
      go_wp2_with fail
      refine (daysof_c _ _ _ (by omega) (by omega)).mono ?_
      rintro e w2 ⟨hb2, rfl⟩
      have hbel2 := below_then hb2 hbel hz
      have hz2 := hbel2.size
      go_wp2_with fail
      refine (daysof_c _ _ _ (by omega) (by omega)).mono ?_
      rintro e w3 ⟨hb3, rfl⟩
      go_wp2
      go_roundw
      case rel => exact ⟨k + 1, by omega, ival (by omega), ival (by rw [hS.out]; omega), below_then hb3 hbel2 hz2⟩
      case measure => simp [intOf]; omega
     ·obtain rfl : k = K := by omega
      have ht : ¬ dim v ((k : Int) + 1) < d + cum v k - cum v k := by omega
      go_wp2_with fail
      refine (daysof_c _ _ _ (by omega) (by omega)).mono ?_
      rintro e w2 ⟨hb2, rfl⟩
      go_wp2
      refine bodyPost_ret (v := .tuple #[.int .i64 v, .int .i64 ((k : Int) + 1), .int .i64 d]) (by simp [results, Tryz.results245, go_sem]; try omega) rfl ⟨rfl, below_then hb2 hbel hz⟩
set_option maxHeartbeats 1000000 in
theorem weekof_c (day y m d : Int) (w : World) (h1 : 1 <= day) (h2 : day <= 3652059) (h : DateIs (thu day) y m d) :
  Calls Tryz.prog 247 #[.int .i64 day] w fun e w' => e = .returned (.tuple #[.int .i64 y, .int .i64 (wk day y)]) /\ Below w.heap.size w w' := by
 have ht := thu_bd h1 h2
 obtain ⟨⟨y1, y2⟩, -, -, -, b1, b2⟩ := h.facts
 have HD := Lib.hid h; clear h
 have hw := wk_bd b1 b2
 have HB := bef_bd (y := y) (by omega) (by omega)
 have e0 : day - (day - 1) % 7 + 3 = thu day := rfl
 have e7 : (thu day - bef y - 1) / 7 + 1 = wk day y := rfl
 have hm : 0 <= (day - 1) % 7 /\ (day - 1) % 7 <= 6 := by omega
 have E0 := Lib.hid e0; have E7 := Lib.hid e7; clear e0 e7
 go_enter Tryz.func247, Tryz.ntmps247
 go_wp2_with fail
 refine (weekday_c _ _ ⟨h1, by omega⟩).mono ?_
 rintro e w1 ⟨rfl, rfl⟩
 go_wp2_with fail
 rw [E0.out]
 refine (dateof_c (thu day) y m d _ ht.1 ht.2 HD.out).mono ?_
 rintro e w1 ⟨rfl, hb1⟩
 go_wp2_with fail
 refine (before_c _ _ (by omega)).mono ?_
 rintro e w2 ⟨rfl, rfl⟩
 go_wp2
 go_ret2
 exact ⟨congrArg (fun x => Ending.returned (.tuple #[.int .i64 y, .int .i64 x])) E7.out, hb1⟩
end Go.Proofs.YtbnjejenejoibaaGreatDoor
namespace Go.Proofs.YtbnjejenejoibaaGreatDoor
open Go.RowKit Limb Nmb
set_option linter.unusedVariables false
set_option linter.unusedSimpArgs false
def RetI (v : Int) (w : World) (e : Ending) (w' : World) : Prop := e = .returned (.int .i64 v) /\ Below w.heap.size w w'
theorem fout_b (n lo hi : Int) (w : World) : Calls Tryz.prog 104 #[.int .i64 n, .int .i64 lo, .int .i64 hi] w fun e w' => w = w' /\ e = .returned (.bool (!decide (lo <= n /\ n <= hi))) := by
 by_cases h : lo <= n /\ n <= hi
 ·rw [decide_eq_true h]; exact out_no n lo hi w h
 ·rw [decide_eq_false h]; exact out_yes n lo hi w h
theorem fenc_fin : ∀ n : Fin 128, Utf8.encode ((n.val : Nat) : Int) = (⟨#[UInt8.ofNat n.val]⟩ : ByteArray) := by decide +kernel
theorem fenc_ascii {g : UInt8} (h : g.toNat < 128) : Utf8.encode ((g.toNat : Nat) : Int) = (⟨#[g]⟩ : ByteArray) := by
 have := fenc_fin ⟨g.toNat, h⟩
 rw [this]
 simp
theorem enc_small {b : Int} (h0 : 0 <= b) (h1 : b < 128) : Utf8.encode b = ⟨#[UInt8.ofNat b.toNat]⟩ := by
 have h : Utf8.encode (((UInt8.ofNat b.toNat).toNat : Nat) : Int) = ⟨#[UInt8.ofNat b.toNat]⟩ := fenc_ascii (by simp; omega)
 have e : (((UInt8.ofNat b.toNat).toNat : Nat) : Int) = b := by simp; omega
 rw [e] at h
 exact h
set_option maxHeartbeats 1000000 in
set_option maxRecDepth 100000 in
theorem markf_c (b : Int) (w : World) (hb : 0 <= b /\ b <= 255) : Calls Tryz.prog 100 #[.int .u8 b] w (RetB (markF b) w) := by
 obtain ⟨b0, b1⟩ := hb
 have hcv : ∀ w, (convert 5 9 (.int .u8 b)).run Tryz.prog w = .ok (.string (Utf8.encode b)) w := fun w => run_convert_int_string _ _ _ _ _ (by kernel_rfl) (by kernel_rfl)
 by_cases h1 : b < 32
 ·rw [show markF b = true by unfold markF; simp [h1]]
  generalize Utf8.encode b = s at hcv
  go_enter Tryz.func100, Tryz.ntmps100
  go_wp2
  go_ret
  exact ⟨rfl, Below.refl _ _⟩
 by_cases h2 : 126 < b
 ·rw [show markF b = true by unfold markF; simp [h2]]
  generalize Utf8.encode b = s at hcv
  go_enter Tryz.func100, Tryz.ntmps100
  go_wp2
  go_ret
  exact ⟨rfl, Below.refl _ _⟩
 have hs := enc_small b0 (by omega)
 have e8 : (((UInt8.ofNat b.toNat).toNat : Nat) : Int) = b := by simp; omega
 have ht : tagL (Utf8.encode b).data.toList = tagC b := by
  rw [hs]
  show ([UInt8.ofNat b.toNat].all fun c => tagC (c.toNat : Int)) = _
  simp only [List.all_cons, List.all_nil, Bool.and_true, e8]
 have hl : inL (Utf8.encode b).data.toList 97 122 = decide (97 <= b /\ b <= 122) := by
  rw [hs]
  show inL [UInt8.ofNat b.toNat] 97 122 = _
  by_cases h : 97 <= b /\ b <= 122
  ·rw [decide_eq_true h]
   exact inL_mk (fun i hi => by
    obtain rfl : i = 0 := by simpa using hi
    show 97 <= (((UInt8.ofNat b.toNat).toNat : Nat) : Int) /\ (((UInt8.ofNat b.toNat).toNat : Nat) : Int) <= 122
    rw [e8]; exact h)
  ·rw [decide_eq_false h]
   exact inL_no (i := 0) (by simp) (fun k => h (by
    have k' : 97 <= (((UInt8.ofNat b.toNat).toNat : Nat) : Int) /\ (((UInt8.ofNat b.toNat).toNat : Nat) : Int) <= 122 := k
    rw [e8] at k'; exact k'))
 have hsz : (Utf8.encode b).size = 1 := by rw [hs]; rfl
 generalize Utf8.encode b = s at hcv ht hl hsz
 have HT := Lib.hid (fun w => istag_c s w (by omega))
 have HL : Hid (∀ w, Calls Tryz.prog 131 #[.string s, .int .u8 97, .int .u8 122] w fun e w' => w = w' /\ e = .returned (.bool (inL s.data.toList 97 122))) := Lib.hid (fun w => inb_c s 97 122 w (by omega))
 rw [ht] at HT
 rw [hl] at HL
 clear hs e8 ht hl hsz
 have hm : markF b = (tagC b || decide (97 <= b /\ b <= 122) || decide (b = 45) || decide (b = 46)) := by unfold markF; simp [h1, h2]
 rw [hm]
 clear hm
 cases ht : tagC b with
 | true =>
  rw [ht] at HT
  clear ht
  go_enter Tryz.func100, Tryz.ntmps100
  go_wp2_with fail
  refine (HT.out _).mono ?_
  rintro e w2 ⟨rfl, hb2⟩
  go_wp2
  go_ret
  exact ⟨rfl, hb2⟩
 | false =>
  rw [ht] at HT
  clear ht
  by_cases h3 : 97 <= b /\ b <= 122
  ·rw [decide_eq_true h3] at HL ⊢
   clear h3
   go_enter Tryz.func100, Tryz.ntmps100
   go_wp2_with fail
   refine (HT.out _).mono ?_
   rintro e w2 ⟨rfl, hb2⟩
   go_wp2_with fail
   refine (HL.out _).mono ?_
   rintro e w3 ⟨rfl, rfl⟩
   go_wp2
   go_ret
   exact ⟨rfl, hb2⟩
  ·rw [decide_eq_false h3] at HL ⊢
   clear h3
   go_enter Tryz.func100, Tryz.ntmps100
   go_wp2_with fail
   refine (HT.out _).mono ?_
   rintro e w2 ⟨rfl, hb2⟩
   go_wp2_with fail
   refine (HL.out _).mono ?_
   rintro e w3 ⟨rfl, rfl⟩
   by_cases h4 : b = 45
   ·subst h4
    go_wp2
    go_ret
    exact ⟨rfl, hb2⟩
   ·have h4' : (b == 45) = false := by simpa using h4
    have H4 := Lib.hid (decide_eq_false h4)
    clear h4
    by_cases h5 : b = 46
    ·subst h5
     go_wp2
     go_ret
     exact ⟨rfl, hb2⟩
    ·have h5' : (b == 46) = false := by simpa using h5
     have H5 := Lib.hid (decide_eq_false h5)
     clear h5
     go_wp2
     go_ret
     exact ⟨by rw [H4.out, H5.out]; rfl, hb2⟩
theorem formw_c (n : Int) (w : World) : Calls Tryz.prog 145 #[.int .i64 n] w fun e w' => w = w' /\ e = .returned (.int .i64 (formW n)) := by
 by_cases h1 : n = 1
 ·subst h1
  go_enter Tryz.func145, Tryz.ntmps145
  go_wp2
  go_ret
  exact ⟨rfl, rfl⟩
 by_cases h3 : n = 3
 ·subst h3
  go_enter Tryz.func145, Tryz.ntmps145
  go_wp2
  go_ret
  exact ⟨rfl, rfl⟩
 by_cases h4 : n = 4
 ·subst h4
  go_enter Tryz.func145, Tryz.ntmps145
  go_wp2
  go_ret
  exact ⟨rfl, rfl⟩
 by_cases h5 : n = 5
 ·subst h5
  go_enter Tryz.func145, Tryz.ntmps145
  go_wp2
  go_ret
  exact ⟨rfl, rfl⟩
 have e : formW n = 0 := by unfold formW; rw [if_neg (by omega), if_neg h4, if_neg h5]
 rw [e]
 have k1 : (n == 1) = false := by simpa using h1
 have k3 : (n == 3) = false := by simpa using h3
 have k4 : (n == 4) = false := by simpa using h4
 have k5 : (n == 5) = false := by simpa using h5
 clear h1 h3 h4 h5 e
 go_enter Tryz.func145, Tryz.ntmps145
 go_wp2
 go_ret
 exact ⟨rfl, rfl⟩
end Go.Proofs.YtbnjejenejoibaaGreatDoor
