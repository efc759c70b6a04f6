
/- The walk of the law AmountDaysMatchSpec. -/
import Derived.Test.YtegobkaldedhhaaDoorE6
namespace Go.Proofs.YtegobkaldedhhaaDoor
open Go.RowKit Limb Work
set_option linter.unusedVariables false
set_option linter.unusedSimpArgs false

theorem DateOf_c (day : Int) (w : World) : ∃ a b c f, (∀ w, Calls Tryd.prog 14 #[.int .i64 day] w (RetD4 a b c f w)) ∧ (∀ w, Calls Tryd.prog 15 #[.int .i64 day] w (RetD4 a b c f w)) ∧ (dayB day = true → DateIs day a b c) := by
  cases h : dayB day with
  | false => exact ⟨0, 0, 0, 1, fun w => DateOf_no day w h, fun w => rDateOf_no day w h, fun h => by cases h⟩
  | true =>
    have hd := dayB_yes h
    obtain ⟨y, m, d, hD⟩ := date_ex hd.1 hd.2
    exact ⟨y, m, d, 0, fun w => DateOf_yes day y m d w hd.1 hd.2 hD, fun w => rDateOf_yes day y m d w hd.1 hd.2 hD, fun _ => hD⟩
theorem DayText_c (day form : Int) : ∃ s f, (∀ w, Tab w → Calls Tryd.prog 16 #[.int .i64 day, .int .i64 form] w (RetSF s f w)) ∧ (∀ w, Tab w → Calls Tryd.prog 17 #[.int .i64 day, .int .i64 form] w (RetSF s f w)) := by
  cases hf : formB form with
  | false => exact ⟨_, _, fun w _ => DayText_kind day form w hf, fun w _ => rDayText_kind day form w hf⟩
  | true =>
    cases h : dayB day with
    | false => exact ⟨_, _, fun w _ => DayText_range day form w hf h, fun w _ => rDayText_range day form w hf h⟩
    | true =>
      have hd := dayB_yes h
      obtain ⟨y, m, d, hD⟩ := date_ex hd.1 hd.2
      obtain ⟨z, zm, zd, hZ⟩ := thu_ex hd.1 hd.2
      exact ⟨_, _, fun w ht => DayText_ok day form y m d z zm zd w hf hd.1 hd.2 hD hZ ht, fun w ht => rDayText_ok day form y m d z zm zd w hf hd.1 hd.2 hD hZ ht⟩

set_option maxHeartbeats 2000000 in
set_option maxRecDepth 100000 in
theorem law_days (year month date day form months : Int) (w : World) (hy : -9223372036854775808 ≤ year ∧ year ≤ 9223372036854775807) (ht : Tab w) :
    Calls Tryd.prog 4 #[.int .i64 year, .int .i64 month, .int .i64 date, .int .i64 day, .int .i64 form, .int .i64 months] w fun e w' => e = .returned (.bool true) ∧ Below w.heap.size w w' := by
  obtain ⟨a, b, c, f, hA, hB, hC⟩ := DateOf_c day w
  obtain ⟨s, g, hS, hT⟩ := DayText_c day form
  have HL := Lib.hid (fun w => later_c day months a b c w hC)
  have HR := Lib.hid (fun w => rlater_c day months a b c w hC)
  obtain ⟨⟨p1, p2⟩, hp⟩ : ∃ p, laterF day months a b c = p := ⟨_, rfl⟩
  rw [hp] at HL HR
  obtain ⟨q1, hq1⟩ : ∃ q, dayR year month date = q := ⟨_, rfl⟩
  obtain ⟨q2, hq2⟩ : ∃ q, (if dateB year month date = true then (0 : Int) else 1) = q := ⟨_, rfl⟩
  have HO := Lib.hid (fun w => DayOf_c year month date w hy)
  have HP := Lib.hid (fun w => rDayOf_c year month date w hy)
  rw [hq1, hq2] at HO HP
  have HA := Lib.hid hA; have HB := Lib.hid hB; have HS := Lib.hid hS; have HT := Lib.hid hT
  clear hA hB hC hS hT hp hq1 hq2 hy
  go_enter Tryd.func4, Tryd.ntmps4
  go_wp2_with fail
  refine (HO.out _).mono ?_
  rintro e w1 ⟨rfl, b1⟩
  go_wp2_with fail
  refine (HP.out _).mono ?_
  rintro e w2 ⟨rfl, c2⟩
  have b2 := below_then c2 b1 b1.size
  go_wp2_with fail
  refine (HA.out _).mono ?_
  rintro e w3 ⟨rfl, c3⟩
  have b3 := below_then c3 b2 b2.size
  go_wp2_with fail
  refine (HB.out _).mono ?_
  rintro e w4 ⟨rfl, c4⟩
  have b4 := below_then c4 b3 b3.size
  go_wp2_with fail
  refine (HS.out _ (ht.below b4)).mono ?_
  rintro e w5 ⟨rfl, c5⟩
  have b5 := below_then c5 b4 b4.size
  go_wp2_with fail
  refine (HT.out _ (ht.below b5)).mono ?_
  rintro e w6 ⟨rfl, c6⟩
  have b6 := below_then c6 b5 b5.size
  go_wp2_with fail
  refine (HL.out _).mono ?_
  rintro e w7 ⟨rfl, c7⟩
  have b7 := below_then c7 b6 b6.size
  go_wp2_with fail
  refine (HR.out _).mono ?_
  rintro e w8 ⟨rfl, c8⟩
  have b8 := below_then c8 b7 b7.size
  go_wp2_with fail
  refine (awake_c _).mono ?_
  rintro e w9 ⟨rfl, c9⟩
  have b9 := below_then c9 b8 b8.size
  go_wp2
  go_ret
  exact ⟨rfl, b9⟩
end Go.Proofs.YtegobkaldedhhaaDoor
