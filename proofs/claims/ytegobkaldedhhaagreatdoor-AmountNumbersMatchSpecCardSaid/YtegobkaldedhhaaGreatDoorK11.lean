
/- The walk of the law AmountNumbersMatchSpec. -/
import Derived.Test.YtegobkaldedhhaaGreatDoorK10
namespace Go.Proofs.YtegobkaldedhhaaGreatDoor
open Go.RowKit Limb Nmb Work
set_option linter.unusedVariables false
set_option linter.unusedSimpArgs false

theorem IsNumber_c (kind : Int) (s : ByteArray) (hs : s.size ≤ 9223372036854775807) : ∃ b f, (∀ w, Calls Tryz.prog 14 #[.int .i64 kind, .string s] w (RetBF b f w)) ∧ (∀ w, Calls Tryz.prog 15 #[.int .i64 kind, .string s] w (RetBF b f w)) := by
  cases h : kindB kind with
  | false => exact ⟨_, _, fun w => IsNumber_no kind s w h, fun w => rIsNumber_no kind s w h⟩
  | true => exact ⟨_, _, fun w => IsNumber_yes kind s w hs h, fun w => rIsNumber_yes kind s w hs h⟩
theorem Widened_c (s : ByteArray) (hs : s.size ≤ 9223372036854775807) : ∃ t f, (∀ w, Calls Tryz.prog 18 #[.string s] w (RetSF t f w)) ∧ (∀ w, Calls Tryz.prog 19 #[.string s] w (RetSF t f w)) := by
  cases h : numB 1 s.data.toList with
  | false => exact ⟨_, _, fun w => Widened_no s w hs h, fun w => rWidened_no s w hs h⟩
  | true => exact ⟨_, _, fun w => Widened_yes s w h, fun w => rWidened_yes s w h⟩
set_option maxHeartbeats 2000000 in
set_option maxRecDepth 100000 in
theorem law_numbers (kind : Int) (s body : ByteArray) (w : World) (hs : s.size ≤ 9223372036854775807) (hb : body.size ≤ 140737488355328) (ht : Tab w) :
    Calls Tryz.prog 4 #[.int .i64 kind, .string s, .string body] w fun e w' => e = .returned (.bool true) ∧ Below w.heap.size w w' := by
  obtain ⟨b, f, hA, hB⟩ := IsNumber_c kind s hs
  obtain ⟨t, g, hS, hT⟩ := Widened_c s hs
  have HL := Lib.hid (fun w ht => Completed_c kind body w ht)
  have HR := Lib.hid (fun w => rCompleted_c kind body w hb)
  obtain ⟨p1, hp⟩ : ∃ p, cmpS kind body.data.toList = p := ⟨_, rfl⟩
  obtain ⟨p2, hq⟩ : ∃ p, cmpF kind body.data.toList = p := ⟨_, rfl⟩
  rw [hp, hq] at HL HR
  have HA := Lib.hid hA; have HB := Lib.hid hB; have HS := Lib.hid hS; have HT := Lib.hid hT
  clear hA hB hS hT hp hq hs hb
  go_enter Tryz.func4, Tryz.ntmps4
  go_wp2_with fail
  refine (HA.out _).mono ?_
  rintro e w1 ⟨rfl, b1⟩
  go_wp2_with fail
  refine (HB.out _).mono ?_
  rintro e w2 ⟨rfl, c2⟩
  have b2 := below_then c2 b1 b1.size
  go_wp2_with fail
  refine (HL.out _ (ht.below b2)).mono ?_
  rintro e w3 ⟨rfl, c3⟩
  have b3 := below_then c3 b2 b2.size
  go_wp2_with fail
  refine (HR.out _).mono ?_
  rintro e w4 ⟨rfl, c4⟩
  have b4 := below_then c4 b3 b3.size
  go_wp2_with fail
  refine (HS.out _).mono ?_
  rintro e w5 ⟨rfl, c5⟩
  have b5 := below_then c5 b4 b4.size
  go_wp2_with fail
  refine (HT.out _).mono ?_
  rintro e w6 ⟨rfl, c6⟩
  have b6 := below_then c6 b5 b5.size
  go_wp2_with fail
  refine (awake_c _).mono ?_
  rintro e w9 ⟨rfl, c9⟩
  have b9 := below_then c9 b6 b6.size
  go_wp2
  go_ret
  exact ⟨rfl, b9⟩
end Go.Proofs.YtegobkaldedhhaaGreatDoor
