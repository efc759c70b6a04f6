
/- The walks of days and dates: the program's. -/
import Derived.Test.YtegobkaldedhhaaDoorD1
import Derived.Test.YtegobkaldedhhaaDoorD2
namespace Go.Proofs.YtegobkaldedhhaaDoor
open Go.RowKit Limb Work
set_option linter.unusedVariables false
set_option linter.unusedSimpArgs false

theorem beqT {a b : Int} (h : a = b) : (a == b) = true := beq_iff_eq.2 h
theorem beqF {a b : Int} (h : ¬ a = b) : (a == b) = false := beq_eq_false_iff_ne.2 h
theorem leap_c (y : Int) (w : World) (h : 1 ≤ y ∧ y ≤ 10000) : Calls Tryd.prog 109 #[.int .i64 y] w fun e w' => w = w' ∧ e = .returned (.bool (leapB y)) := by
  obtain ⟨h1, h2⟩ := h
  by_cases a : y % 4 = 0
  · by_cases b : y % 100 = 0
    · by_cases c : y % 400 = 0
      · have e : leapB y = true := decide_eq_true ⟨a, Or.inr c⟩
        rw [e]
        have a := beqT a; have b := beqT b; have c := beqT c; clear e
        go_enter Tryd.func109, Tryd.ntmps109
        go_wp2
        go_ret
        exact ⟨rfl, rfl⟩
      · have e : leapB y = false := decide_eq_false (fun h => h.2.elim (fun h => h b) c)
        rw [e]
        have a := beqT a; have b := beqT b; have c := beqF c; clear e
        go_enter Tryd.func109, Tryd.ntmps109
        go_wp2
        go_ret
        exact ⟨rfl, rfl⟩
    · have e : leapB y = true := decide_eq_true ⟨a, Or.inl b⟩
      rw [e]
      have a := beqT a; have b := beqF b; clear e
      go_enter Tryd.func109, Tryd.ntmps109
      go_wp2
      go_ret
      exact ⟨rfl, rfl⟩
  · have e : leapB y = false := decide_eq_false (fun h => a h.1)
    rw [e]
    have a := beqF a; clear e
    go_enter Tryd.func109, Tryd.ntmps109
    go_wp2
    go_ret
    exact ⟨rfl, rfl⟩

theorem dim_two {y : Int} : dim y 2 = if leapB y = true then 29 else 28 := rfl
set_option maxHeartbeats 1000000 in
set_option maxRecDepth 100000 in
theorem daysof_c (y m : Int) (w : World) (h : 1 ≤ y ∧ y ≤ 10000) (hm : 1 ≤ m ∧ m ≤ 12) : Calls Tryd.prog 60 #[.int .i64 y, .int .i64 m] w fun e w' => Below w.heap.size w w' ∧ e = .returned (.int .i64 (dim y m)) := by
  have HY := Lib.hid h
  have hm12 : m = 1 ∨ m = 2 ∨ m = 3 ∨ m = 4 ∨ m = 5 ∨ m = 6 ∨ m = 7 ∨ m = 8 ∨ m = 9 ∨ m = 10 ∨ m = 11 ∨ m = 12 := by omega
  clear h hm
  rcases hm12 with rfl | rfl | rfl | rfl | rfl | rfl | rfl | rfl | rfl | rfl | rfl | rfl
  case inr.inl =>
    cases hl : leapB y with
    | true =>
      rw [show dim y 2 = 29 by rw [dim_two, if_pos hl]]
      have HL := Lib.hid hl; clear hl
      go_enter Tryd.func60, Tryd.ntmps60
      go_wp2_with (go_at_call 109; refine (leap_c _ _ HY.out).mono ?_; rw [HL.out]; rintro e w1 ⟨rfl, rfl⟩)
      go_ret
      exact ⟨by go_grown, rfl⟩
    | false =>
      rw [show dim y 2 = 28 by rw [dim_two, if_neg (by rw [hl]; simp)]]
      have HL := Lib.hid hl; clear hl
      have hB : ∀ w : World, (Instr.build 122 #[(0, .int .i64 31), (1, .int .i64 28), (2, .int .i64 31), (3, .int .i64 30), (4, .int .i64 31), (5, .int .i64 30), (6, .int .i64 31), (7, .int .i64 31), (8, .int .i64 30), (9, .int .i64 31), (10, .int .i64 30), (11, .int .i64 31)]).run Tryd.prog w = .ok (.agg #[.int .i64 31, .int .i64 28, .int .i64 31, .int .i64 30, .int .i64 31, .int .i64 30, .int .i64 31, .int .i64 31, .int .i64 30, .int .i64 31, .int .i64 30, .int .i64 31]) w := fun w => run_build w _ _ _ (by kernel_rfl)
      go_enter Tryd.func60, Tryd.ntmps60
      go_wp2_with (go_at_call 109; refine (leap_c _ _ HY.out).mono ?_; rw [HL.out]; rintro e w1 ⟨rfl, rfl⟩)
      simp [Instr.index, run_underlying Tryd.underlying122, asIntOf, go_sem]
      go_wp2
      go_ret
      exact ⟨by go_grown, rfl⟩
  all_goals
    have hB : ∀ w : World, (Instr.build 122 #[(0, .int .i64 31), (1, .int .i64 28), (2, .int .i64 31), (3, .int .i64 30), (4, .int .i64 31), (5, .int .i64 30), (6, .int .i64 31), (7, .int .i64 31), (8, .int .i64 30), (9, .int .i64 31), (10, .int .i64 30), (11, .int .i64 31)]).run Tryd.prog w = .ok (.agg #[.int .i64 31, .int .i64 28, .int .i64 31, .int .i64 30, .int .i64 31, .int .i64 30, .int .i64 31, .int .i64 31, .int .i64 30, .int .i64 31, .int .i64 30, .int .i64 31]) w := fun w => run_build w _ _ _ (by kernel_rfl)
    go_enter Tryd.func60, Tryd.ntmps60
    go_wp2
    simp [Instr.index, run_underlying Tryd.underlying122, asIntOf, go_sem]
    go_wp2
    go_ret
    exact ⟨by go_grown, rfl⟩

theorem before_c (y : Int) (w : World) (h : 1 ≤ y ∧ y ≤ 10000) : Calls Tryd.prog 103 #[.int .i64 y] w fun e w' => w = w' ∧ e = .returned (.int .i64 (bef y)) := by
  obtain ⟨h1, h2⟩ := h
  go_enter Tryd.func103, Tryd.ntmps103
  go_wp2
  go_ret
  exact ⟨rfl, rfl⟩
end Go.Proofs.YtegobkaldedhhaaDoor
