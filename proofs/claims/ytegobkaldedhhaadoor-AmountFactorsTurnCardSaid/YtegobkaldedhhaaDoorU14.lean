
/- The walk of the law AmountFactorsTurn. -/
import Derived.Test.YtegobkaldedhhaaDoorU13
namespace Go.Proofs.YtegobkaldedhhaaDoor
open Go.RowKit Limb
set_option linter.unusedVariables false
set_option linter.unusedSimpArgs false

theorem rat_back {us : List Unt} {x y : List UInt8} {X Y F : Int} (h : ratR us x y = (X, Y, F)) : ratR us y x = (Y, X, F) := by
  have h1 := rat_swap us x y
  have h2 := rat_swap us y x
  rw [h] at h1 h2
  have e : ratR us y x = ((ratR us y x).1, (ratR us y x).2.1, (ratR us y x).2.2) := rfl
  rw [e, ← h1.1, ← h1.2, h2.2]
theorem rat_wrong {us : List Unt} {x y : List UInt8} {X Y F : Int} (h : ratR us x y = (X, Y, F)) (hc : chkU us ≠ 0) : F = chkU us := by
  rw [rat_fault (by rw [fac_chk hc]; exact hc), fac_chk hc] at h
  injection h with _ h
  injection h with _ h
  exact h.symm
theorem rat_there {us : List Unt} {x y : List UInt8} {X Y F : Int} (h : ratR us x y = (X, Y, F)) (hc : chkU us = 0) (h5 : F ≠ 5) : ratR us x x = (1, 1, 0) := by
  cases hi : idxU us x with
  | some i => exact rat_self hc hi
  | none =>
    have e : facF us x y = 5 := fac_name hc (.inl (by unfold foundU; rw [hi]; rfl))
    rw [rat_fault (by rw [e]; decide), e] at h
    injection h with _ h
    injection h with _ h
    exact absurd h.symm h5

set_option maxHeartbeats 4000000 in
set_option maxRecDepth 100000 in
theorem law_turn (us : List Unt) (x y : ByteArray) (A : Option Addr) (n c : Nat) (w : World) (hU : Uns w A n us) (hn : n ≤ 9223372036854775807) :
    Calls Tryd.prog 3 #[.slice A n c, .string x, .string y] w fun e w' => e = .returned (.bool true) ∧ Below w.heap.size w w' := by
  obtain ⟨⟨X, Y, F⟩, hR⟩ : ∃ R, ratR us x.data.toList y.data.toList = R := ⟨_, rfl⟩
  have HR := Lib.hid hR
  have HB := Lib.hid (rat_back hR)
  have HU := Lib.hid hU
  clear hR hU
  go_enter Tryd.func3, Tryd.ntmps3
  go_wp2_with fail
  refine (Factor_c us x y A n c _ HU.out hn).mono ?_
  rw [HR.out]
  rintro e w1 ⟨rfl, hb1⟩
  have hX1 := heap_new w1 (.cells #[.int .i64 X, .int .i64 Y] 24) rfl
  have hB1 := hb1.alloc hb1.size (.cells #[.int .i64 X, .int .i64 Y] 24)
  have hz1 := hb1.size
  generalize hgen0 : w1.heap.size = L at *
  generalize hgen1 : w1.alloc (.cells #[.int .i64 X, .int .i64 Y] 24) = w2 at *
  clear hb1
  go_wp2_with fail
  clear hgen0 hgen1
  refine (Factor_c us y x A n c _ (HU.out.below hB1) hn).mono ?_
  rw [HB.out]
  rintro e w3 ⟨rfl, hb3⟩
  have hX3 := heap_old (heap_below hX1 hb3) (.cells #[.int .i64 Y, .int .i64 X] 24)
  have hY3 := heap_new w3 (.cells #[.int .i64 Y, .int .i64 X] 24) rfl
  have hB3a := below_then hb3 hB1 hB1.size
  have hB3 := hB3a.alloc hB3a.size (.cells #[.int .i64 Y, .int .i64 X] 24)
  have hz3 := hB3a.size
  generalize hgen0 : w3.heap.size = M at *
  generalize hgen1 : w3.alloc (.cells #[.int .i64 Y, .int .i64 X] 24) = w4 at *
  clear hb3 hB1 hX1 hB3a
  go_wp2_with fail
  clear hgen0 hgen1
  refine (rchkunits_c us A n c _ (HU.out.below hB3) hn).mono ?_
  rintro e w5 ⟨rfl, hb5⟩
  have hX5 := heap_below hX3 hb5
  have hY5 := heap_below hY3 hb5
  have hB5 := below_then hb5 hB3 hB3.size
  clear hb5 hX3 hY3 hB3
  obtain ⟨x0, x1, -, -, -⟩ := box2 hX5
  obtain ⟨y0, y1, -, -, -⟩ := box2 hY5
  by_cases hc : chkU us = 0
  case neg =>
    have hc' : (chkU us != 0) = true := by simpa using hc
    have hF : (F != 0) = true := by rw [rat_wrong HR.out hc]; exact hc'
    clear hc
    go_wp2_with (go_at_call 11; refine (awake_c _).mono ?_; rintro e w6 ⟨rfl, hb6⟩)
    go_ret
    exact ⟨rfl, below_then hb6 hB5 hB5.size⟩
  have HC := Lib.hid hc
  rw [hc]
  clear hc
  by_cases h5 : F = 5
  · subst h5
    go_wp2_with (go_at_call 11; refine (awake_c _).mono ?_; rintro e w6 ⟨rfl, hb6⟩)
    go_ret
    exact ⟨rfl, below_then hb6 hB5 hB5.size⟩
  · have h5' : (F == 5) = false := by simpa using h5
    have HS := Lib.hid (rat_there HR.out HC.out h5)
    clear h5
    cases hF : (F == 0) with
    | true =>
      go_wp2_with (first
        | (go_at_call 11; refine (awake_c _).mono ?_; rintro e w6 ⟨rfl, hb6⟩; have hB6 := below_then hb6 hB5 hB5.size)
        | (go_at_call 9; refine (Factor_c us x x A n c _ (HU.out.below hB6) hn).mono ?_; rw [HS.out]; rintro e w7 ⟨rfl, hb7⟩; have hB7 := below_then hb7 hB6 hB6.size; have hz7 := hB7.size))
      go_ret
      exact ⟨rfl, by go_grown⟩
    | false =>
      go_wp2_with (first
        | (go_at_call 11; refine (awake_c _).mono ?_; rintro e w6 ⟨rfl, hb6⟩; have hB6 := below_then hb6 hB5 hB5.size)
        | (go_at_call 9; refine (Factor_c us x x A n c _ (HU.out.below hB6) hn).mono ?_; rw [HS.out]; rintro e w7 ⟨rfl, hb7⟩; have hB7 := below_then hb7 hB6 hB6.size; have hz7 := hB7.size))
      go_ret
      exact ⟨rfl, by go_grown⟩
end Go.Proofs.YtegobkaldedhhaaDoor
