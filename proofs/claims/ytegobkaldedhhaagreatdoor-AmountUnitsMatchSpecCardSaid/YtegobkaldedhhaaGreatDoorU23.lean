
/- The walk of the law AmountUnitsMatchSpec. -/
import Derived.Test.YtegobkaldedhhaaGreatDoorU21
import Derived.Test.YtegobkaldedhhaaGreatDoorU22
namespace Go.Proofs.YtegobkaldedhhaaGreatDoor
open Go.RowKit Limb
set_option linter.unusedVariables false
set_option linter.unusedSimpArgs false

set_option maxHeartbeats 4000000 in
set_option maxRecDepth 100000 in
theorem law_units (us : List Unt) (x y : ByteArray) (u p r v : Int) (A : Option Addr) (n c : Nat) (w : World) (hU : Uns w A n us) (hn : n ≤ 9223372036854775807) (hu : -9223372036854775808 ≤ u ∧ u ≤ 9223372036854775807) (hp : -9223372036854775808 ≤ p ∧ p ≤ 9223372036854775807) :
    Calls Tryz.prog 3 #[.slice A n c, .agg #[.int .i64 u, .int .i64 p], .string x, .string y, .int .i64 r, .int .i64 v] w fun e w' => e = .returned (.bool true) ∧ Below w.heap.size w w' := by
  obtain ⟨⟨X, Y, F⟩, hR⟩ : ∃ R, ratR us x.data.toList y.data.toList = R := ⟨_, rfl⟩
  obtain ⟨⟨t1, t2, t3⟩, hT⟩ : ∃ R, inuR us x.data.toList y.data.toList u p r v = R := ⟨_, rfl⟩
  have HR := Lib.hid hR
  have HT := Lib.hid hT
  have HU := Lib.hid hU
  have HH := Lib.hid hu
  have HP := Lib.hid hp
  clear hR hU hT hu hp
  go_enter Tryz.func3, Tryz.ntmps3
  go_wp2_with fail
  obtain ⟨w0, hw0⟩ : ∃ w0, w0 = w.alloc (.cells #[.int .i64 u, .int .i64 p] 24) := ⟨_, rfl⟩
  have hP0 : w0.heap[w.heap.size]? = some (.cells #[.int .i64 u, .int .i64 p] 24 (0, 0)) := by rw [hw0]; exact heap_new _ _ rfl
  have hB0 : Below w.heap.size w w0 := by rw [hw0]; go_grown
  rw [← hw0]
  clear hw0
  refine (Factor_c us x y A n c _ (HU.out.below hB0) hn).mono ?_
  rw [HR.out]
  rintro e w1 ⟨rfl, hb1⟩
  have hP1 := heap_old (heap_below hP0 hb1) (.cells #[.int .i64 X, .int .i64 Y] 26)
  have hX1 := heap_new w1 (.cells #[.int .i64 X, .int .i64 Y] 26) rfl
  have hB1a := below_then hb1 hB0 hB0.size
  have hB1 := hB1a.alloc hB1a.size (.cells #[.int .i64 X, .int .i64 Y] 26)
  have hz1 := lt_heap (heap_below hP0 hb1)
  generalize hgen0 : w1.heap.size = L at *
  generalize hgen1 : w1.alloc (.cells #[.int .i64 X, .int .i64 Y] 26) = w2 at *
  clear hb1 hB1a hB0 hP0
  go_wp2_with fail
  clear hgen0 hgen1
  refine (rFactor_c us x y A n c _ (HU.out.below hB1) hn).mono ?_
  rw [HR.out]
  rintro e w3 ⟨rfl, hb3⟩
  have hP3 := heap_old (heap_below hP1 hb3) (.cells #[.int .i64 X, .int .i64 Y] 26)
  have hX3 := heap_old (heap_below hX1 hb3) (.cells #[.int .i64 X, .int .i64 Y] 26)
  have hY3 := heap_new w3 (.cells #[.int .i64 X, .int .i64 Y] 26) rfl
  have hB3a := below_then hb3 hB1 hB1.size
  have hB3 := hB3a.alloc hB3a.size (.cells #[.int .i64 X, .int .i64 Y] 26)
  have hz3 := lt_heap (heap_below hX1 hb3)
  generalize hgen0 : w3.heap.size = M at *
  generalize hgen1 : w3.alloc (.cells #[.int .i64 X, .int .i64 Y] 26) = w4 at *
  clear hb3 hB3a hB1 hP1 hX1
  go_wp2_with fail
  clear hgen0 hgen1
  refine (chkunits_c us A n c _ (HU.out.below hB3) hn).mono ?_
  rintro e w5 ⟨rfl, hb5⟩
  have hP5 := heap_below hP3 hb5
  have hX5 := heap_below hX3 hb5
  have hY5 := heap_below hY3 hb5
  have hB5 := below_then hb5 hB3 hB3.size
  clear hb5 hP3 hX3 hY3 hB3
  go_wp2_with fail
  refine (rchkunits_c us A n c _ (HU.out.below hB5) hn).mono ?_
  rintro e w6 ⟨rfl, hb6⟩
  have hP6 := heap_below hP5 hb6
  have hX6 := heap_below hX5 hb6
  have hY6 := heap_below hY5 hb6
  have hB6 := below_then hb6 hB5 hB5.size
  clear hb6 hP5 hX5 hY5 hB5
  obtain ⟨p0, p1, -, -, -⟩ := box2 hP6
  obtain ⟨x0, x1, -, -, -⟩ := box2 hX6
  obtain ⟨y0, y1, -, -, -⟩ := box2 hY6
  go_wp2_with fail
  clear x0 x1 y0 y1 hX6 hY6
  refine (inunit_c us x y u p r v A n c _ (HU.out.below hB6) hn HH.out HP.out).mono ?_
  rw [HT.out]
  rintro e w7 ⟨rfl, hb7⟩
  have hP7 := heap_old (heap_below hP6 hb7) (.cells #[.int .i64 t1, .int .i64 t2] 24)
  have hX7 := heap_new w7 (.cells #[.int .i64 t1, .int .i64 t2] 24) rfl
  have hB7a := below_then hb7 hB6 hB6.size
  have hB7 := hB7a.alloc hB7a.size (.cells #[.int .i64 t1, .int .i64 t2] 24)
  clear p0 p1 hP6 hB6 hb7
  obtain ⟨p0, p1, -, -, -⟩ := box2 hP7
  generalize hgen0 : w7.heap.size = I at *
  generalize hgen1 : w7.alloc (.cells #[.int .i64 t1, .int .i64 t2] 24) = w8 at *
  clear hB7a
  go_wp2_with fail
  clear hgen0 hgen1
  refine (rinunit_c us x y u p r v A n c _ (HU.out.below hB7) hn).mono ?_
  rw [HT.out]
  rintro e w9 ⟨rfl, hb9⟩
  have hX9 := heap_old (heap_below hX7 hb9) (.cells #[.int .i64 t1, .int .i64 t2] 24)
  have hY9 := heap_new w9 (.cells #[.int .i64 t1, .int .i64 t2] 24) rfl
  have hB9a := below_then hb9 hB7 hB7.size
  have hB9 := hB9a.alloc hB9a.size (.cells #[.int .i64 t1, .int .i64 t2] 24)
  clear p0 p1 hP7 hX7 hB7 hb9
  obtain ⟨x0, x1, -, -, -⟩ := box2 hX9
  obtain ⟨y0, y1, -, -, -⟩ := box2 hY9
  generalize hgen0 : w9.heap.size = J at *
  generalize hgen1 : w9.alloc (.cells #[.int .i64 t1, .int .i64 t2] 24) = w10 at *
  clear hB9a
  go_wp2_with fail
  refine (awake_c _).mono ?_
  rintro e w11 ⟨rfl, hb11⟩
  have hB11 := below_then hb11 hB9 hB9.size
  go_wp2
  go_ret
  exact ⟨rfl, hB11⟩
end Go.Proofs.YtegobkaldedhhaaGreatDoor
