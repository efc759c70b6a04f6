
/- The walk of the law AmountRoundsMatchSpec. -/
import Derived.Test.YtegabimiegdcjaaA7
import Derived.Test.YtegabimiegdcjaaRX
import Derived.Test.YtegabimiegdcjaaA15
import Derived.Test.YtegabimiegdcjaaR12
namespace Go.Proofs.Ytegabimiegdcjaa
open Go.RowKit Limb
set_option linter.unusedVariables false

set_option maxHeartbeats 4000000 in
set_option maxRecDepth 100000 in
theorem law_rounds (u p v q r way : Int) (w : World) (hu : -9223372036854775808 ≤ u ∧ u ≤ 9223372036854775807) (hp : -9223372036854775808 ≤ p ∧ p ≤ 9223372036854775807) (hv : -9223372036854775808 ≤ v ∧ v ≤ 9223372036854775807) (hq : -9223372036854775808 ≤ q ∧ q ≤ 9223372036854775807) :
    Calls Try.prog 4 #[.agg #[.int .i64 u, .int .i64 p], .agg #[.int .i64 v, .int .i64 q], .int .i64 r, .int .i64 way] w fun e w' => e = .returned (.bool true) ∧ Below w.heap.size w w' := by
  have HU := Lib.hid hu; have HP := Lib.hid hp; have HV := Lib.hid hv; have HQ := Lib.hid hq
  clear hu hp hv hq
  obtain ⟨w0, hw0⟩ : ∃ w0, w0 = (w.alloc (.cells #[.int .i64 u, .int .i64 p] 23)).alloc (.cells #[.int .i64 v, .int .i64 q] 23) := ⟨_, rfl⟩
  have hA4 : w0.heap[w.heap.size]? = some (.cells #[.int .i64 u, .int .i64 p] 23 (0, 0)) := by rw [hw0]; exact heap_old (heap_new _ _ rfl) _
  have hB4 : w0.heap[w.heap.size + 1]? = some (.cells #[.int .i64 v, .int .i64 q] 23 (0, 0)) := by rw [hw0]; exact heap_new _ _ (by simp)
  have hbel4 : Below w.heap.size w w0 := by rw [hw0]; go_grown
  obtain ⟨⟨s1, s2, s3⟩, hs⟩ : ∃ R, roundedR u p r way = R := ⟨_, rfl⟩
  obtain ⟨⟨t1, t2, t3⟩, ht⟩ : ∃ R, quotR u p v q r way = R := ⟨_, rfl⟩
  have HS := Lib.hid hs; have HT := Lib.hid ht
  clear hs ht
  go_enter Try.func4, Try.ntmps4
  go_wp2_with fail
  rw [← hw0]
  clear hw0
  refine (rounded_c u p r way _).mono ?_
  rw [HS.out]
  rintro e w5 ⟨rfl, hb5⟩
  have hA5 := heap_old (heap_below hA4 hb5) (.cells #[.int .i64 s1, .int .i64 s2] 23)
  have hB5 := heap_old (heap_below hB4 hb5) (.cells #[.int .i64 s1, .int .i64 s2] 23)
  have hX5 := heap_new w5 (.cells #[.int .i64 s1, .int .i64 s2] 23) rfl
  have hlt5 := lt_heap (heap_below hB4 hb5)
  have hbel5a := below_then hb5 hbel4 hbel4.size
  have hbel5 := hbel5a.alloc hbel5a.size (.cells #[.int .i64 s1, .int .i64 s2] 23)
  clear hA4 hB4 hbel4 hb5
  obtain ⟨a0, a1, -, -, -⟩ := box2 hA5
  generalize hgen0 : w5.heap.size = L at *
  generalize hgen1 : w5.alloc (.cells #[.int .i64 s1, .int .i64 s2] 23) = w6 at *
  go_wp2_with fail
  clear hbel5a hgen0 hgen1
  refine (rrounded_c u p r way _).mono ?_
  rw [HS.out]
  rintro e w7 ⟨rfl, hb7⟩
  have hA7 := heap_old (heap_below hA5 hb7) (.cells #[.int .i64 s1, .int .i64 s2] 23)
  have hB7 := heap_old (heap_below hB5 hb7) (.cells #[.int .i64 s1, .int .i64 s2] 23)
  have hX7 := heap_old (heap_below hX5 hb7) (.cells #[.int .i64 s1, .int .i64 s2] 23)
  have hY7 := heap_new w7 (.cells #[.int .i64 s1, .int .i64 s2] 23) rfl
  have hlt7 := lt_heap (heap_below hX5 hb7)
  have hbel7a := below_then hb7 hbel5 hbel5.size
  have hbel7 := hbel7a.alloc hbel7a.size (.cells #[.int .i64 s1, .int .i64 s2] 23)
  clear hA5 hB5 hX5 hbel5 hb7 a0 a1
  obtain ⟨x0, x1, -, -, -⟩ := box2 hX7
  obtain ⟨y0, y1, -, -, -⟩ := box2 hY7
  obtain ⟨a0, a1, -, -, -⟩ := box2 hA7
  obtain ⟨b0, b1, -, -, -⟩ := box2 hB7
  generalize hgen : w7.heap.size = M at *
  generalize hgen2 : w7.alloc (.cells #[.int .i64 s1, .int .i64 s2] 23) = w8 at *
  go_wp2_with fail
  refine (pquot_c u p v q r way _ HU.out HP.out HV.out HQ.out).mono ?_
  rw [HT.out]
  rintro e w9 ⟨rfl, hb9⟩
  have hA9 := heap_below hA7 hb9
  have hB9 := heap_below hB7 hb9
  have hX9 := heap_below hX7 hb9
  have hY9 := heap_below hY7 hb9
  have hbel9 := below_then hb9 hbel7 hbel7.size
  clear hA7 hB7 hX7 hY7 hbel7 hbel7a hb9 x0 x1 y0 y1 a0 a1 b0 b1 hgen hgen2
  obtain ⟨x0, x1, x2, x3, x4⟩ := box2 hX9
  have hA10 : ((w9.setCell ⟨L, 0, none⟩ (.int .i64 t1)).setCell ⟨L, 1, none⟩ (.int .i64 t2)).heap[w.heap.size]? = some (.cells #[.int .i64 u, .int .i64 p] 23 (0, 0)) := heap_far2 hA9 (by omega)
  have hB10 : ((w9.setCell ⟨L, 0, none⟩ (.int .i64 t1)).setCell ⟨L, 1, none⟩ (.int .i64 t2)).heap[w.heap.size + 1]? = some (.cells #[.int .i64 v, .int .i64 q] 23 (0, 0)) := heap_far2 hB9 (by omega)
  have hY10 : ((w9.setCell ⟨L, 0, none⟩ (.int .i64 t1)).setCell ⟨L, 1, none⟩ (.int .i64 t2)).heap[M]? = some (.cells #[.int .i64 s1, .int .i64 s2] 23 (0, 0)) := heap_far2 hY9 (by omega)
  have hX10 : ((w9.setCell ⟨L, 0, none⟩ (.int .i64 t1)).setCell ⟨L, 1, none⟩ (.int .i64 t2)).heap[L]? = some (.cells #[.int .i64 t1, .int .i64 t2] 23 (0, 0)) := heap_store2 hX9
  have hbel10 : Below w.heap.size w ((w9.setCell ⟨L, 0, none⟩ (.int .i64 t1)).setCell ⟨L, 1, none⟩ (.int .i64 t2)) := (hbel9.setCell (p := ⟨L, 0, none⟩) (by dsimp only; omega) _).setCell (p := ⟨L, 1, none⟩) (by dsimp only; omega) _
  obtain ⟨a0, a1, -, -, -⟩ := box2 hA10
  obtain ⟨b0, b1, -, -, -⟩ := box2 hB10
  go_wp2_with fail
  generalize (w9.setCell ⟨L, 0, none⟩ (.int .i64 t1)).setCell ⟨L, 1, none⟩ (.int .i64 t2) = w10 at *
  refine (rquot_c u p v q r way _).mono ?_
  rw [HT.out]
  rintro e w11 ⟨rfl, hb11⟩
  have hX11 := heap_below hX10 hb11
  have hY11 := heap_below hY10 hb11
  have hbel11 := below_then hb11 hbel10 hbel10.size
  clear hA9 hB9 hX9 hY9 hbel9 hA10 hB10 hX10 hY10 hbel10 hb11 x0 x1 x2 x3 x4 a0 a1 b0 b1
  obtain ⟨y0, y1, y2, y3, y4⟩ := box2 hY11
  have hX12 : ((w11.setCell ⟨M, 0, none⟩ (.int .i64 t1)).setCell ⟨M, 1, none⟩ (.int .i64 t2)).heap[L]? = some (.cells #[.int .i64 t1, .int .i64 t2] 23 (0, 0)) := heap_far2 hX11 (by omega)
  have hY12 : ((w11.setCell ⟨M, 0, none⟩ (.int .i64 t1)).setCell ⟨M, 1, none⟩ (.int .i64 t2)).heap[M]? = some (.cells #[.int .i64 t1, .int .i64 t2] 23 (0, 0)) := heap_store2 hY11
  have hbel12 : Below w.heap.size w ((w11.setCell ⟨M, 0, none⟩ (.int .i64 t1)).setCell ⟨M, 1, none⟩ (.int .i64 t2)) := (hbel11.setCell (p := ⟨M, 0, none⟩) (by dsimp only; omega) _).setCell (p := ⟨M, 1, none⟩) (by dsimp only; omega) _
  obtain ⟨x0, x1, -, -, -⟩ := box2 hX12
  obtain ⟨u0, u1, -, -, -⟩ := box2 hY12
  go_wp2_with fail
  refine (awake_c _).mono ?_
  rintro e w13 ⟨rfl, hb13⟩
  have hbel13 := below_then hb13 hbel12 hbel12.size
  go_wp2
  go_ret
  exact ⟨rfl, hbel13⟩

end Go.Proofs.Ytegabimiegdcjaa
