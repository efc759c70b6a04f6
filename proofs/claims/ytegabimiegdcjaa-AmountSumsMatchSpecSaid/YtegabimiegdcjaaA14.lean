
/- The walk of the law AmountSumsMatchSpec. -/
import Derived.Test.YtegabimiegdcjaaA9
import Derived.Test.YtegabimiegdcjaaRX
import Derived.Deep.RegionHeld3
import Derived.Test.YtegabimiegdcjaaR9
import Derived.Test.YtegabimiegdcjaaR10
import Derived.Test.YtegabimiegdcjaaA13
namespace Go.Proofs.Ytegabimiegdcjaa
open Go.RowKit Limb
set_option linter.unusedVariables false

def cmpD (u p v q : Int) : Int × Int := if decB u p = true ∧ decB v q = true then ((scaled u p 9 - scaled v q 9).sign, 0) else (0, 1)
theorem cmp_c (u p v q : Int) (w : World) (hu : -9223372036854775808 ≤ u ∧ u ≤ 9223372036854775807) (hp : -9223372036854775808 ≤ p ∧ p ≤ 9223372036854775807) (hv : -9223372036854775808 ≤ v ∧ v ≤ 9223372036854775807) (hq : -9223372036854775808 ≤ q ∧ q ≤ 9223372036854775807) :
    Calls Try.prog 7 #[.agg #[.int .i64 u, .int .i64 p], .agg #[.int .i64 v, .int .i64 q]] w (RetIF (cmpD u p v q).1 (cmpD u p v q).2 w) := by
  unfold cmpD
  by_cases h : decB u p = true ∧ decB v q = true
  · rw [if_pos h]; exact cmp_ok u p v q w h.1 h.2
  · rw [if_neg h]; exact cmp_bad u p v q w (by cases h1 : decB u p <;> cases h2 : decB v q <;> simp_all) hu hp hv hq
theorem rcmp_c (u p v q : Int) (w : World) :
    Calls Try.prog 8 #[.agg #[.int .i64 u, .int .i64 p], .agg #[.int .i64 v, .int .i64 q]] w (RetIF (cmpD u p v q).1 (cmpD u p v q).2 w) := by
  unfold cmpD
  by_cases h : decB u p = true ∧ decB v q = true
  · rw [if_pos h]; exact rcmp_ok u p v q w h.1 h.2
  · rw [if_neg h]; exact rcmp_bad u p v q w (by cases h1 : decB u p <;> cases h2 : decB v q <;> simp_all)
def chkD (u p : Int) : Int := if decB u p = true then 0 else 1
theorem chk_c (u p : Int) (w : World) : Calls Try.prog 9 #[.agg #[.int .i64 u, .int .i64 p]] w fun e w' => e = .returned (.int .i64 (chkD u p)) ∧ Below w.heap.size w w' := by
  unfold chkD
  by_cases h : decB u p = true
  · rw [if_pos h]; exact chk_ok u p w h
  · rw [if_neg h]; exact chk_bad u p w (by simpa using h)
theorem rchk_c (u p : Int) (w : World) : Calls Try.prog 10 #[.agg #[.int .i64 u, .int .i64 p]] w fun e w' => e = .returned (.int .i64 (chkD u p)) ∧ Below w.heap.size w w' := by
  unfold chkD
  by_cases h : decB u p = true
  · rw [if_pos h]; exact rchk_ok u p w h
  · rw [if_neg h]; exact rchk_bad u p w (by simpa using h)
theorem rtimes_c (u p v q : Int) (w : World) :
    Calls Try.prog 14 #[.agg #[.int .i64 u, .int .i64 p], .agg #[.int .i64 v, .int .i64 q]] w (RetD (timesR u p v q) w) := by
  by_cases h : decB u p = true ∧ decB v q = true
  · exact rtimes_ok u p v q w h.1 h.2
  · have h' : decB u p = false ∨ decB v q = false := by cases h1 : decB u p <;> cases h2 : decB v q <;> simp_all
    rw [timesR_bad h']; exact rtimes_bad u p v q w h'
theorem ptimes_c (u p v q : Int) (w : World) (hu : -9223372036854775808 ≤ u ∧ u ≤ 9223372036854775807) (hp : -9223372036854775808 ≤ p ∧ p ≤ 9223372036854775807) (hv : -9223372036854775808 ≤ v ∧ v ≤ 9223372036854775807) (hq : -9223372036854775808 ≤ q ∧ q ≤ 9223372036854775807) :
    Calls Try.prog 13 #[.agg #[.int .i64 u, .int .i64 p], .agg #[.int .i64 v, .int .i64 q]] w (RetD (timesR u p v q) w) := by
  by_cases h : decB u p = true ∧ decB v q = true
  · exact ptimes_ok u p v q w h.1 h.2
  · have h' : decB u p = false ∨ decB v q = false := by cases h1 : decB u p <;> cases h2 : decB v q <;> simp_all
    rw [timesR_bad h']; exact ptimes_bad u p v q w h' hu hp hv hq

set_option maxHeartbeats 4000000 in
set_option maxRecDepth 100000 in
theorem law_sums (u p v q : Int) (ds : List (Int × Int)) (A : Option Addr) (n c : Nat) (w : World) (hd : Decs w A n ds) (hn : n ≤ 9223372036854775807) (hu : -9223372036854775808 ≤ u ∧ u ≤ 9223372036854775807) (hp : -9223372036854775808 ≤ p ∧ p ≤ 9223372036854775807) (hv : -9223372036854775808 ≤ v ∧ v ≤ 9223372036854775807) (hq : -9223372036854775808 ≤ q ∧ q ≤ 9223372036854775807) :
    Calls Try.prog 3 #[.agg #[.int .i64 u, .int .i64 p], .agg #[.int .i64 v, .int .i64 q], .slice A n c] w fun e w' => e = .returned (.bool true) ∧ Below w.heap.size w w' := by
  have HU := Lib.hid hu; have HP := Lib.hid hp; have HV := Lib.hid hv; have HQ := Lib.hid hq
  clear hu hp hv hq
  obtain ⟨w0, hw0⟩ : ∃ w0, w0 = (w.alloc (.cells #[.int .i64 u, .int .i64 p] 23)).alloc (.cells #[.int .i64 v, .int .i64 q] 23) := ⟨_, rfl⟩
  have hA : w0.heap[w.heap.size]? = some (.cells #[.int .i64 u, .int .i64 p] 23 (0, 0)) := by rw [hw0]; exact heap_old (heap_new _ _ rfl) _
  have hB : w0.heap[w.heap.size + 1]? = some (.cells #[.int .i64 v, .int .i64 q] 23 (0, 0)) := by rw [hw0]; exact heap_new _ _ (by simp)
  have hbel : Below w.heap.size w w0 := by rw [hw0]; go_grown
  go_enter Try.func3, Try.ntmps3
  go_wp2_with fail
  rw [← hw0]
  clear hw0
  obtain ⟨⟨n1, f1⟩, hc⟩ : ∃ R, cmpD u p v q = R := ⟨_, rfl⟩
  obtain ⟨⟨s1, s2, s3⟩, hs⟩ : ∃ R, sumR ds = R := ⟨_, rfl⟩
  obtain ⟨⟨t1, t2, t3⟩, ht⟩ : ∃ R, timesR u p v q = R := ⟨_, rfl⟩
  obtain ⟨k1, hk⟩ : ∃ R, chkD u p = R := ⟨_, rfl⟩
  have HC := Lib.hid hc; have HS := Lib.hid hs; have HT := Lib.hid ht; have HK := Lib.hid hk
  clear hc hs ht hk
  refine (cmp_c u p v q _ HU.out HP.out HV.out HQ.out).mono ?_
  rw [HC.out]
  rintro e w1 ⟨rfl, hb1⟩
  have hA1 := heap_below hA hb1
  have hB1 := heap_below hB hb1
  have hbel1 := below_then hb1 hbel hbel.size
  clear hA hB hbel hb1
  obtain ⟨a0, a1, -, -, -⟩ := box2 hA1
  obtain ⟨b0, b1, -, -, -⟩ := box2 hB1
  go_wp2_with fail
  refine (rcmp_c u p v q _).mono ?_
  rw [HC.out]
  rintro e w2 ⟨rfl, hb2⟩
  have hA2 := heap_below hA1 hb2
  have hB2 := heap_below hB1 hb2
  have hbel2 := below_then hb2 hbel1 hbel1.size
  clear hA1 hB1 hbel1 hb2 a0 a1 b0 b1
  have hz2 := hbel2.size
  obtain ⟨a0, a1, -, -, -⟩ := box2 hA2
  go_wp2_with fail
  go_region_held3 (fun w' => w'.cell? ⟨w.heap.size, 0, none⟩ = some (.int .i64 u) ∧ w'.cell? ⟨w.heap.size, 1, none⟩ = some (.int .i64 p))
    (first | (with_reducible exact ⟨a30, a31⟩) | (with_reducible exact ⟨a40, a41⟩) | (exact ⟨a0, a1⟩))
    (first
      | (go_at_call 9; refine (chk_c u p _).mono ?_; rw [HK.out]; rintro e w3 ⟨rfl, hb3⟩; (have hA3 := heap_below (w := w2.drew) hA2 hb3); (have hB3 := heap_below (w := w2.drew) hB2 hb3); (have hbel3 := below_then hb3 hbel2.drew hz2); obtain ⟨a30, a31, -, -, -⟩ := box2 hA3)
      | (go_at_call 10; refine (rchk_c u p _).mono ?_; rw [HK.out]; rintro e w4 ⟨rfl, hb4⟩; (have hA4 := heap_below hA3 hb4); (have hB4 := heap_below hB3 hb4); (have hbel4 := below_then hb4 hbel3 hbel3.size); obtain ⟨a40, a41, -, -, -⟩ := box2 hA4))
  clear hA2 hB2 hbel2 hb3 hb4 a0 a1 a30 a31 a40 a41 hA3 hB3 hbel3 hz2
  have hz4 := hbel4.size
  go_wp2_with fail
  refine (sum_c' ds A n c _ (hd.below hbel4) hn).mono ?_
  rw [HS.out]
  rintro e w5 ⟨rfl, hb5⟩
  have hA5 := heap_old (heap_below hA4 hb5) (.cells #[.int .i64 s1, .int .i64 s2] 23)
  have hB5 := heap_old (heap_below hB4 hb5) (.cells #[.int .i64 s1, .int .i64 s2] 23)
  have hX5 := heap_new w5 (.cells #[.int .i64 s1, .int .i64 s2] 23) rfl
  have hlt5 := lt_heap (heap_below hB4 hb5)
  have hbel5a := below_then hb5 hbel4 hz4
  have hbel5 := hbel5a.alloc hbel5a.size (.cells #[.int .i64 s1, .int .i64 s2] 23)
  clear hA4 hB4 hbel4 hb5 hz4
  go_wp2_with fail
  generalize w5.heap.size = L at hX5 hlt5 ⊢
  generalize w5.alloc (.cells #[.int .i64 s1, .int .i64 s2] 23) = w6 at *
  clear hbel5a
  refine (rsum_c ds A n c _ (hd.below hbel5) hn).mono ?_
  rw [HS.out]
  rintro e w7 ⟨rfl, hb7⟩
  have hA7 := heap_old (heap_below hA5 hb7) (.cells #[.int .i64 s1, .int .i64 s2] 23)
  have hB7 := heap_old (heap_below hB5 hb7) (.cells #[.int .i64 s1, .int .i64 s2] 23)
  have hX7 := heap_old (heap_below hX5 hb7) (.cells #[.int .i64 s1, .int .i64 s2] 23)
  have hY7 := heap_new w7 (.cells #[.int .i64 s1, .int .i64 s2] 23) rfl
  have hlt7 := lt_heap (heap_below hX5 hb7)
  have hbel7a := below_then hb7 hbel5 hbel5.size
  have hbel7 := hbel7a.alloc hbel7a.size (.cells #[.int .i64 s1, .int .i64 s2] 23)
  clear hA5 hB5 hX5 hbel5 hb7
  obtain ⟨x0, x1, -, -, -⟩ := box2 hX7
  obtain ⟨y0, y1, -, -, -⟩ := box2 hY7
  obtain ⟨a0, a1, -, -, -⟩ := box2 hA7
  obtain ⟨b0, b1, -, -, -⟩ := box2 hB7
  generalize hgen : w7.heap.size = M at *
  generalize hgen2 : w7.alloc (.cells #[.int .i64 s1, .int .i64 s2] 23) = w8 at *
  go_wp2_with fail
  refine (ptimes_c u p v q _ HU.out HP.out HV.out HQ.out).mono ?_
  rw [HT.out]
  rintro e w9 ⟨rfl, hb9⟩
  have hA9 := heap_below hA7 hb9
  have hB9 := heap_below hB7 hb9
  have hX9 := heap_below hX7 hb9
  have hY9 := heap_below hY7 hb9
  have hbel9 := below_then hb9 hbel7 hbel7.size
  clear hA7 hB7 hX7 hY7 hbel7 hbel7a hb9 x0 x1 y0 y1 a0 a1 b0 b1 hgen hgen2
  obtain ⟨x0, x1, x2, x3, x4⟩ := box2 hX9
  have hA10 : ((w9.setCell ⟨L, 0, none⟩ (.int .i64 t1)).setCell ⟨L, 1, none⟩ (.int .i64 t2)).heap[w.heap.size]? = some (.cells #[.int .i64 u, .int .i64 p] 23 (0, 0)) := heap_far2 hA9 (by omega)
  have hB10 : ((w9.setCell ⟨L, 0, none⟩ (.int .i64 t1)).setCell ⟨L, 1, none⟩ (.int .i64 t2)).heap[w.heap.size + 1]? = some (.cells #[.int .i64 v, .int .i64 q] 23 (0, 0)) := heap_far2 hB9 (by omega)
  have hY10 : ((w9.setCell ⟨L, 0, none⟩ (.int .i64 t1)).setCell ⟨L, 1, none⟩ (.int .i64 t2)).heap[M]? = some (.cells #[.int .i64 s1, .int .i64 s2] 23 (0, 0)) := heap_far2 hY9 (by omega)
  have hX10 : ((w9.setCell ⟨L, 0, none⟩ (.int .i64 t1)).setCell ⟨L, 1, none⟩ (.int .i64 t2)).heap[L]? = some (.cells #[.int .i64 t1, .int .i64 t2] 23 (0, 0)) := heap_store2 hX9
  have hbel10 : Below w.heap.size w ((w9.setCell ⟨L, 0, none⟩ (.int .i64 t1)).setCell ⟨L, 1, none⟩ (.int .i64 t2)) := (hbel9.setCell (p := ⟨L, 0, none⟩) (by dsimp only; omega) _).setCell (p := ⟨L, 1, none⟩) (by dsimp only; omega) _
  obtain ⟨a0, a1, -, -, -⟩ := box2 hA10
  obtain ⟨b0, b1, -, -, -⟩ := box2 hB10
  go_wp2_with fail
  generalize (w9.setCell ⟨L, 0, none⟩ (.int .i64 t1)).setCell ⟨L, 1, none⟩ (.int .i64 t2) = w10 at *
  refine (rtimes_c u p v q _).mono ?_
  rw [HT.out]
  rintro e w11 ⟨rfl, hb11⟩
  have hX11 := heap_below hX10 hb11
  have hY11 := heap_below hY10 hb11
  have hbel11 := below_then hb11 hbel10 hbel10.size
  clear hA9 hB9 hX9 hY9 hbel9 hA10 hB10 hX10 hY10 hbel10 hb11 x0 x1 x2 x3 x4 a0 a1 b0 b1
  obtain ⟨y0, y1, y2, y3, y4⟩ := box2 hY11
  have hX12 : ((w11.setCell ⟨M, 0, none⟩ (.int .i64 t1)).setCell ⟨M, 1, none⟩ (.int .i64 t2)).heap[L]? = some (.cells #[.int .i64 t1, .int .i64 t2] 23 (0, 0)) := heap_far2 hX11 (by omega)
  have hY12 : ((w11.setCell ⟨M, 0, none⟩ (.int .i64 t1)).setCell ⟨M, 1, none⟩ (.int .i64 t2)).heap[M]? = some (.cells #[.int .i64 t1, .int .i64 t2] 23 (0, 0)) := heap_store2 hY11
  have hbel12 : Below w.heap.size w ((w11.setCell ⟨M, 0, none⟩ (.int .i64 t1)).setCell ⟨M, 1, none⟩ (.int .i64 t2)) := (hbel11.setCell (p := ⟨M, 0, none⟩) (by dsimp only; omega) _).setCell (p := ⟨M, 1, none⟩) (by dsimp only; omega) _
  obtain ⟨x0, x1, -, -, -⟩ := box2 hX12
  obtain ⟨u0, u1, -, -, -⟩ := box2 hY12
  go_wp2_with fail
  refine (awake_c _).mono ?_
  rintro e w13 ⟨rfl, hb13⟩
  have hbel13 := below_then hb13 hbel12 hbel12.size
  go_wp2
  go_ret
  exact ⟨rfl, hbel13⟩

end Go.Proofs.Ytegabimiegdcjaa
