
/- The walk of amount.ReadImplied. -/
import Derived.Test.YtmeefinnefanpaaDoorA7
import Derived.Deep.RegionHeld3
namespace Go.Proofs.YtmeefinnefanpaaDoor
open Go.RowKit Limb
set_option linter.unusedVariables false
set_option linter.unusedSimpArgs false

/-- ReadImplied in plain lists. -/
def readImp (l : List UInt8) (a : Int) : Int × Int × Int :=
  if ¬ (0 ≤ a ∧ a ≤ 9) then (0, 0, 1)
  else if decide (30 < l.length) || !digB (if l.head? == some 45 then l.tail else l) then (0, 0, 10)
  else if numL (if l.head? == some 45 then l.tail else l) ≤ 1000000000000000 then
    (if l.head? == some 45 then -(numL (if l.head? == some 45 then l.tail else l) : Int) else (numL (if l.head? == some 45 then l.tail else l) : Int), a, 0)
  else (0, 0, 1)
theorem RetD.of {r r' : Int × Int × Int} {w w' : World} {e : Ending} (h : RetD r w e w') (hr : r = r') : RetD r' w e w' := by subst hr; exact h
theorem made_nat {n : Nat} : made (n : Int) 0 = if n ≤ 1000000000000000 then ((n : Int), 0, 0) else (0, 0, 1) := by
  unfold made
  rw [Int.natAbs_natCast]

set_option maxHeartbeats 4000000 in
set_option maxRecDepth 100000 in
theorem wreadimp_c (s : ByteArray) (a : Int) (w : World) (hs : s.size ≤ 9223372036854775807) :
    Calls Tryd.prog 6 #[.string s, .int .i64 a] w (RetD (readImp s.data.toList a) w) := by
  by_cases h1 : 0 ≤ a ∧ a ≤ 9
  case neg =>
    have HO := Lib.hid (fun w => out_yes a 0 9 w h1)
    rw [show readImp s.data.toList a = (0, 0, 1) from if_pos h1]
    clear h1
    go_enter Tryd.func6, Tryd.ntmps6
    go_wp2_with fail
    have hX := heap_new w (.cells #[.int .i64 0, .int .i64 0] 23) rfl
    have hb0 : Below w.heap.size w (w.alloc (.cells #[.int .i64 0, .int .i64 0] 23)) := by go_grown
    generalize w.alloc (.cells #[.int .i64 0, .int .i64 0] 23) = W at hX hb0 ⊢
    obtain ⟨g0, g1, g2, g3, g4⟩ := box2 hX
    refine (HO.out _).mono ?_
    rintro e w1 ⟨rfl, rfl⟩
    go_wp2
    exact bodyPost_ret (v := .tuple #[.agg #[.int .i64 0, .int .i64 0], .int .i64 1]) (by simp [results, Tryd.results6, go_sem, g0, g1]) rfl ⟨rfl, by go_grown⟩
  have HO := Lib.hid (fun w => out_no a 0 9 w h1)
  have hr : readImp s.data.toList a = if decide (30 < s.data.toList.length) || !digB (if s.data.toList.head? == some 45 then s.data.toList.tail else s.data.toList) then (0, 0, 10)
      else if numL (if s.data.toList.head? == some 45 then s.data.toList.tail else s.data.toList) ≤ 1000000000000000 then
        (if s.data.toList.head? == some 45 then -(numL (if s.data.toList.head? == some 45 then s.data.toList.tail else s.data.toList) : Int) else (numL (if s.data.toList.head? == some 45 then s.data.toList.tail else s.data.toList) : Int), a, 0)
      else (0, 0, 1) := if_neg (fun h => h h1)
  have HC := Lib.hid (fun w => cutp_c s 45 w hs)
  obtain ⟨neg, hneg⟩ : ∃ b, hasB s 45 = b := ⟨_, rfl⟩
  have hneg' : (s.data.toList.head? == some 45) = neg := hneg
  have hsl : s.data.toList.length = s.size := by simp
  rw [hneg', hsl] at hr
  have HR := Lib.hid hr
  have HN := Lib.hid hneg
  clear hr h1 hneg hneg'
  go_enter Tryd.func6, Tryd.ntmps6
  go_wp2_with fail
  have hX := heap_new w (.cells #[.int .i64 0, .int .i64 0] 23) rfl
  have hb0 : Below w.heap.size w (w.alloc (.cells #[.int .i64 0, .int .i64 0] 23)) := by go_grown
  generalize w.alloc (.cells #[.int .i64 0, .int .i64 0] 23) = W at hX hb0 ⊢
  obtain ⟨g0, g1, g2, g3, g4⟩ := box2 hX
  refine (HO.out _).mono ?_
  rintro e w1 ⟨rfl, rfl⟩
  go_wp2_with fail
  refine (HC.out _).mono ?_
  rintro e w2 ⟨rfl, t, rfl, ht⟩
  rw [HN.out] at ht ⊢
  have hr := HR.out
  rw [← ht] at hr
  have hts : t.size ≤ s.size := by
    have h1 : t.data.toList.length = t.size := by simp
    rw [← h1, ht, ← hsl]
    split
    · simp
    · exact Nat.le_refl _
  clear ht hsl
  have HR := Lib.hid hr
  clear hr
  by_cases hl : 30 < s.size
  · have hl' : (30 : Int) < (s.size : Int) := by omega
    have HE := Lib.hid (show readImp s.data.toList a = (0, 0, 10) by rw [HR.out, decide_eq_true hl]; rfl)
    clear hl
    go_wp2
    exact bodyPost_ret (v := .tuple #[.agg #[.int .i64 0, .int .i64 0], .int .i64 10]) (by simp [results, Tryd.results6, go_sem, g0, g1]) rfl (RetD.of (r := (0, 0, 10)) ⟨rfl, by go_grown⟩ HE.out.symm)
  have hl' : ¬ (30 : Int) < (s.size : Int) := by omega
  have HG := Lib.hid (fun w => isdig_c t w (by omega))
  cases hg : digB t.data.toList with
  | false =>
    rw [hg] at HG
    have HE := Lib.hid (show readImp s.data.toList a = (0, 0, 10) by rw [HR.out, hg]; simp)
    clear hg
    go_wp2_with fail
    refine (HG.out _).mono ?_
    rintro e w3 ⟨rfl, rfl⟩
    go_wp2
    exact bodyPost_ret (v := .tuple #[.agg #[.int .i64 0, .int .i64 0], .int .i64 10]) (by simp [results, Tryd.results6, go_sem, g0, g1]) rfl (RetD.of (r := (0, 0, 10)) ⟨rfl, by go_grown⟩ HE.out.symm)
  | true =>
    rw [hg] at HG
    have hin : inB (t.data.toList ++ (⟨#[]⟩ : ByteArray).data.toList) 48 57 = true := by
      unfold digB at hg
      simp at hg
      simpa using hg.2
    have HRD := Lib.hid (fun w => read_c false t ⟨#[]⟩ w hin (by show t.size + 0 ≤ 40; omega))
    have hrr : readR false (t.data.toList ++ (⟨#[]⟩ : ByteArray).data.toList) ((⟨#[]⟩ : ByteArray).size : Int) = if numL t.data.toList ≤ 1000000000000000 then ((numL t.data.toList : Int), 0, 0) else (0, 0, 1) := by
      unfold readR
      rw [if_neg (by decide), show t.data.toList ++ (⟨#[]⟩ : ByteArray).data.toList = t.data.toList by simp]
      exact made_nat
    have hff := HR.out
    rw [hg, decide_eq_false hl] at hff
    obtain ⟨n, hn⟩ : ∃ n, numL t.data.toList = n := ⟨_, rfl⟩
    rw [hn] at hff hrr
    by_cases hb : n ≤ 1000000000000000
    case neg =>
      rw [if_neg hb] at hrr
      rw [if_neg (by decide), if_neg hb] at hff
      rw [hrr] at HRD
      have HE := Lib.hid hff
      clear hg hin hrr hff hn hb hl
      go_wp2_with fail
      refine (HG.out _).mono ?_
      rintro e w3 ⟨rfl, rfl⟩
      go_wp2_with fail
      refine (HRD.out _).mono ?_
      rintro e w4 ⟨rfl, hb4⟩
      have hX4 := heap_below hX hb4
      have hB4 := below_then hb4 hb0 hb0.size
      clear g0 g1 g2 g3 g4 hX hb0 hb4
      obtain ⟨g0, g1, g2, g3, g4⟩ := box2 hX4
      have hXe : (((w4.setCell ⟨w.heap.size, 0, none⟩ (.int .i64 0)).setCell ⟨w.heap.size, 1, none⟩ (.int .i64 0)).alloc (.cells #[.int .i64 0, .int .i64 0] 23)).heap[w.heap.size]? = some (.cells #[.int .i64 0, .int .i64 0] 23 (0, 0)) := by
        have := heap_old (heap_set (heap_set hX4 0 (.int .i64 0)) 1 (.int .i64 0)) (.cells #[.int .i64 0, .int .i64 0] 23)
        simpa using this
      obtain ⟨e0, e1, -, -, -⟩ := box2 hXe
      go_wp2
      exact bodyPost_ret (v := .tuple #[.agg #[.int .i64 0, .int .i64 0], .int .i64 1]) (by simp [results, Tryd.results6, go_sem, g0, g1, e0, e1]) rfl (RetD.of (r := (0, 0, 1)) ⟨rfl, by go_grown⟩ HE.out.symm)
    · rw [if_pos hb] at hrr
      rw [if_neg (by decide), if_pos hb] at hff
      rw [hrr] at HRD
      have HE := Lib.hid hff
      clear hg hin hrr hff hn hl
      go_wp2_with fail
      refine (HG.out _).mono ?_
      rintro e w3 ⟨rfl, rfl⟩
      go_wp2_with fail
      refine (HRD.out _).mono ?_
      rintro e w4 ⟨rfl, hb4⟩
      have hX4 := heap_below hX hb4
      have hB4 := below_then hb4 hb0 hb0.size
      clear g0 g1 g2 g3 g4 hX hb0 hb4
      obtain ⟨g0, g1, g2, g3, g4⟩ := box2 hX4
      cases neg with
      | true =>
        have hXe : (((w4.setCell ⟨w.heap.size, 0, none⟩ (.int .i64 (-(n : Int)))).setCell ⟨w.heap.size, 1, none⟩ (.int .i64 a)).alloc (.cells #[.int .i64 (-(n : Int)), .int .i64 a] 23)).heap[w.heap.size]? = some (.cells #[.int .i64 (-(n : Int)), .int .i64 a] 23 (0, 0)) := by
          have := heap_old (heap_set (heap_set hX4 0 (.int .i64 (-(n : Int)))) 1 (.int .i64 a)) (.cells #[.int .i64 (-(n : Int)), .int .i64 a] 23)
          simpa using this
        obtain ⟨e0, e1, -, -, -⟩ := box2 hXe
        go_wp2_with fail
        exact bodyPost_ret (v := .tuple #[.agg #[.int .i64 (-(n : Int)), .int .i64 a], .int .i64 0]) (by simp [results, Tryd.results6, go_sem, g0, g1, e0, e1]) rfl (RetD.of (r := ((-(n : Int)), a, 0)) ⟨rfl, by go_grown⟩ (by rw [HE.out]; rfl))
      | false =>
        have hXe : (((w4.setCell ⟨w.heap.size, 0, none⟩ (.int .i64 (n : Int))).setCell ⟨w.heap.size, 1, none⟩ (.int .i64 a)).alloc (.cells #[.int .i64 (n : Int), .int .i64 a] 23)).heap[w.heap.size]? = some (.cells #[.int .i64 (n : Int), .int .i64 a] 23 (0, 0)) := by
          have := heap_old (heap_set (heap_set hX4 0 (.int .i64 (n : Int))) 1 (.int .i64 a)) (.cells #[.int .i64 (n : Int), .int .i64 a] 23)
          simpa using this
        obtain ⟨e0, e1, -, -, -⟩ := box2 hXe
        go_wp2_with fail
        exact bodyPost_ret (v := .tuple #[.agg #[.int .i64 (n : Int), .int .i64 a], .int .i64 0]) (by simp [results, Tryd.results6, go_sem, g0, g1, e0, e1]) rfl (RetD.of (r := ((n : Int), a, 0)) ⟨rfl, by go_grown⟩ (by rw [HE.out]; rfl))
end Go.Proofs.YtmeefinnefanpaaDoor
