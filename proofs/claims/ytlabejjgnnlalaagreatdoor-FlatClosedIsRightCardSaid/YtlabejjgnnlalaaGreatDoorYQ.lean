/- The walk of the program's Fewest. (Printed by genY5.py.) The walks of the program's sumOf and SumOf. (Printed by genY6.py.) The walk of the program's SumOf. (Printed by genY7.py.) Plain: the sum of a column's values is the sum of its rows. -/
import Derived.Test.YtlabejjgnnlalaaGreatDoorY3
import Derived.Test.YtlabejjgnnlalaaGreatDoorA7
import Derived.Test.YtlabejjgnnlalaaGreatDoorRH
-- merged: Y5 Y6 Y7 YQ
namespace Go.Proofs.YtlabejjgnnlalaaGreatDoor
open Go.RowKit Limb Nmb Work
set_option linter.unusedVariables false
set_option linter.unusedSimpArgs false
def fewF (z : Int) : Nat → Int × Int × Int
  | 0 => made z 0
  | p + 1 => if z % 10 = 0 then fewF (z / 10) p else made z ((p + 1 : Nat) : Int)
theorem few_step {z : Int} {p : Nat} (h : z % 10 = 0) : fewF z (p + 1) = fewF (z / 10) p := if_pos h
theorem few_stop {z : Int} {p : Nat} (h : ¬ z % 10 = 0) : fewF z (p + 1) = made z ((p + 1 : Nat) : Int) := if_neg h
theorem mod_abs (z : Int) : ((z.natAbs % 10 : Nat) : Int) = 0 ↔ z % 10 = 0 := by omega
theorem div_abs {z : Int} (h : z % 10 = 0) : (z < 0 → -((z.natAbs / 10 : Nat) : Int) = z / 10) ∧ (¬ z < 0 → ((z.natAbs / 10 : Nat) : Int) = z / 10) := by omega
theorem sgn_nat (n : Nat) : ((n : Int).sign = 0 ↔ n = 0) := by rw [Int.sign_eq_zero_iff_zero]; omega
set_option maxHeartbeats 4000000 in
set_option maxRecDepth 100000 in
theorem fewest_c (w : World) {s : Bool} {A : Option Addr} {n c : Nat} {z : Int} (p : Nat) (hp : p ≤ 9) (h : Big .u32 150 B32 w s A n c z) (hz : -10000000000000000000000000000000 ≤ z ∧ z ≤ 10000000000000000000000000000000) :
    Calls Tryz.prog 76 #[.agg #[.bool s, .slice A n c], .int .i64 (p : Int)] w (RetD (fewF z p) w) := by
  obtain ⟨R, hR⟩ : ∃ x, fewF z p = x := ⟨_, rfl⟩
  have HR := Lib.hid hR
  rw [hR]
  have HZ := Lib.hid hz
  have HG := Lib.hid h
  clear hR h hz
  have hN0 := heap_old (heap_new w (.cells #[.bool s, .slice A n c] 105) rfl) (.cells #[.int .i64 0, .int .i64 0] 69)
  have hR0 := heap_new (w.alloc (.cells #[.bool s, .slice A n c] 105)) (.cells #[.int .i64 0, .int .i64 0] 69) (g := w.heap.size + 1) (by simp)
  have hB0 : Below w.heap.size w ((w.alloc (.cells #[.bool s, .slice A n c] 105)).alloc (.cells #[.int .i64 0, .int .i64 0] 69)) := by go_grown
  go_enter Tryz.func76, Tryz.ntmps76
  obtain ⟨N, hN⟩ : ∃ N, w.heap.size = N := ⟨_, rfl⟩
  go_wp2_with fail
  refine (of_c 10 _ (by decide) (by decide)).mono ?_
  rintro _ w2 ⟨s1, A1, n1, c1, rfl, hten, hb2⟩
  have HN2 := Lib.hid (heap_old (heap_below hN0 hb2) (.cells #[.bool s1, .slice A1 n1 c1] 105))
  have HR2 := Lib.hid (heap_old (heap_below hR0 hb2) (.cells #[.bool s1, .slice A1 n1 c1] 105))
  have HT2 := Lib.hid (heap_new w2 (.cells #[.bool s1, .slice A1 n1 c1] 105) rfl)
  have hB2 := below_then hb2 hB0 hB0.size
  have HB2 : Hid (Below w.heap.size w (w2.alloc (.cells #[.bool s1, .slice A1 n1 c1] 105))) := Lib.hid (hB2.alloc hB2.size _)
  have HG2 := Lib.hid ((HG.out.below hB2).alloc (.cells #[.bool s1, .slice A1 n1 c1] 105))
  have HTB := Lib.hid (hten.alloc (.cells #[.bool s1, .slice A1 n1 c1] 105))
  have hNT : w.heap.size + 1 < w2.heap.size := lt_heap (heap_below hR0 hb2)
  clear hN0 hR0 hB0 hten hb2 hB2
  go_upto_region 2 with fail
  obtain ⟨TT, hTT⟩ : ∃ x, w2.heap.size = x := ⟨_, rfl⟩
  rw [hTT] at HT2 hNT
  try rw [hTT]
  rw [hN] at HN2 HR2 hNT
  try rw [hN]
  generalize w2.alloc (.cells #[.bool s1, .slice A1 n1 c1] 105) = w3 at HN2 HR2 HT2 HB2 HG2 HTB ⊢
  have hwN : w.heap.size ≤ N := by omega
  have hBN : Hid (Below N w w3) := Lib.hid (by rw [← hN]; exact HB2.out)
  have HNN := Lib.hid hN
  clear hTT HB2 hN
  go_loopw [1] (fun pl wr => ∃ (k : Nat) (v : Int) (s : Bool) (A : Option Addr) (n c : Nat), k ≤ 9 ∧ pl = .int .i64 (k : Int) ∧ Hid (fewF v k = R) ∧ Hid (Big .u32 150 B32 wr s A n c v) ∧ Hid (-10000000000000000000000000000000 ≤ v ∧ v ≤ 10000000000000000000000000000000) ∧ Hid (wr.heap[N]? = some (.cells #[.bool s, .slice A n c] 105 (0, 0))) ∧ Hid (wr.heap[N + 1]? = some (.cells #[.int .i64 0, .int .i64 0] 69 (0, 0))) ∧ Hid (wr.heap[TT]? = some (.cells #[.bool s1, .slice A1 n1 c1] 105 (0, 0))) ∧ Hid (Big .u32 150 B32 wr s1 A1 n1 c1 10) ∧ Hid (Below N w wr)) (fun pl _ => (intOf pl).toNat)
  case atStart => exact ⟨p, z, s, A, n, c, hp, rfl, HR, HG2, HZ, HN2, HR2, HT2, HTB, hBN⟩
  case round =>
    clear HN2 HR2 HT2 HG2 HTB hBN HG HR HZ
    obtain ⟨k, v, s, A, n, c, hk, rfl, HR, HG, HZ, HN, HRZ, HT, HTB, HB⟩ := hrel
    have hzr : N ≤ wr.heap.size := Nat.le_of_lt (lt_heap HN.out)
    have hsm : Small v := small_of_le (by have := HZ.out; omega) (by have := HZ.out; omega)
    have HS := Lib.hid hsm
    have HST := Lib.hid (small_of_le (z := 10) (by decide) (by decide))
    clear hsm
    obtain ⟨a0, a1, a2, a3, a5⟩ := box2 HN.out
    obtain ⟨t0, t1, -, -, t5⟩ := box2 HT.out
    rcases k with _ | k
    · have HE := Lib.hid (show made v 0 = R from HR.out)
      obtain ⟨z0, z1, z2, z3, z5⟩ := box2 HRZ.out
      go_wp2_with fail
      refine (mk_c _ 0 HG.out).mono ?_
      rw [HE.out]
      rintro _ w4 ⟨rfl, hb4⟩
      have hR4 := heap_below HRZ.out hb4
      have hB4 := below_then hb4 HB.out hzr
      clear a0 a1 a2 a3 a5 t0 t1 t5 z0 z1 z2 z3 z5
      obtain ⟨z0, z1, z2, z3, z5⟩ := box2 hR4
      go_wp2
      have hz9 : ((w4.setCell ⟨N + 1, 0, none⟩ (.int .i64 R.1)).setCell ⟨N + 1, 1, none⟩ (.int .i64 R.2.1)).heap[N + 1]? = some (.cells #[.int .i64 R.1, .int .i64 R.2.1] 69 (0, 0)) := heap_set (heap_set hR4 0 _) 1 _
      obtain ⟨r0, r1, -, -, -⟩ := box2 hz9
      refine bodyPost_ret (v := .tuple #[.agg #[.int .i64 R.1, .int .i64 R.2.1], .int .i64 R.2.2]) (by simp [results, Tryz.results76, go_sem, r0, r1]) rfl ⟨rfl, ?_⟩
      rw [← HNN.out] at hB4 ⊢
      exact (hB4.setCell (p := ⟨w.heap.size + 1, 0, none⟩) (by show w.heap.size ≤ w.heap.size + 1; omega) _).setCell (p := ⟨w.heap.size + 1, 1, none⟩) (by show w.heap.size ≤ w.heap.size + 1; omega) _
    · go_wp2_with fail
      refine (by_c _ HG.out HTB.out HS.out HST.out (by decide)).mono ?_
      rintro _ w4 ⟨s4, A4, n4, c4, s5, A5, n5, c5, rfl, hq, hr, hb4⟩
      have hz4 := hb4.size
      have h5 := Lib.hid (show Below wr.heap.size wr ((w4.alloc (.cells #[.bool s4, .slice A4 n4 c4] 105)).alloc (.cells #[.bool s5, .slice A5 n5 c5] 105)) from (hb4.alloc hz4 _).alloc (by simp; omega) _)
      have HN5 := Lib.hid (heap_below HN.out h5.out); have HR5 := Lib.hid (heap_below HRZ.out h5.out); have HT5 := Lib.hid (heap_below HT.out h5.out)
      have HTB5 := Lib.hid (HTB.out.below h5.out); have HG5 := Lib.hid (HG.out.below h5.out)
      have HB5 := Lib.hid (below_then h5.out HB.out hzr)
      have HQ5 := Lib.hid (heap_old (heap_new w4 (.cells #[.bool s4, .slice A4 n4 c4] 105) rfl) (.cells #[.bool s5, .slice A5 n5 c5] 105))
      have HX5 := Lib.hid (heap_new (w4.alloc (.cells #[.bool s4, .slice A4 n4 c4] 105)) (.cells #[.bool s5, .slice A5 n5 c5] 105) (g := w4.heap.size + 1) (by simp))
      have hq5 := Lib.hid ((hq.alloc (.cells #[.bool s4, .slice A4 n4 c4] 105)).alloc (.cells #[.bool s5, .slice A5 n5 c5] 105))
      have hr5 := Lib.hid ((hr.alloc (.cells #[.bool s4, .slice A4 n4 c4] 105)).alloc (.cells #[.bool s5, .slice A5 n5 c5] 105))
      have hqN : TT < w4.heap.size := Nat.lt_of_lt_of_le t5 hb4.size
      clear a0 a1 a2 a3 a5 t0 t1 t5 hq hr hb4
      go_upto_region 4 with fail
      obtain ⟨QQ, hQQ⟩ : ∃ x, w4.heap.size = x := ⟨_, rfl⟩
      rw [hQQ] at HQ5 HX5 hqN
      try rw [hQQ]
      generalize (w4.alloc (.cells #[.bool s4, .slice A4 n4 c4] 105)).alloc (.cells #[.bool s5, .slice A5 n5 c5] 105) = w5 at h5 HN5 HR5 HT5 HTB5 HG5 HB5 HQ5 HX5 hq5 hr5 ⊢
      clear hQQ h5
      obtain ⟨x0, x1, -, -, x5⟩ := box2 HX5.out
      have h10 : (10 : Int).natAbs = 10 := rfl
      have hq6 := hq5.out; have hr6 := hr5.out
      rw [h10] at hq6 hr6
      go_wp2_with fail
      refine (sign_c _ hr6).mono ?_
      rintro _ w6 ⟨rfl, hb6⟩
      have HN6 := Lib.hid (heap_below HN5.out hb6); have HR6 := Lib.hid (heap_below HR5.out hb6); have HT6 := Lib.hid (heap_below HT5.out hb6)
      have HTB6 := Lib.hid (HTB5.out.below hb6); have HG6 := Lib.hid (HG5.out.below hb6); have HQ6 := Lib.hid (heap_below HQ5.out hb6)
      have HB6 := Lib.hid (below_then hb6 HB5.out (Nat.le_of_lt (lt_heap HN5.out)))
      have hQB := Lib.hid (hq6.below hb6)
      have hzr6 : N ≤ w6.heap.size := Nat.le_of_lt (lt_heap HN6.out)
      clear HN5 HR5 HT5 HTB5 HG5 HB5 HQ5 HX5 hq5 hr5 hq6 hr6 x0 x1 x5 hb6 h10
      obtain ⟨a0, a1, a2, a3, a5⟩ := box2 HN6.out
      by_cases hm : v % 10 = 0
      case neg =>
        have HE := Lib.hid (show made v ((k + 1 : Nat) : Int) = R by rw [← HR.out, few_stop hm])
        have hsg : ((v.natAbs % 10 : Nat) : Int).sign ≠ 0 := fun e => hm ((mod_abs v).1 (by rw [(sgn_nat _).1 e]; rfl))
        obtain ⟨sg, hsge⟩ : ∃ x, ((v.natAbs % 10 : Nat) : Int).sign = x := ⟨_, rfl⟩
        rw [hsge] at hsg ⊢
        have hsgb : (sg != 0) = true := by simpa using hsg
        clear hm hsg hsge
        go_wp2_with fail
        refine (mk_c _ ((k + 1 : Nat) : Int) HG6.out).mono ?_
        rw [HE.out]
        rintro _ w9 ⟨rfl, hb9⟩
        have hR9 := heap_below HR6.out hb9
        have hB9 := below_then hb9 HB6.out (by omega)
        obtain ⟨z0, z1, z2, z3, z5⟩ := box2 hR9
        go_wp2
        have hz9 : ((w9.setCell ⟨N + 1, 0, none⟩ (.int .i64 R.1)).setCell ⟨N + 1, 1, none⟩ (.int .i64 R.2.1)).heap[N + 1]? = some (.cells #[.int .i64 R.1, .int .i64 R.2.1] 69 (0, 0)) := heap_set (heap_set hR9 0 _) 1 _
        obtain ⟨r0, r1, -, -, -⟩ := box2 hz9
        refine bodyPost_ret (v := .tuple #[.agg #[.int .i64 R.1, .int .i64 R.2.1], .int .i64 R.2.2]) (by simp [results, Tryz.results76, go_sem, r0, r1]) rfl ⟨rfl, ?_⟩
        rw [← HNN.out] at hB9 ⊢
        exact (hB9.setCell (p := ⟨w.heap.size + 1, 0, none⟩) (by show w.heap.size ≤ w.heap.size + 1; omega) _).setCell (p := ⟨w.heap.size + 1, 1, none⟩) (by show w.heap.size ≤ w.heap.size + 1; omega) _
      have hsg : ((v.natAbs % 10 : Nat) : Int).sign = 0 := by rw [(mod_abs v).2 hm]; rfl
      rw [hsg]
      obtain ⟨hd1, hd2⟩ := div_abs hm
      have HF := Lib.hid (show fewF (v / 10) k = R by rw [← HR.out, few_step hm])
      have HZ2 := Lib.hid (show -10000000000000000000000000000000 ≤ v / 10 ∧ v / 10 ≤ 10000000000000000000000000000000 by have := HZ.out; omega)
      obtain ⟨q0, q1, q2, q3, q5⟩ := box2 HQ6.out
      go_wp2_with fail
      refine (sign_c _ HG6.out).mono ?_
      rintro _ w7 ⟨rfl, hb7⟩
      have HN7 := Lib.hid (heap_below HN6.out hb7); have HR7 := Lib.hid (heap_below HR6.out hb7); have HT7 := Lib.hid (heap_below HT6.out hb7)
      have HTB7 := Lib.hid (HTB6.out.below hb7); have HQ7 := Lib.hid (heap_below HQ6.out hb7)
      have HB7 := Lib.hid (below_then hb7 HB6.out hzr6)
      have hQB7 := Lib.hid (hQB.out.below hb7)
      clear HN6 HR6 HT6 HTB6 HG6 HB6 HQ6 hQB hb7 a0 a1 a2 a3 a5 q0 q1 q2 q3 q5 hsg hzr6
      have hzr7 : N ≤ w7.heap.size := Nat.le_of_lt (lt_heap HN7.out)
      obtain ⟨q0, q1, q2, q3, q5⟩ := box2 HQ7.out
      obtain ⟨a0, a1, a2, a3, a5⟩ := box2 HN7.out
      by_cases hv : v < 0
      · have hsv : v.sign < 0 := by rw [Int.sign_eq_neg_one_of_neg hv]; decide
        have hd := hd1 hv
        generalize v.sign = sv at hsv
        clear hv hd1 hd2 hm
        go_wp2_with fail
        refine (minus_c _ hQB7.out).mono ?_
        rw [hd]
        rintro _ w8 ⟨s8, A8, n8, c8, rfl, hv8, hb8⟩
        have HQ8 := Lib.hid (heap_below HQ7.out hb8)
        have HN8 := Lib.hid (heap_below HN7.out hb8); have HR8 := Lib.hid (heap_below HR7.out hb8); have HT8 := Lib.hid (heap_below HT7.out hb8)
        have HTB8 := Lib.hid (HTB7.out.below hb8)
        have HB8 := Lib.hid (below_then hb8 HB7.out hzr7)
        have HV8 := Lib.hid hv8
        clear HN7 HR7 HT7 HTB7 HB7 HQ7 hQB7 hb8 hv8 q0 q1 q2 q3 q5 a0 a1 a2 a3 a5 hd
        obtain ⟨q0, q1, q2, q3, q5⟩ := box2 HQ8.out
        obtain ⟨a0, a1, a2, a3, a5⟩ := box2 HN8.out
        have hQN : QQ ≠ N := by omega
        have HN9 := Lib.hid (show ((w8.setCell ⟨QQ, 0, none⟩ (.bool s8)).setCell ⟨QQ, 1, none⟩ (.slice A8 n8 c8)).heap[N]? = some (.cells #[.bool s, .slice A n c] 105 (0, 0)) from heap_far (heap_far HN8.out (p := ⟨QQ, 0, none⟩) (Ne.symm hQN) _) (p := ⟨QQ, 1, none⟩) (Ne.symm hQN) _)
        have HR9 := Lib.hid (show ((w8.setCell ⟨QQ, 0, none⟩ (.bool s8)).setCell ⟨QQ, 1, none⟩ (.slice A8 n8 c8)).heap[N + 1]? = some (.cells #[.int .i64 0, .int .i64 0] 69 (0, 0)) from heap_far (heap_far HR8.out (p := ⟨QQ, 0, none⟩) (by show N + 1 ≠ QQ; omega) _) (p := ⟨QQ, 1, none⟩) (by show N + 1 ≠ QQ; omega) _)
        have HT9 := Lib.hid (show ((w8.setCell ⟨QQ, 0, none⟩ (.bool s8)).setCell ⟨QQ, 1, none⟩ (.slice A8 n8 c8)).heap[TT]? = some (.cells #[.bool s1, .slice A1 n1 c1] 105 (0, 0)) from heap_far (heap_far HT8.out (p := ⟨QQ, 0, none⟩) (by show TT ≠ QQ; omega) _) (p := ⟨QQ, 1, none⟩) (by show TT ≠ QQ; omega) _)
        have HTB9 := Lib.hid (HTB8.out.box2 HQ8.out (by decide) (.bool s8) (.slice A8 n8 c8))
        have HV9 := Lib.hid (HV8.out.box2 HQ8.out (by decide) (.bool s8) (.slice A8 n8 c8))
        have HB9 := Lib.hid ((HB8.out.setCell (p := ⟨QQ, 0, none⟩) (by show N ≤ QQ; omega) (.bool s8)).setCell (p := ⟨QQ, 1, none⟩) (by show N ≤ QQ; omega) (.slice A8 n8 c8))
        clear HN8 HR8 HT8 HTB8 HV8 HB8
        go_wp2_with fail
        go_roundw
        case rel =>
          refine ⟨k, v / 10, s8, A8, n8, c8, by omega, by go_num, HF, Lib.hid (HV9.out.box2 HN9.out (by decide) _ _), HZ2, Lib.hid (heap_set (heap_set HN9.out 0 _) 1 _), ?_, ?_, Lib.hid (HTB9.out.box2 HN9.out (by decide) _ _), Lib.hid ((HB9.out.setCell (p := ⟨N, 0, none⟩) (Nat.le_refl _) _).setCell (p := ⟨N, 1, none⟩) (Nat.le_refl _) _)⟩
          · exact Lib.hid (heap_far (heap_far HR9.out (p := ⟨N, 0, none⟩) (by show N + 1 ≠ N; omega) _) (p := ⟨N, 1, none⟩) (by show N + 1 ≠ N; omega) _)
          · exact Lib.hid (heap_far (heap_far HT9.out (p := ⟨N, 0, none⟩) (by show TT ≠ N; omega) _) (p := ⟨N, 1, none⟩) (by show TT ≠ N; omega) _)
        case measure => simp [intOf]
      · have hsv : ¬ v.sign < 0 := by rcases Int.lt_or_eq_of_le (Int.not_lt.1 hv) with h | h; rw [Int.sign_eq_one_of_pos h]; decide; rw [← h]; decide
        have hd := hd2 (by omega)
        have HQB := Lib.hid (hd ▸ hQB7.out)
        generalize v.sign = sv at hsv
        clear hv hd1 hd2 hm hQB7 hd
        have HW := Lib.hid (show ((w7.setCell ⟨N, 0, none⟩ (.bool s4)).setCell ⟨N, 1, none⟩ (.slice A4 n4 c4)).heap[N]? = some (.cells #[.bool s4, .slice A4 n4 c4] 105 (0, 0)) from heap_set (heap_set HN7.out 0 _) 1 _)
        go_wp2_with fail
        go_roundw
        case rel =>
          refine ⟨k, v / 10, s4, A4, n4, c4, by omega, by go_num, HF, Lib.hid (HQB.out.box2 HN7.out (by decide) _ _), HZ2, HW, ?_, ?_, Lib.hid (HTB7.out.box2 HN7.out (by decide) _ _), Lib.hid ((HB7.out.setCell (p := ⟨N, 0, none⟩) (Nat.le_refl _) _).setCell (p := ⟨N, 1, none⟩) (Nat.le_refl _) _)⟩
          · exact Lib.hid (heap_far (heap_far HR7.out (p := ⟨N, 0, none⟩) (by show N + 1 ≠ N; omega) _) (p := ⟨N, 1, none⟩) (by show N + 1 ≠ N; omega) _)
          · exact Lib.hid (heap_far (heap_far HT7.out (p := ⟨N, 0, none⟩) (by show TT ≠ N; omega) _) (p := ⟨N, 1, none⟩) (by show TT ≠ N; omega) _)
        case measure => simp [intOf]
theorem made_zero {z p : Int} (h : (made z p).2.2 ≠ 0) : (made z p).1 = 0 ∧ (made z p).2.1 = 0 := by
  by_cases hz : z.natAbs ≤ 1000000000000000
  · rw [show made z p = (z, p, 0) from if_pos hz] at h; exact absurd rfl h
  · rw [show made z p = (0, 0, 1) from if_neg hz]; exact ⟨rfl, rfl⟩
theorem readR_zero {neg : Bool} {l : List UInt8} {nb : Int} (h : (readR neg l nb).2.2 ≠ 0) : (readR neg l nb).1 = 0 ∧ (readR neg l nb).2.1 = 0 := by
  cases neg with
  | true =>
    by_cases h0 : numL l = 0
    · have e : readR true l nb = (0, 0, 10) := by simp [readR, h0]
      rw [e]; exact ⟨rfl, rfl⟩
    · have e : readR true l nb = made (-(numL l : Int)) nb := by simp [readR, h0]
      rw [e] at h ⊢; exact made_zero h
  | false =>
    have e : readR false l nb = made (numL l : Int) nb := by simp [readR]
    rw [e] at h ⊢; exact made_zero h
theorem readText_dec2 (l : List UInt8) : decB (readText l).1 (readText l).2.1 = true := by
  by_cases h : (readText l).2.2 = 0
  · exact readText_dec h
  · have e : readText l = (0, 0, 10) ∨ ∃ neg m nb, readText l = readR neg m nb := by
      unfold readText
      simp only
      by_cases hb : (decide (40 < l.length) || !wholeB (cutL (if (l.head? == some 45) = true then l.tail else l) 46).1 || ((cutL (if (l.head? == some 45) = true then l.tail else l) 46).2.2 && (!digB (cutL (if (l.head? == some 45) = true then l.tail else l) 46).2.1 || decide (9 < (cutL (if (l.head? == some 45) = true then l.tail else l) 46).2.1.length)))) = true
      · rw [if_pos hb]; exact .inl rfl
      · rw [if_neg hb]; exact .inr ⟨_, _, _, rfl⟩
    rcases e with e | ⟨neg, m, nb, e⟩
    · rw [e]; decide
    · rw [e] at h ⊢
      obtain ⟨h1, h2⟩ := readR_zero h
      rw [h1, h2]
      decide
def rowZ (f : Fmt) (tag name : ByteArray) (r : RowP) : Int :=
  if (tag ≠ ⟨#[]⟩ ∧ r.tag ≠ tag) ∨ ixF (nameIs name) (katK f r.tag).fields < 0 ∨ wd r.vals (ixF (nameIs name) (katK f r.tag).fields).toNat = ⟨#[]⟩ then 0
  else scaled (readText (wd r.vals (ixF (nameIs name) (katK f r.tag).fields).toNat).data.toList).1 (readText (wd r.vals (ixF (nameIs name) (katK f r.tag).fields).toNat).data.toList).2.1 9
def sumZr (f : Fmt) (tag name : ByteArray) (rs : List RowP) : Nat → Int
  | 0 => 0
  | j + 1 => sumZr f tag name rs j + rowZ f tag name (rA rs j)
theorem scl_bd {u p : Int} (h : decB u p = true) : -1000000000000000000000000 ≤ scaled u p 9 ∧ scaled u p 9 ≤ 1000000000000000000000000 := by
  have := decB_out h
  exact scaled_bound (by omega) (by omega)
set_option maxHeartbeats 8000000 in
set_option maxRecDepth 100000 in
theorem sumof_c (f : Fmt) (A : Option Addr) (cp : Nat) (FA : Nat → Option Addr) (FC : Nat → Nat) (L : Option Addr) (LC : Nat) (rs : List RowP) (RA : Nat → Option Addr) (RC : Nat → Nat) (tag name : ByteArray) (w : World) (ho : Kinds w A f.kinds FA FC) (hl : RowsM w L rs RA RC) (hrk : ∀ j, j < rs.length → RowK f (rA rs j)) (h2000 : rs.length ≤ 2000) :
    Calls Tryz.prog 42 #[fmtG f A cp, .slice L rs.length LC, .string tag, .string name] w (RetD (fewF (sumZr f tag name rs rs.length) 9) w) := by
  have HKA := Lib.hid (fun t w h => kindat_c f A cp FA FC t w h)
  have HCC := Lib.hid (fun t => kat_cases f FA FC t)
  have HKI := Lib.hid ho; have HLM := Lib.hid hl; have HRK := Lib.hid hrk
  obtain ⟨R, hR⟩ : ∃ x, fewF (sumZr f tag name rs rs.length) 9 = x := ⟨_, rfl⟩
  have HR := Lib.hid hR
  rw [hR]
  clear ho hl hrk hR
  obtain ⟨m, q, ks, hd, tl, ct, sm⟩ := f
  unfold fmtG at HKA ⊢
  simp only at HKA HCC HKI ⊢
  obtain ⟨n, hn⟩ : ∃ x, ks.length = x := ⟨_, rfl⟩
  rw [hn] at HKA ⊢
  clear hn
  obtain ⟨nr, hnr⟩ : ∃ x, rs.length = x := ⟨_, rfl⟩
  have HNR := Lib.hid hnr
  rw [hnr] at HR h2000 ⊢
  clear hnr
  have hF0 := heap_old (heap_new w (.cells #[.int .u8 m, .int .u8 q, .slice A n cp, .string hd, .string tl, .string ct, .string sm] 24) rfl) (.cells #[.int .i64 0, .int .i64 0] 69)
  have hZ0 := heap_new (w.alloc (.cells #[.int .u8 m, .int .u8 q, .slice A n cp, .string hd, .string tl, .string ct, .string sm] 24)) (.cells #[.int .i64 0, .int .i64 0] 69) (g := w.heap.size + 1) (by simp)
  have hB0 : Below w.heap.size w ((w.alloc (.cells #[.int .u8 m, .int .u8 q, .slice A n cp, .string hd, .string tl, .string ct, .string sm] 24)).alloc (.cells #[.int .i64 0, .int .i64 0] 69)) := by go_grown
  go_enter Tryz.func42, Tryz.ntmps42
  go_wp2_with fail
  refine (of_c 0 _ (by decide) (by decide)).mono ?_
  rintro _ w2 ⟨s1, A1, n1, c1, rfl, hz, hb2⟩
  have HF2 := Lib.hid (heap_old (heap_below hF0 hb2) (.cells #[.bool s1, .slice A1 n1 c1] 105))
  have HZ2 := Lib.hid (heap_old (heap_below hZ0 hb2) (.cells #[.bool s1, .slice A1 n1 c1] 105))
  have HS2 := Lib.hid (heap_new w2 (.cells #[.bool s1, .slice A1 n1 c1] 105) rfl)
  have hB2 := below_then hb2 hB0 hB0.size
  have HB2 : Hid (Below w.heap.size w (w2.alloc (.cells #[.bool s1, .slice A1 n1 c1] 105))) := Lib.hid (hB2.alloc hB2.size _)
  have HG2 := Lib.hid (hz.alloc (.cells #[.bool s1, .slice A1 n1 c1] 105))
  have hNS : w.heap.size + 1 < w2.heap.size := lt_heap (heap_below hZ0 hb2)
  clear hF0 hZ0 hB0 hz hb2 hB2
  go_upto_region 2 with fail
  obtain ⟨SB, hSB⟩ : ∃ x, w2.heap.size = x := ⟨_, rfl⟩
  rw [hSB] at HS2 hNS
  try rw [hSB]
  generalize w2.alloc (.cells #[.bool s1, .slice A1 n1 c1] 105) = w3 at HF2 HZ2 HS2 HB2 HG2 ⊢
  clear hSB
  go_wp2_with fail
  go_loopw [21] (fun i wr => ∃ (j : Nat) (z : Int) (s : Bool) (SA : Option Addr) (sn sc : Nat), j ≤ nr ∧ i = .int .i64 j ∧ Hid (sumZr ⟨m, q, ks, hd, tl, ct, sm⟩ tag name rs j = z) ∧ Hid (-(j : Int) * 1000000000000000000000000 ≤ z ∧ z ≤ (j : Int) * 1000000000000000000000000) ∧ Hid (Big .u32 150 B32 wr s SA sn sc z) ∧ Hid (wr.heap[w.heap.size]? = some (.cells #[.int .u8 m, .int .u8 q, .slice A n cp, .string hd, .string tl, .string ct, .string sm] 24 (0, 0))) ∧ Hid (wr.heap[w.heap.size + 1]? = some (.cells #[.int .i64 0, .int .i64 0] 69 (0, 0))) ∧ Hid (wr.heap[SB]? = some (.cells #[.bool s, .slice SA sn sc] 105 (0, 0))) ∧ Hid (Below w.heap.size w wr)) (fun i _ => nr - (intOf i).toNat)
  case atStart => exact ⟨0, 0, s1, A1, n1, c1, Nat.zero_le _, rfl, Lib.hid rfl, Lib.hid (by omega), HG2, HF2, HZ2, HS2, HB2⟩
  case round =>
    clear HF2 HZ2 HS2 HB2 HG2
    obtain ⟨j, z, s, SA, sn, sc, hj, rfl, HZ0, HBD, HG, HF, HZ, HS, HB⟩ := hrel
    have hzr := HB.out.size
    rcases Nat.lt_or_ge j nr with hlt | hge
    · obtain ⟨b, off, rfl, hbw, c0, c1⟩ := (HLM.out.below HB.out).cells (j := j) (by rw [HNR.out]; exact hlt)
      have HRJ := Lib.hid ((HLM.out.below HB.out).each j (by rw [HNR.out]; exact hlt))
      have HRO := Lib.hid (HRK.out j (by rw [HNR.out]; exact hlt))
      have HSC := Lib.hid (show sumZr ⟨m, q, ks, hd, tl, ct, sm⟩ tag name rs (j + 1) = sumZr ⟨m, q, ks, hd, tl, ct, sm⟩ tag name rs j + rowZ ⟨m, q, ks, hd, tl, ct, sm⟩ tag name (rA rs j) from rfl)
      obtain ⟨r, hr⟩ : ∃ x, rA rs j = x := ⟨_, rfl⟩
      obtain ⟨RJ, hRJ⟩ : ∃ x, RA j = x := ⟨_, rfl⟩
      obtain ⟨CJ, hCJ⟩ : ∃ x, RC j = x := ⟨_, rfl⟩
      rw [hr, hRJ, hCJ] at HRJ
      rw [hr] at c0 HRO HSC
      rw [hr, hRJ, hCJ] at c1
      clear hr hRJ hCJ
      obtain ⟨rt, vs⟩ := r
      have HKJ := Lib.hid (fun w h => HKA.out rt w h)
      have HCJ := Lib.hid (HCC.out rt)
      have hmany := HRO.out.many
      have hkind := HRO.out.kind
      simp only at hmany hkind c0 c1
      obtain ⟨nv, hnv⟩ : ∃ x, vs.length = x := ⟨_, rfl⟩
      have HNV := Lib.hid hnv
      rw [hnv] at c1 hmany
      have HMN := Lib.hid hmany
      clear hmany
      have hnvc : nv ≤ CJ := by rw [← hnv]; exact HRJ.out.len.1
      have hnvb := HRJ.out.len.2
      clear hnv
      have hF5 := heap_old HF.out (.cells #[.string rt, .slice RJ nv CJ] 60); have hZ5 := heap_old HZ.out (.cells #[.string rt, .slice RJ nv CJ] 60); have hS5 := heap_old HS.out (.cells #[.string rt, .slice RJ nv CJ] 60)
      have hR5 := heap_new wr (.cells #[.string rt, .slice RJ nv CJ] 60) rfl
      have hb5 : Below wr.heap.size wr (wr.alloc (.cells #[.string rt, .slice RJ nv CJ] 60)) := by go_grown
      have HG5 := Lib.hid (HG.out.alloc (.cells #[.string rt, .slice RJ nv CJ] 60))
      go_upto_region 5 with fail
      obtain ⟨rn, hrn⟩ : ∃ x, wr.heap.size = x := ⟨_, rfl⟩
      rw [hrn] at hR5
      try rw [hrn]
      have HB5 := Lib.hid (below_then hb5 HB.out hzr)
      generalize wr.alloc (.cells #[.string rt, .slice RJ nv CJ] 60) = w5 at hF5 hZ5 hS5 hR5 hb5 HG5 HB5 ⊢
      have HF5 := Lib.hid hF5; have HZ5 := Lib.hid hZ5; have HS5 := Lib.hid hS5; have HR5 := Lib.hid hR5
      have HRJ5 := Lib.hid (HRJ.out.below hb5)
      obtain ⟨⟨f0, f1, f2, f3, f4, f5, f6⟩, f7⟩ := obox7 hF5
      obtain ⟨r0, r1, -, -, r2⟩ := box2 hR5
      clear c0 c1 hF5 hZ5 hS5 hR5 hrn hbw hb5 HG HF HZ HS HB HRJ
      go_wp2_with fail
      refine (HKJ.out _ (HKI.out.below HB5.out)).mono ?_
      rintro _ w6 ⟨rfl, hb6⟩
      rcases HCJ.out with ⟨h1, -, -, -⟩ | ⟨k, hk, h1, h2, h3, h4⟩
      · omega
      have hdec : decide ((0 : Int) ≤ (k : Int)) = true := decide_eq_true (by omega)
      rw [h1, h2, h3, h4, hdec]
      have hmany := HMN.out
      rw [h2] at hmany
      have HCO := Lib.hid ((HKI.out).2.2 k hk)
      have HCA := Lib.hid (fun w h => colat_c (kA ks k) (FA k) (FC k) name w h)
      have HIX := Lib.hid (ixF_spec (nameIs name) (kA ks k).fields)
      have HRZ := Lib.hid (show rowZ ⟨m, q, ks, hd, tl, ct, sm⟩ tag name ⟨rt, vs⟩ = if (tag ≠ ⟨#[]⟩ ∧ rt ≠ tag) ∨ ixF (nameIs name) (kA ks k).fields < 0 ∨ wd vs (ixF (nameIs name) (kA ks k).fields).toNat = ⟨#[]⟩ then 0 else scaled (readText (wd vs (ixF (nameIs name) (kA ks k).fields).toNat).data.toList).1 (readText (wd vs (ixF (nameIs name) (kA ks k).fields).toNat).data.toList).2.1 9 by unfold rowZ; simp only; rw [h2])
      obtain ⟨K, hK⟩ : ∃ x, kA ks k = x := ⟨_, rfl⟩
      rw [hK] at HCO HCA HIX HRZ hmany ⊢
      clear h1 h2 h3 h4 hdec hK hk hkind
      obtain ⟨kt, fs, km, ku⟩ := K
      unfold kindG at HCA ⊢
      simp only at HCO HCA HIX HRZ hmany ⊢
      obtain ⟨KA, hKA⟩ : ∃ x, FA k = x := ⟨_, rfl⟩
      obtain ⟨KC, hKC⟩ : ∃ x, FC k = x := ⟨_, rfl⟩
      have hnf : fs.length = nv := hmany.symm
      have HNF := Lib.hid hnf
      rw [hKA, hKC] at HCO HCA ⊢
      rw [hnf] at HCO HCA ⊢
      clear hKA hKC hmany hnf
      have HF7 := Lib.hid (heap_old (heap_below HF5.out hb6) (.cells #[.string kt, .slice KA nv KC, .int .i64 km, .string ku] 47)); have HZ7 := Lib.hid (heap_old (heap_below HZ5.out hb6) (.cells #[.string kt, .slice KA nv KC, .int .i64 km, .string ku] 47)); have HS7 := Lib.hid (heap_old (heap_below HS5.out hb6) (.cells #[.string kt, .slice KA nv KC, .int .i64 km, .string ku] 47))
      have HR7 := Lib.hid (heap_old (heap_below HR5.out hb6) (.cells #[.string kt, .slice KA nv KC, .int .i64 km, .string ku] 47))
      have HK7 := Lib.hid (heap_new w6 (.cells #[.string kt, .slice KA nv KC, .int .i64 km, .string ku] 47) rfl)
      have hb67 : Below w5.heap.size w5 (w6.alloc (.cells #[.string kt, .slice KA nv KC, .int .i64 km, .string ku] 47)) := hb6.alloc hb6.size _
      have HG7 := Lib.hid (HG5.out.below hb67)
      have HRJ7 := Lib.hid (HRJ5.out.below hb67)
      have HB7 := Lib.hid (below_then hb67 HB5.out HB5.out.size)
      clear f0 f1 f2 f3 f4 f5 f6 f7 r0 r1 r2 HF5 HZ5 HS5 HR5 HG5 HB5 HRJ5 hb6 hb67
      go_upto_region 6 with fail
      obtain ⟨k0, hk0⟩ : ∃ x, w6.heap.size = x := ⟨_, rfl⟩
      rw [hk0] at HK7
      try rw [hk0]
      generalize w6.alloc (.cells #[.string kt, .slice KA nv KC, .int .i64 km, .string ku] 47) = w7 at HF7 HZ7 HS7 HR7 HK7 HG7 HRJ7 HB7 ⊢
      clear hk0
      obtain ⟨⟨y0, y1, y2, y3⟩, -, y4⟩ := obox4 HK7.out
      go_wp2_with fail
      refine (HCA.out _ (HCO.out.1.below HB7.out)).mono ?_
      rintro _ w8 ⟨rfl, hb8⟩
      have HF8 := Lib.hid (heap_below HF7.out hb8); have HZ8 := Lib.hid (heap_below HZ7.out hb8); have HS8 := Lib.hid (heap_below HS7.out hb8); have HR8 := Lib.hid (heap_below HR7.out hb8)
      have HG8 := Lib.hid (HG7.out.below hb8); have HRJ8 := Lib.hid (HRJ7.out.below hb8)
      have HB8 := Lib.hid (below_then hb8 HB7.out HB7.out.size)
      clear y0 y1 y2 y3 y4 HF7 HZ7 HS7 HR7 HK7 HG7 HRJ7 HB7 hb8
      obtain ⟨r0, r1, -, -, r2⟩ := box2 HR8.out
      have hte := emp_dec tag
      have hrt := bytes_dec rt tag
      by_cases hA : tag ≠ ⟨#[]⟩ ∧ rt ≠ tag
      · have HZE := Lib.hid (show rowZ ⟨m, q, ks, hd, tl, ct, sm⟩ tag name ⟨rt, vs⟩ = 0 by rw [HRZ.out, if_pos (.inl hA)])
        rw [decide_eq_false hA.1] at hte
        rw [decide_eq_false hA.2] at hrt
        generalize ixF (nameIs name) fs = ii
        clear hA
        have HZN := Lib.hid (show sumZr ⟨m, q, ks, hd, tl, ct, sm⟩ tag name rs (j + 1) = z by rw [HSC.out, HZ0.out, HZE.out]; exact Int.add_zero _)
        have HZB := Lib.hid (show -((j + 1 : Nat) : Int) * 1000000000000000000000000 ≤ z ∧ z ≤ ((j + 1 : Nat) : Int) * 1000000000000000000000000 by have := HBD.out; omega)
        go_wp2
        go_roundw
        case rel => exact ⟨j + 1, z, s, SA, sn, sc, by omega, by go_num, HZN, HZB, HG8, HF8, HZ8, HS8, HB8⟩
        case measure => simp [intOf]; omega
      rcases HIX.out with ⟨h1, -⟩ | ⟨ic, hi, h1, -, -⟩
      · have HZE := Lib.hid (show rowZ ⟨m, q, ks, hd, tl, ct, sm⟩ tag name ⟨rt, vs⟩ = 0 by rw [HRZ.out, if_pos (.inr (.inl (by rw [h1]; decide)))])
        rw [h1]
        clear h1
        by_cases ht0 : tag = ⟨#[]⟩
        · rw [decide_eq_true ht0] at hte
          clear hA ht0
          have HZN := Lib.hid (show sumZr ⟨m, q, ks, hd, tl, ct, sm⟩ tag name rs (j + 1) = z by rw [HSC.out, HZ0.out, HZE.out]; exact Int.add_zero _)
          have HZB := Lib.hid (show -((j + 1 : Nat) : Int) * 1000000000000000000000000 ≤ z ∧ z ≤ ((j + 1 : Nat) : Int) * 1000000000000000000000000 by have := HBD.out; omega)
          go_wp2
          go_roundw
          case rel => exact ⟨j + 1, z, s, SA, sn, sc, by omega, by go_num, HZN, HZB, HG8, HF8, HZ8, HS8, HB8⟩
          case measure => simp [intOf]; omega
        · have ht1 : rt = tag := Classical.byContradiction fun k => hA ⟨ht0, k⟩
          rw [decide_eq_false ht0] at hte
          rw [decide_eq_true ht1] at hrt
          clear hA ht0 ht1
          have HZN := Lib.hid (show sumZr ⟨m, q, ks, hd, tl, ct, sm⟩ tag name rs (j + 1) = z by rw [HSC.out, HZ0.out, HZE.out]; exact Int.add_zero _)
          have HZB := Lib.hid (show -((j + 1 : Nat) : Int) * 1000000000000000000000000 ≤ z ∧ z ≤ ((j + 1 : Nat) : Int) * 1000000000000000000000000 by have := HBD.out; omega)
          go_wp2
          go_roundw
          case rel => exact ⟨j + 1, z, s, SA, sn, sc, by omega, by go_num, HZN, HZB, HG8, HF8, HZ8, HS8, HB8⟩
          case measure => simp [intOf]; omega
      · have hicv : ic < nv := by rw [← HNF.out]; exact hi
        obtain ⟨b2, off2, rfl, hbw2, hcs⟩ := HRJ8.out.vals.cells (by show 0 < vs.length; rw [HNV.out]; omega)
        have s0 := hcs ic (by show ic < vs.length; rw [HNV.out]; exact hicv)
        simp only at s0
        have hsz := wd_size HRJ8.out.size ic
        simp only at hsz
        have HRZ2 := Lib.hid (show rowZ ⟨m, q, ks, hd, tl, ct, sm⟩ tag name ⟨rt, vs⟩ = if wd vs ic = ⟨#[]⟩ then 0 else scaled (readText (wd vs ic).data.toList).1 (readText (wd vs ic).data.toList).2.1 9 by
          rw [HRZ.out, h1, Int.toNat_natCast]
          by_cases h9 : wd vs ic = ⟨#[]⟩
          · rw [if_pos h9, if_pos (.inr (.inr h9))]
          · rw [if_neg h9, if_neg (by rintro (k | k | k); exact hA k; omega; exact h9 k)])
        obtain ⟨sv, hs⟩ : ∃ x, wd vs ic = x := ⟨_, rfl⟩
        rw [hs] at s0 hsz HRZ2
        rw [h1]
        clear h1 hs hcs hi
        by_cases ht0 : tag = ⟨#[]⟩
        · rw [decide_eq_true ht0] at hte
          clear hA ht0
          have hsv := emp_dec sv
          by_cases h0 : sv = ⟨#[]⟩
          · have HZE := Lib.hid (show rowZ ⟨m, q, ks, hd, tl, ct, sm⟩ tag name ⟨rt, vs⟩ = 0 by rw [HRZ2.out, if_pos h0])
            rw [decide_eq_true h0] at hsv
            clear h0
            have HZN := Lib.hid (show sumZr ⟨m, q, ks, hd, tl, ct, sm⟩ tag name rs (j + 1) = z by rw [HSC.out, HZ0.out, HZE.out]; exact Int.add_zero _)
            have HZB := Lib.hid (show -((j + 1 : Nat) : Int) * 1000000000000000000000000 ≤ z ∧ z ≤ ((j + 1 : Nat) : Int) * 1000000000000000000000000 by have := HBD.out; omega)
            go_wp2
            go_roundw
            case rel => exact ⟨j + 1, z, s, SA, sn, sc, by omega, by go_num, HZN, HZB, HG8, HF8, HZ8, HS8, HB8⟩
            case measure => simp [intOf]; omega
          rw [decide_eq_false h0] at hsv
          have HZE := Lib.hid (show rowZ ⟨m, q, ks, hd, tl, ct, sm⟩ tag name ⟨rt, vs⟩ = scaled (readText sv.data.toList).1 (readText sv.data.toList).2.1 9 by rw [HRZ2.out, if_neg h0])
          have hdc := readText_dec2 sv.data.toList
          have HRT := Lib.hid (fun w => readtext_c sv w hsz)
          obtain ⟨⟨u, p, e⟩, hrd⟩ : ∃ x, readText sv.data.toList = x := ⟨_, rfl⟩
          rw [hrd] at HZE hdc HRT
          simp only at HZE hdc
          unfold RetD at HRT
          simp only at HRT
          have HDC := Lib.hid hdc
          have hbd := scl_bd hdc
          have HSM := Lib.hid (show Small z from small_of_le (by have := HBD.out; omega) (by have := HBD.out; omega))
          have HSV := Lib.hid (show Small (scaled u p 9) from small_of_le (by omega) (by omega))
          have HZN := Lib.hid (show sumZr ⟨m, q, ks, hd, tl, ct, sm⟩ tag name rs (j + 1) = z + scaled u p 9 by rw [HSC.out, HZ0.out, HZE.out])
          have HZB := Lib.hid (show -((j + 1 : Nat) : Int) * 1000000000000000000000000 ≤ z + scaled u p 9 ∧ z + scaled u p 9 ≤ ((j + 1 : Nat) : Int) * 1000000000000000000000000 by have := HBD.out; omega)
          clear h0 hrd hdc hbd
          go_wp2_with fail
          refine (HRT.out _).mono ?_
          rintro _ wc ⟨rfl, hbc⟩
          have HF9 := Lib.hid (heap_old (heap_below HF8.out hbc) (.cells #[.int .i64 u, .int .i64 p] 69)); have HZ9 := Lib.hid (heap_old (heap_below HZ8.out hbc) (.cells #[.int .i64 u, .int .i64 p] 69)); have HS9 := Lib.hid (heap_old (heap_below HS8.out hbc) (.cells #[.int .i64 u, .int .i64 p] 69))
          have HD9 := Lib.hid (heap_new wc (.cells #[.int .i64 u, .int .i64 p] 69) rfl)
          have hbc9 : Below w8.heap.size w8 (wc.alloc (.cells #[.int .i64 u, .int .i64 p] 69)) := hbc.alloc hbc.size _
          have HG9 := Lib.hid (HG8.out.below hbc9)
          have HB9 := Lib.hid (below_then hbc9 HB8.out HB8.out.size)
          clear HF8 HZ8 HS8 HG8 HB8 r0 r1 r2 HR8 HRJ8 hbc hbc9 s0 hbw2
          go_upto_region 9 with fail
          obtain ⟨DB, hDB⟩ : ∃ x, wc.heap.size = x := ⟨_, rfl⟩
          rw [hDB] at HD9
          try rw [hDB]
          generalize wc.alloc (.cells #[.int .i64 u, .int .i64 p] 69) = w8 at HF9 HZ9 HS9 HD9 HG9 HB9 ⊢
          clear hDB
          have HG8 := HG9
          have HSB := Lib.hid (show ∀ wx, Below w8.heap.size w8 wx → (fun w' : World => w'.cell? ⟨SB, 0, none⟩ = some (.bool s) ∧ w'.cell? ⟨SB, 1, none⟩ = some (.slice SA sn sc) ∧ w'.cell? ⟨DB, 0, none⟩ = some (.int .i64 u) ∧ w'.cell? ⟨DB, 1, none⟩ = some (.int .i64 p)) wx from fun wx h => by
            obtain ⟨a0, a1, -, -, -⟩ := box2 (heap_below HS9.out h)
            obtain ⟨b0, b1, -, -, -⟩ := box2 (heap_below HD9.out h)
            exact ⟨a0, a1, b0, b1⟩)
          have hT : (fun w' : World => w'.cell? ⟨SB, 0, none⟩ = some (.bool s) ∧ w'.cell? ⟨SB, 1, none⟩ = some (.slice SA sn sc) ∧ w'.cell? ⟨DB, 0, none⟩ = some (.int .i64 u) ∧ w'.cell? ⟨DB, 1, none⟩ = some (.int .i64 p)) w8.drew := HSB.out _ ((Below.refl _ _).drew)
          have hfz : w8.frozen? ⟨SB, 0, none⟩ = false ∧ w8.frozen? ⟨SB, 1, none⟩ = false := ⟨(box2 HS9.out).2.2.1, (box2 HS9.out).2.2.2.1⟩
          refine region_till 4 (fun w' : World => w'.cell? ⟨SB, 0, none⟩ = some (.bool s) ∧ w'.cell? ⟨SB, 1, none⟩ = some (.slice SA sn sc) ∧ w'.cell? ⟨DB, 0, none⟩ = some (.int .i64 u) ∧ w'.cell? ⟨DB, 1, none⟩ = some (.int .i64 p)) (by kernel_rfl) ?_
          refine Till.take (i := 0) (v := ?_) rfl (by kernel_rfl) (by kernel_rfl) (by kernel_rfl) [3] (by kernel_rfl) (by decide) (by kernel_rfl) (by kernel_rfl) (fun _ _ _ h => h) hT (Or.inl ⟨by rfl, ?_⟩) ?_
          rotate_left
          · (intro w' hw'; obtain ⟨u1, u2, u3, u4⟩ := hw'; go_simp; try with_reducible rfl)
          (try simp only [Act.put, List.setIfInBounds_toArray, List.set_cons_zero, List.set_cons_succ])
          refine Till.take (i := 1) (v := ?_) rfl (by kernel_rfl) (by kernel_rfl) (by kernel_rfl) [2, 3] (by kernel_rfl) (by decide) (by kernel_rfl) (by kernel_rfl) (fun _ _ _ h => h) hT (Or.inl ⟨by rfl, ?_⟩) ?_
          rotate_left
          · (intro w' hw'; obtain ⟨u1, u2, u3, u4⟩ := hw'; go_simp; try with_reducible rfl)
          (try simp only [Act.put, List.setIfInBounds_toArray, List.set_cons_zero, List.set_cons_succ])
          refine Till.step (i := 2) (by kernel_rfl) rfl ?_
          intro K hK
          go_simp
          (go_at_call 75; refine (value_c u p _ HDC.out).mono ?_; rintro _ wa ⟨sa, Aa, na, ca, rfl, hva, hba⟩; (have Ta : Below w8.heap.size w8 wa := by exact ⟨hba.os, hba.tape, hba.output, hba.size, hba.block⟩))
          have hT : (fun w' : World => w'.cell? ⟨SB, 0, none⟩ = some (.bool s) ∧ w'.cell? ⟨SB, 1, none⟩ = some (.slice SA sn sc) ∧ w'.cell? ⟨DB, 0, none⟩ = some (.int .i64 u) ∧ w'.cell? ⟨DB, 1, none⟩ = some (.int .i64 p)) wa := HSB.out _ Ta
          refine hK.out _ _ (fun _ => hT) ?_
          clear hK K
          (try simp only [Act.put, List.setIfInBounds_toArray, List.set_cons_zero, List.set_cons_succ])
          refine Till.step (i := 3) (by kernel_rfl) rfl ?_
          intro K hK
          go_simp
          (go_at_call 74; refine (plus_c _ (HG8.out.below Ta) hva HSM.out HSV.out).mono ?_; rintro _ wb ⟨sb, Ab, nb, cb, rfl, hvb, hbb⟩; (have Tb : Below w8.heap.size w8 wb := below_then hbb Ta Ta.size))
          have hT : (fun w' : World => w'.cell? ⟨SB, 0, none⟩ = some (.bool s) ∧ w'.cell? ⟨SB, 1, none⟩ = some (.slice SA sn sc) ∧ w'.cell? ⟨DB, 0, none⟩ = some (.int .i64 u) ∧ w'.cell? ⟨DB, 1, none⟩ = some (.int .i64 p)) wb := HSB.out _ Tb
          refine hK.out _ _ (fun _ => hT) ?_
          clear hK K
          (try simp only [Act.put, List.setIfInBounds_toArray, List.set_cons_zero, List.set_cons_succ])
          obtain ⟨-, -, fz0, fz1, -⟩ := box2 (heap_below HS9.out Tb)
          refine Till.step (i := 4) (by kernel_rfl) rfl ?_
          intro K hK
          go_simp
          refine hK.out _ _ (fun h => absurd h (by decide)) ?_
          clear hK K
          (try simp only [Act.put, List.setIfInBounds_toArray, List.set_cons_zero, List.set_cons_succ])
          refine Till.done (by kernel_rfl) ?_ _
          have HSb := Lib.hid (heap_below HS9.out Tb); have HFb := Lib.hid (heap_below HF9.out Tb); have HZb := Lib.hid (heap_below HZ9.out Tb)
          have HBb := Lib.hid (below_then Tb HB9.out HB9.out.size)
          have hNS1 : w.heap.size ≠ SB ∧ w.heap.size + 1 ≠ SB ∧ w.heap.size ≤ SB := by omega
          have HF10 := Lib.hid (show ((wb.setCell ⟨SB, 0, none⟩ (.bool sb)).setCell ⟨SB, 1, none⟩ (.slice Ab nb cb)).heap[w.heap.size]? = _ from heap_far (heap_far HFb.out (p := ⟨SB, 0, none⟩) hNS1.1 _) (p := ⟨SB, 1, none⟩) hNS1.1 _)
          have HZ10 := Lib.hid (show ((wb.setCell ⟨SB, 0, none⟩ (.bool sb)).setCell ⟨SB, 1, none⟩ (.slice Ab nb cb)).heap[w.heap.size + 1]? = _ from heap_far (heap_far HZb.out (p := ⟨SB, 0, none⟩) hNS1.2.1 _) (p := ⟨SB, 1, none⟩) hNS1.2.1 _)
          have HS10 := Lib.hid (show ((wb.setCell ⟨SB, 0, none⟩ (.bool sb)).setCell ⟨SB, 1, none⟩ (.slice Ab nb cb)).heap[SB]? = some (.cells #[.bool sb, .slice Ab nb cb] 105 (0, 0)) from heap_set (heap_set HSb.out 0 _) 1 _)
          have HG10 := Lib.hid (hvb.box2 HSb.out (by decide) (.bool sb) (.slice Ab nb cb))
          have HB10 := Lib.hid ((HBb.out.setCell (p := ⟨SB, 0, none⟩) hNS1.2.2 (.bool sb)).setCell (p := ⟨SB, 1, none⟩) hNS1.2.2 (.slice Ab nb cb))
          go_wp2
          go_roundw
          case rel => exact ⟨j + 1, z + scaled u p 9, sb, Ab, nb, cb, by omega, by go_num, HZN, HZB, HG10, HF10, HZ10, HS10, HB10⟩
          case measure => simp [intOf]; omega
        · have ht1 : rt = tag := Classical.byContradiction fun k => hA ⟨ht0, k⟩
          rw [decide_eq_false ht0] at hte
          rw [decide_eq_true ht1] at hrt
          clear hA ht0 ht1
          have hsv := emp_dec sv
          by_cases h0 : sv = ⟨#[]⟩
          · have HZE := Lib.hid (show rowZ ⟨m, q, ks, hd, tl, ct, sm⟩ tag name ⟨rt, vs⟩ = 0 by rw [HRZ2.out, if_pos h0])
            rw [decide_eq_true h0] at hsv
            clear h0
            have HZN := Lib.hid (show sumZr ⟨m, q, ks, hd, tl, ct, sm⟩ tag name rs (j + 1) = z by rw [HSC.out, HZ0.out, HZE.out]; exact Int.add_zero _)
            have HZB := Lib.hid (show -((j + 1 : Nat) : Int) * 1000000000000000000000000 ≤ z ∧ z ≤ ((j + 1 : Nat) : Int) * 1000000000000000000000000 by have := HBD.out; omega)
            go_wp2
            go_roundw
            case rel => exact ⟨j + 1, z, s, SA, sn, sc, by omega, by go_num, HZN, HZB, HG8, HF8, HZ8, HS8, HB8⟩
            case measure => simp [intOf]; omega
          rw [decide_eq_false h0] at hsv
          have HZE := Lib.hid (show rowZ ⟨m, q, ks, hd, tl, ct, sm⟩ tag name ⟨rt, vs⟩ = scaled (readText sv.data.toList).1 (readText sv.data.toList).2.1 9 by rw [HRZ2.out, if_neg h0])
          have hdc := readText_dec2 sv.data.toList
          have HRT := Lib.hid (fun w => readtext_c sv w hsz)
          obtain ⟨⟨u, p, e⟩, hrd⟩ : ∃ x, readText sv.data.toList = x := ⟨_, rfl⟩
          rw [hrd] at HZE hdc HRT
          simp only at HZE hdc
          unfold RetD at HRT
          simp only at HRT
          have HDC := Lib.hid hdc
          have hbd := scl_bd hdc
          have HSM := Lib.hid (show Small z from small_of_le (by have := HBD.out; omega) (by have := HBD.out; omega))
          have HSV := Lib.hid (show Small (scaled u p 9) from small_of_le (by omega) (by omega))
          have HZN := Lib.hid (show sumZr ⟨m, q, ks, hd, tl, ct, sm⟩ tag name rs (j + 1) = z + scaled u p 9 by rw [HSC.out, HZ0.out, HZE.out])
          have HZB := Lib.hid (show -((j + 1 : Nat) : Int) * 1000000000000000000000000 ≤ z + scaled u p 9 ∧ z + scaled u p 9 ≤ ((j + 1 : Nat) : Int) * 1000000000000000000000000 by have := HBD.out; omega)
          clear h0 hrd hdc hbd
          go_wp2_with fail
          refine (HRT.out _).mono ?_
          rintro _ wc ⟨rfl, hbc⟩
          have HF9 := Lib.hid (heap_old (heap_below HF8.out hbc) (.cells #[.int .i64 u, .int .i64 p] 69)); have HZ9 := Lib.hid (heap_old (heap_below HZ8.out hbc) (.cells #[.int .i64 u, .int .i64 p] 69)); have HS9 := Lib.hid (heap_old (heap_below HS8.out hbc) (.cells #[.int .i64 u, .int .i64 p] 69))
          have HD9 := Lib.hid (heap_new wc (.cells #[.int .i64 u, .int .i64 p] 69) rfl)
          have hbc9 : Below w8.heap.size w8 (wc.alloc (.cells #[.int .i64 u, .int .i64 p] 69)) := hbc.alloc hbc.size _
          have HG9 := Lib.hid (HG8.out.below hbc9)
          have HB9 := Lib.hid (below_then hbc9 HB8.out HB8.out.size)
          clear HF8 HZ8 HS8 HG8 HB8 r0 r1 r2 HR8 HRJ8 hbc hbc9 s0 hbw2
          go_upto_region 9 with fail
          obtain ⟨DB, hDB⟩ : ∃ x, wc.heap.size = x := ⟨_, rfl⟩
          rw [hDB] at HD9
          try rw [hDB]
          generalize wc.alloc (.cells #[.int .i64 u, .int .i64 p] 69) = w8 at HF9 HZ9 HS9 HD9 HG9 HB9 ⊢
          clear hDB
          have HG8 := HG9
          have HSB := Lib.hid (show ∀ wx, Below w8.heap.size w8 wx → (fun w' : World => w'.cell? ⟨SB, 0, none⟩ = some (.bool s) ∧ w'.cell? ⟨SB, 1, none⟩ = some (.slice SA sn sc) ∧ w'.cell? ⟨DB, 0, none⟩ = some (.int .i64 u) ∧ w'.cell? ⟨DB, 1, none⟩ = some (.int .i64 p)) wx from fun wx h => by
            obtain ⟨a0, a1, -, -, -⟩ := box2 (heap_below HS9.out h)
            obtain ⟨b0, b1, -, -, -⟩ := box2 (heap_below HD9.out h)
            exact ⟨a0, a1, b0, b1⟩)
          have hT : (fun w' : World => w'.cell? ⟨SB, 0, none⟩ = some (.bool s) ∧ w'.cell? ⟨SB, 1, none⟩ = some (.slice SA sn sc) ∧ w'.cell? ⟨DB, 0, none⟩ = some (.int .i64 u) ∧ w'.cell? ⟨DB, 1, none⟩ = some (.int .i64 p)) w8.drew := HSB.out _ ((Below.refl _ _).drew)
          have hfz : w8.frozen? ⟨SB, 0, none⟩ = false ∧ w8.frozen? ⟨SB, 1, none⟩ = false := ⟨(box2 HS9.out).2.2.1, (box2 HS9.out).2.2.2.1⟩
          refine region_till 4 (fun w' : World => w'.cell? ⟨SB, 0, none⟩ = some (.bool s) ∧ w'.cell? ⟨SB, 1, none⟩ = some (.slice SA sn sc) ∧ w'.cell? ⟨DB, 0, none⟩ = some (.int .i64 u) ∧ w'.cell? ⟨DB, 1, none⟩ = some (.int .i64 p)) (by kernel_rfl) ?_
          refine Till.take (i := 0) (v := ?_) rfl (by kernel_rfl) (by kernel_rfl) (by kernel_rfl) [3] (by kernel_rfl) (by decide) (by kernel_rfl) (by kernel_rfl) (fun _ _ _ h => h) hT (Or.inl ⟨by rfl, ?_⟩) ?_
          rotate_left
          · (intro w' hw'; obtain ⟨u1, u2, u3, u4⟩ := hw'; go_simp; try with_reducible rfl)
          (try simp only [Act.put, List.setIfInBounds_toArray, List.set_cons_zero, List.set_cons_succ])
          refine Till.take (i := 1) (v := ?_) rfl (by kernel_rfl) (by kernel_rfl) (by kernel_rfl) [2, 3] (by kernel_rfl) (by decide) (by kernel_rfl) (by kernel_rfl) (fun _ _ _ h => h) hT (Or.inl ⟨by rfl, ?_⟩) ?_
          rotate_left
          · (intro w' hw'; obtain ⟨u1, u2, u3, u4⟩ := hw'; go_simp; try with_reducible rfl)
          (try simp only [Act.put, List.setIfInBounds_toArray, List.set_cons_zero, List.set_cons_succ])
          refine Till.step (i := 2) (by kernel_rfl) rfl ?_
          intro K hK
          go_simp
          (go_at_call 75; refine (value_c u p _ HDC.out).mono ?_; rintro _ wa ⟨sa, Aa, na, ca, rfl, hva, hba⟩; (have Ta : Below w8.heap.size w8 wa := by exact ⟨hba.os, hba.tape, hba.output, hba.size, hba.block⟩))
          have hT : (fun w' : World => w'.cell? ⟨SB, 0, none⟩ = some (.bool s) ∧ w'.cell? ⟨SB, 1, none⟩ = some (.slice SA sn sc) ∧ w'.cell? ⟨DB, 0, none⟩ = some (.int .i64 u) ∧ w'.cell? ⟨DB, 1, none⟩ = some (.int .i64 p)) wa := HSB.out _ Ta
          refine hK.out _ _ (fun _ => hT) ?_
          clear hK K
          (try simp only [Act.put, List.setIfInBounds_toArray, List.set_cons_zero, List.set_cons_succ])
          refine Till.step (i := 3) (by kernel_rfl) rfl ?_
          intro K hK
          go_simp
          (go_at_call 74; refine (plus_c _ (HG8.out.below Ta) hva HSM.out HSV.out).mono ?_; rintro _ wb ⟨sb, Ab, nb, cb, rfl, hvb, hbb⟩; (have Tb : Below w8.heap.size w8 wb := below_then hbb Ta Ta.size))
          have hT : (fun w' : World => w'.cell? ⟨SB, 0, none⟩ = some (.bool s) ∧ w'.cell? ⟨SB, 1, none⟩ = some (.slice SA sn sc) ∧ w'.cell? ⟨DB, 0, none⟩ = some (.int .i64 u) ∧ w'.cell? ⟨DB, 1, none⟩ = some (.int .i64 p)) wb := HSB.out _ Tb
          refine hK.out _ _ (fun _ => hT) ?_
          clear hK K
          (try simp only [Act.put, List.setIfInBounds_toArray, List.set_cons_zero, List.set_cons_succ])
          obtain ⟨-, -, fz0, fz1, -⟩ := box2 (heap_below HS9.out Tb)
          refine Till.step (i := 4) (by kernel_rfl) rfl ?_
          intro K hK
          go_simp
          refine hK.out _ _ (fun h => absurd h (by decide)) ?_
          clear hK K
          (try simp only [Act.put, List.setIfInBounds_toArray, List.set_cons_zero, List.set_cons_succ])
          refine Till.done (by kernel_rfl) ?_ _
          have HSb := Lib.hid (heap_below HS9.out Tb); have HFb := Lib.hid (heap_below HF9.out Tb); have HZb := Lib.hid (heap_below HZ9.out Tb)
          have HBb := Lib.hid (below_then Tb HB9.out HB9.out.size)
          have hNS1 : w.heap.size ≠ SB ∧ w.heap.size + 1 ≠ SB ∧ w.heap.size ≤ SB := by omega
          have HF10 := Lib.hid (show ((wb.setCell ⟨SB, 0, none⟩ (.bool sb)).setCell ⟨SB, 1, none⟩ (.slice Ab nb cb)).heap[w.heap.size]? = _ from heap_far (heap_far HFb.out (p := ⟨SB, 0, none⟩) hNS1.1 _) (p := ⟨SB, 1, none⟩) hNS1.1 _)
          have HZ10 := Lib.hid (show ((wb.setCell ⟨SB, 0, none⟩ (.bool sb)).setCell ⟨SB, 1, none⟩ (.slice Ab nb cb)).heap[w.heap.size + 1]? = _ from heap_far (heap_far HZb.out (p := ⟨SB, 0, none⟩) hNS1.2.1 _) (p := ⟨SB, 1, none⟩) hNS1.2.1 _)
          have HS10 := Lib.hid (show ((wb.setCell ⟨SB, 0, none⟩ (.bool sb)).setCell ⟨SB, 1, none⟩ (.slice Ab nb cb)).heap[SB]? = some (.cells #[.bool sb, .slice Ab nb cb] 105 (0, 0)) from heap_set (heap_set HSb.out 0 _) 1 _)
          have HG10 := Lib.hid (hvb.box2 HSb.out (by decide) (.bool sb) (.slice Ab nb cb))
          have HB10 := Lib.hid ((HBb.out.setCell (p := ⟨SB, 0, none⟩) hNS1.2.2 (.bool sb)).setCell (p := ⟨SB, 1, none⟩) hNS1.2.2 (.slice Ab nb cb))
          go_wp2
          go_roundw
          case rel => exact ⟨j + 1, z + scaled u p 9, sb, Ab, nb, cb, by omega, by go_num, HZN, HZB, HG10, HF10, HZ10, HS10, HB10⟩
          case measure => simp [intOf]; omega
    · obtain rfl : j = nr := by omega
      have HE := Lib.hid (show fewF z 9 = R by rw [← HZ0.out]; exact HR.out)
      have HFE := Lib.hid (fewest_c wr 9 (by decide) HG.out (by have := HBD.out; omega))
      rw [HE.out] at HFE
      obtain ⟨a0, a1, -, -, -⟩ := box2 HS.out
      go_wp2_with fail
      refine HFE.out.mono ?_
      rintro _ w9 ⟨rfl, hb9⟩
      have hR9 := heap_below HZ.out hb9
      have hB9 := below_then hb9 HB.out hzr
      obtain ⟨z0, z1, z2, z3, z5⟩ := box2 hR9
      go_wp2
      have hz9 : ((w9.setCell ⟨w.heap.size + 1, 0, none⟩ (.int .i64 R.1)).setCell ⟨w.heap.size + 1, 1, none⟩ (.int .i64 R.2.1)).heap[w.heap.size + 1]? = some (.cells #[.int .i64 R.1, .int .i64 R.2.1] 69 (0, 0)) := heap_set (heap_set hR9 0 _) 1 _
      obtain ⟨r0, r1, -, -, -⟩ := box2 hz9
      refine bodyPost_ret (v := .tuple #[.agg #[.int .i64 R.1, .int .i64 R.2.1], .int .i64 R.2.2]) (by simp [results, Tryz.results42, go_sem, r0, r1]) rfl ⟨rfl, ?_⟩
      exact (hB9.setCell (p := ⟨w.heap.size + 1, 0, none⟩) (by show w.heap.size ≤ w.heap.size + 1; omega) _).setCell (p := ⟨w.heap.size + 1, 1, none⟩) (by show w.heap.size ≤ w.heap.size + 1; omega) _
end Go.Proofs.YtlabejjgnnlalaaGreatDoor
