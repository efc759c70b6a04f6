
/- The walk of the reference: Round. -/
import Derived.Test.YtegobkaldedhhaaGreatDoorR7
import Derived.Test.YtegobkaldedhhaaGreatDoorR8
import Derived.Test.YtegobkaldedhhaaGreatDoorA10
import Derived.Deep.CutBlock
namespace Go.Proofs.YtegobkaldedhhaaGreatDoor
open Go.RowKit Limb
set_option linter.unusedSimpArgs false
set_option linter.unusedVariables false

theorem upB_1' {q r b : Nat} {neg : Bool} (hb : 0 < b) : upB q r b neg 1 = decide (b ≤ 2 * r) := by
  rcases Nat.eq_zero_or_pos r with h | h
  · subst h; rw [upB_zero]; exact (decide_eq_false (by omega)).symm
  · exact upB_1 h
theorem upB_2' {q r b : Nat} {neg : Bool} (hb : 0 < b) : upB q r b neg 2 = (decide (b < 2 * r) || (decide (2 * r = b) && decide (q % 2 = 1))) := by
  rcases Nat.eq_zero_or_pos r with h | h
  · subst h; rw [upB_zero, decide_eq_false (p := b < 2 * 0) (by omega), decide_eq_false (p := 2 * 0 = b) (by omega)]; rfl
  · exact upB_2 h
theorem upB_4' {q r b : Nat} {neg : Bool} : upB q r b neg 4 = decide (0 < r) := by
  rcases Nat.eq_zero_or_pos r with h | h
  · subst h; rw [upB_zero]; rfl
  · rw [upB_4 h, decide_eq_true h]
theorem upB_5' {q r b : Nat} {neg : Bool} : upB q r b neg 5 = (neg && decide (0 < r)) := by
  rcases Nat.eq_zero_or_pos r with h | h
  · subst h; rw [upB_zero]; simp
  · rw [upB_5 h, decide_eq_true h]; simp
theorem upB_6' {q r b : Nat} {neg : Bool} : upB q r b neg 6 = (!neg && decide (0 < r)) := by
  rcases Nat.eq_zero_or_pos r with h | h
  · subst h; rw [upB_zero]; simp
  · rw [upB_6 h, decide_eq_true h]; simp
theorem big_sign' {w : World} {s : Bool} {A : Option Addr} {n c : Nat} {z : Int} (h : Big .i64 3 B6 w s A n c z) : s = decide (z < 0) := by
  obtain ⟨l, _, _, _, _, nl, sl, rfl⟩ := h
  have h1 := sg_neg (b := B6) (by decide) nl sl
  cases s
  · exact (decide_eq_false (fun h => by cases h1.1 h)).symm
  · exact (decide_eq_true (h1.2 rfl)).symm
theorem big_abs6' {w : World} {s : Bool} {A : Option Addr} {n c : Nat} {z : Int} (h : Big .i64 3 B6 w s A n c z) : Big .i64 3 B6 w false A n c ((z.natAbs : Nat) : Int) := by
  obtain ⟨l, hd, h1, h2, h3, h4, h5, rfl⟩ := h
  exact ⟨l, hd, h1, h2, h3, h4, (fun h => by cases h), by rw [sg_natAbs]; rfl⟩
theorem val_odd (l : List Nat) : val B6 l % 2 = dg l 0 % 2 := by
  cases l with
  | nil => rfl
  | cons d t => show (d + B6 * val B6 t) % 2 = d % 2; unfold B6; omega
theorem big_odd {w : World} {s : Bool} {A : Option Addr} {n c : Nat} {q : Nat} (h : Big .i64 3 B6 w s A n c ((q : Nat) : Int)) :
    ∃ l, Dig w .i64 3 A n l ∧ n ≤ 9223372036854775807 ∧ dg l 0 < 1000000 ∧ q % 2 = dg l 0 % 2 := by
  obtain ⟨l, hd, h1, h2, hg, h4, h5, hz⟩ := h
  refine ⟨l, hd, by unfold maxLen at h2; omega, ?_, ?_⟩
  · cases l with
    | nil => exact Nat.zero_lt_succ _
    | cons d t => exact hg d (List.mem_cons_self ..)
  · rw [← val_odd]
    have : q = val B6 l := by have := sg_natAbs s (val B6 l); rw [← hz, Int.natAbs_natCast] at this; exact this
    rw [this]

set_option maxHeartbeats 4000000 in
set_option maxRecDepth 100000 in
theorem round_r (w : World) {s t : Bool} {A B : Option Addr} {n c k d : Nat} (a : Int) (b : Nat) (v : Int) (ha : Big .i64 3 B6 w s A n c a) (hb : Big .i64 3 B6 w t B k d (b : Int)) (sa : a.natAbs < 10 ^ 190) (sb : b < 10 ^ 190) (hb0 : 0 < b) (hv : 1 ≤ v ∧ v ≤ 6) :
    Calls Tryz.prog 54 #[.agg #[.bool s, .slice A n c], .agg #[.bool t, .slice B k d], .int .i64 v] w (Makes .i64 3 B6 w (rnd a b v)) := by
  have HA := Lib.hid sa; have HB := Lib.hid sb
  obtain ⟨hv1, hv2⟩ := hv
  have HS := Lib.hid (big_sign' ha)
  clear sa sb
  go_enter Tryz.func54, Tryz.ntmps54
  go_wp2_with fail
  have HW := boxes3 w (.bool false) (.slice A n c) (.bool t) (.slice B k d) (.bool false) (.slice none 0 0) 61 61 61
  generalize ((w.alloc (.cells #[.bool false, .slice A n c] 61)).alloc (.cells #[.bool t, .slice B k d] 61)).alloc (.cells #[.bool false, .slice none 0 0] 61) = w1 at HW ⊢
  obtain ⟨-, hY, hR, hbel⟩ := HW _ rfl
  clear HW
  refine (divmod_r _ a.natAbs b ((big_abs6' ha).below hbel) (hb.below hbel) HA.out HB.out hb0).mono ?_
  rintro e w2 ⟨sq, Aq, nq, cq, sr, Ar, nr, cr, rfl, hq, hr, hb2⟩
  obtain ⟨q, hqe⟩ : ∃ q, a.natAbs / b = q := ⟨_, rfl⟩
  obtain ⟨r, hre⟩ : ∃ r, a.natAbs % b = r := ⟨_, rfl⟩
  have HQ := Lib.hid hqe; have HRR := Lib.hid hre
  have hrb : r < b := by rw [← hre]; exact Nat.mod_lt _ hb0
  rw [hqe] at hq
  rw [hre] at hr
  clear hqe hre
  have hlR := lt_heap hR
  have hY2 := heap_old (heap_old (heap_below hY hb2) (.cells #[.bool sq, .slice Aq nq cq] 61)) (.cells #[.bool sr, .slice Ar nr cr] 61)
  have hR2 := heap_old (heap_old (heap_below hR hb2) (.cells #[.bool sq, .slice Aq nq cq] 61)) (.cells #[.bool sr, .slice Ar nr cr] 61)
  have hQ2 := heap_old (heap_new w2 (.cells #[.bool sq, .slice Aq nq cq] 61) rfl) (.cells #[.bool sr, .slice Ar nr cr] 61)
  have hE2 := heap_new (w2.alloc (.cells #[.bool sq, .slice Aq nq cq] 61)) (.cells #[.bool sr, .slice Ar nr cr] 61) rfl
  rw [World.size_alloc] at hE2
  have hq2 := (hq.alloc (.cells #[.bool sq, .slice Aq nq cq] 61)).alloc (.cells #[.bool sr, .slice Ar nr cr] 61)
  have hr2 := (hr.alloc (.cells #[.bool sq, .slice Aq nq cq] 61)).alloc (.cells #[.bool sr, .slice Ar nr cr] 61)
  have hbel2 := ((below_then hb2 hbel hbel.size).alloc (by have := hbel.size; have := hb2.size; omega) (.cells #[.bool sq, .slice Aq nq cq] 61)).alloc (by have := hbel.size; have := hb2.size; simp; omega) (.cells #[.bool sr, .slice Ar nr cr] 61)
  have hLR : w.heap.size + 1 + 1 < w2.heap.size := Nat.lt_of_lt_of_le hlR hb2.size
  have sq1 : Small (q : Int) := small_190 (by rw [Int.natAbs_natCast, ← HQ.out]; exact Nat.lt_of_le_of_lt (Nat.div_le_self _ _) HA.out)
  have sr1 : Small (r : Int) := small_190 (by rw [Int.natAbs_natCast]; exact Nat.lt_trans hrb HB.out)
  have sr2 : Small ((r : Int) * 2) := by rw [show (r : Int) * 2 = (r : Int) + (r : Int) by omega]; exact small_two HRR.out HB.out hb0
  have HS1 := Lib.hid sq1; have HS2 := Lib.hid sr1; have HS3 := Lib.hid sr2
  clear sq1 sr1 sr2
  obtain ⟨h, hh⟩ : ∃ h, (((r : Nat) : Int) * 2 - ((b : Nat) : Int)).sign = h := ⟨_, rfl⟩
  have HH0 := Lib.hid hh
  have HH := Lib.hid (show (((r : Nat) : Int) + ((r : Nat) : Int) - ((b : Nat) : Int)).sign = h by rw [← hh]; congr 1; omega)
  clear hh
  have HD := Lib.hid (hb.below hbel2)
  go_wp2_with fail
  clear hY hR hbel hb2 hq hr hlR
  generalize w2.heap.size = L at hQ2 hE2 hLR ⊢
  generalize (w2.alloc (.cells #[.bool sq, .slice Aq nq cq] 61)).alloc (.cells #[.bool sr, .slice Ar nr cr] 61) = w3 at hY2 hR2 hQ2 hE2 hq2 hr2 hbel2 HD ⊢
  obtain ⟨y0, y1, -, -, -⟩ := box2 hY2
  obtain ⟨e0, e1, -, -, -⟩ := box2 hE2
  have hz3 := hbel2.size
  go_region_held3 (fun w' => w'.cell? ⟨L + 1, 0, none⟩ = some (.bool sr) ∧ w'.cell? ⟨L + 1, 1, none⟩ = some (.slice Ar nr cr) ∧ w'.cell? ⟨w.heap.size + 1, 0, none⟩ = some (.bool t) ∧ w'.cell? ⟨w.heap.size + 1, 1, none⟩ = some (.slice B k d))
    (first | (with_reducible exact ⟨e50, e51, y50, y51⟩) | (with_reducible exact ⟨e60, e61, y60, y61⟩) | (with_reducible exact ⟨e70, e71, y70, y71⟩) | exact ⟨e0, e1, y0, y1⟩)
    (first
      | (go_at_call 51; refine (of_r 2 _ (by omega)).mono ?_; rintro e w5 ⟨s5, A5, n5, c5, rfl, hv5, hb5⟩; (have hY5 := heap_below (w := w3.drew) hY2 hb5); (have hE5 := heap_below (w := w3.drew) hE2 hb5); obtain ⟨y50, y51, -, -, -⟩ := box2 hY5; obtain ⟨e50, e51, -, -, -⟩ := box2 hE5)
      | (go_at_call 50; refine (timesof_r _ (by exact Big.below (w := w3.drew) hr2 hb5) hv5 HS2.out (small_of_le (by omega) (by omega))).mono ?_; rintro e w6 ⟨s6, A6, n6, c6, rfl, hv6, hb6⟩; (have hY6 := heap_below hY5 hb6); (have hE6 := heap_below hE5 hb6); obtain ⟨y60, y61, -, -, -⟩ := box2 hY6; obtain ⟨e60, e61, -, -, -⟩ := box2 hE6)
      | (go_at_call 81; refine (cmp_r _ hv6 (by exact (Big.below (w := w3.drew) HD.out hb5).below hb6) HS3.out (small_nat HB.out)).mono ?_; rintro e w7 ⟨rfl, hb7⟩; rw [HH0.out]; (have hY7 := heap_below hY6 hb7); (have hE7 := heap_below hE6 hb7); obtain ⟨y70, y71, -, -, -⟩ := box2 hY7; obtain ⟨e70, e71, -, -, -⟩ := box2 hE7))
  have hR7 := heap_below (heap_below (heap_below (w := w3.drew) hR2 hb5) hb6) hb7
  have hQ7 := heap_below (heap_below (heap_below (w := w3.drew) hQ2 hb5) hb6) hb7
  have hq7 := ((Big.below (w := w3.drew) hq2 hb5).below hb6).below hb7
  have hr7 := ((Big.below (w := w3.drew) hr2 hb5).below hb6).below hb7
  have hbel5 : Below w.heap.size w w5 := below_then hb5 hbel2.drew hz3
  have hbel6 := below_then hb6 hbel5 hbel5.size
  have hbel7 := below_then hb7 hbel6 hbel6.size
  clear hY2 hR2 hQ2 hE2 hq2 hr2 hbel2 HD hb5 hb6 hb7 hY5 hE5 hY6 hE6 hY7 y0 y1 e0 e1 y50 y51 e50 e51 y60 y61 e60 e61 y70 y71 hv5 hv6 hbel5 hbel6 HH0 hz3 HS2 HS3
  have hz7 := hbel7.size
  obtain ⟨U, hU⟩ : ∃ U, upB q r b s v = U := ⟨_, rfl⟩
  have HU := Lib.hid hU; clear hU
  obtain ⟨q0, q1, q2, q3, q4⟩ := box2 hQ7
  go_upto_block 0 with fail
  go_cut [11] (fun cv wx => cv = .bool U ∧ wx.heap[L]? = some (.cells #[.bool sq, .slice Aq nq cq] 61 (0, 0)) ∧ Big .i64 3 B6 wx sq Aq nq cq ((q : Nat) : Int) ∧ wx.heap[w.heap.size + 1 + 1]? = some (.cells #[.bool false, .slice none 0 0] 61 (0, 0)) ∧ Below w.heap.size w wx)
  case first =>
    have hv6 : v = 1 ∨ v = 2 ∨ v = 3 ∨ v = 4 ∨ v = 5 ∨ v = 6 := by omega
    rcases hv6 with rfl | rfl | rfl | rfl | rfl | rfl
    · by_cases hc : 0 ≤ h
      · go_wp2_with fail
        go_meet
        exact ⟨congrArg Value.bool ((by rw [← HU.out, upB_1' hb0]; exact (decide_eq_true ((sgn_ge HH.out).1 hc)).symm)), hQ7, hq7, hR7, hbel7⟩
      · go_wp2_with fail
        go_meet
        exact ⟨congrArg Value.bool ((by rw [← HU.out, upB_1' hb0]; exact (decide_eq_false (p := b ≤ 2 * r) (fun h2 => by have := (sgn_ge HH.out).2 h2; omega)).symm)), hQ7, hq7, hR7, hbel7⟩
    · rcases Int.lt_trichotomy h 0 with hc | hc | hc
      · go_wp2_with fail
        go_meet
        exact ⟨congrArg Value.bool (by rw [← HU.out, upB_2' hb0, decide_eq_false (p := b < 2 * r) (fun h2 => by have := (sgn_gt HH.out).2 h2; omega), decide_eq_false (p := 2 * r = b) (fun h2 => by have := (sgn_eq HH.out).2 h2; omega), decide_eq_false (p := 0 < h) (by omega)]; rfl), hQ7, hq7, hR7, hbel7⟩
      · subst hc
        have HZ := Lib.hid ((sgn_eq HH.out).1 rfl)
        obtain ⟨lq, hdq, hnq, hdl, hodd⟩ := big_odd hq7
        have HO := Lib.hid hodd; clear hodd
        by_cases ho : dg lq 0 % 2 = 1
        all_goals
          go_wp2_with fail
          refine (digit_c lq Aq nq cq 0 _ hdq hnq).mono ?_
          rintro e w8 ⟨rfl, rfl⟩
          go_wp2_with fail
          go_meet
          exact ⟨congrArg Value.bool (by rw [← HU.out, upB_2' hb0, decide_eq_false (p := b < 2 * r) (by have := HZ.out; omega), decide_eq_true (p := 2 * r = b) HZ.out, HO.out]; simp [ho]; try omega), hQ7, hq7, hR7, hbel7⟩
      · go_wp2_with fail
        go_meet
        exact ⟨congrArg Value.bool (by rw [← HU.out, upB_2' hb0, decide_eq_true ((sgn_gt HH.out).1 hc)]; rfl), hQ7, hq7, hR7, hbel7⟩
    · go_wp2_with fail
      go_meet
      exact ⟨congrArg Value.bool (by rw [← HU.out, upB_3]), hQ7, hq7, hR7, hbel7⟩
    · obtain ⟨e70, e71, -, -, -⟩ := box2 hE7
      rcases Nat.eq_zero_or_pos r with h0 | h0
      · have HSG : Hid ((if ((r : Nat) : Int) < 0 then (-1 : Int) else if ((r : Nat) : Int) = 0 then 0 else 1) = 0) := Lib.hid (by rw [h0]; rfl)
        have HU0 := Lib.hid h0; clear h0
        go_wp2_with fail
        refine (sign_r hr7).mono ?_
        rintro e w8 ⟨hb8, rfl⟩
        rw [HSG.out]
        go_wp2_with fail
        go_meet
        exact ⟨congrArg Value.bool (by rw [← HU.out, upB_4', HU0.out]; rfl), heap_below hQ7 hb8, hq7.below hb8, heap_below hR7 hb8, below_then hb8 hbel7 hz7⟩
      · have HSG : Hid ((if ((r : Nat) : Int) < 0 then (-1 : Int) else if ((r : Nat) : Int) = 0 then 0 else 1) = 1) := Lib.hid (by rw [if_neg (by omega), if_neg (by omega)])
        have HU0 := Lib.hid h0; clear h0
        go_wp2_with fail
        refine (sign_r hr7).mono ?_
        rintro e w8 ⟨hb8, rfl⟩
        rw [HSG.out]
        go_wp2_with fail
        go_meet
        exact ⟨congrArg Value.bool (by rw [← HU.out, upB_4', decide_eq_true HU0.out]), heap_below hQ7 hb8, hq7.below hb8, heap_below hR7 hb8, below_then hb8 hbel7 hz7⟩
    · obtain ⟨e70, e71, -, -, -⟩ := box2 hE7
      cases s with
      | false =>
        go_wp2_with fail
        go_meet
        exact ⟨congrArg Value.bool (by rw [← HU.out, upB_5']; rfl), hQ7, hq7, hR7, hbel7⟩
      | true =>
        rcases Nat.eq_zero_or_pos r with h0 | h0
        · have HSG : Hid ((if ((r : Nat) : Int) < 0 then (-1 : Int) else if ((r : Nat) : Int) = 0 then 0 else 1) = 0) := Lib.hid (by rw [h0]; rfl)
          have HU0 := Lib.hid h0; clear h0
          go_wp2_with fail
          refine (sign_r hr7).mono ?_
          rintro e w8 ⟨hb8, rfl⟩
          rw [HSG.out]
          go_wp2_with fail
          go_meet
          exact ⟨congrArg Value.bool (by rw [← HU.out, upB_5', HU0.out]; rfl), heap_below hQ7 hb8, hq7.below hb8, heap_below hR7 hb8, below_then hb8 hbel7 hz7⟩
        · have HSG : Hid ((if ((r : Nat) : Int) < 0 then (-1 : Int) else if ((r : Nat) : Int) = 0 then 0 else 1) = 1) := Lib.hid (by rw [if_neg (by omega), if_neg (by omega)])
          have HU0 := Lib.hid h0; clear h0
          go_wp2_with fail
          refine (sign_r hr7).mono ?_
          rintro e w8 ⟨hb8, rfl⟩
          rw [HSG.out]
          go_wp2_with fail
          go_meet
          exact ⟨congrArg Value.bool (by rw [← HU.out, upB_5', decide_eq_true HU0.out]; rfl), heap_below hQ7 hb8, hq7.below hb8, heap_below hR7 hb8, below_then hb8 hbel7 hz7⟩
    · obtain ⟨e70, e71, -, -, -⟩ := box2 hE7
      cases s with
      | true =>
        go_wp2_with fail
        go_meet
        exact ⟨congrArg Value.bool (by rw [← HU.out, upB_6']; rfl), hQ7, hq7, hR7, hbel7⟩
      | false =>
        rcases Nat.eq_zero_or_pos r with h0 | h0
        · have HSG : Hid ((if ((r : Nat) : Int) < 0 then (-1 : Int) else if ((r : Nat) : Int) = 0 then 0 else 1) = 0) := Lib.hid (by rw [h0]; rfl)
          have HU0 := Lib.hid h0; clear h0
          go_wp2_with fail
          refine (sign_r hr7).mono ?_
          rintro e w8 ⟨hb8, rfl⟩
          rw [HSG.out]
          go_wp2_with fail
          go_meet
          exact ⟨congrArg Value.bool (by rw [← HU.out, upB_6', HU0.out]; rfl), heap_below hQ7 hb8, hq7.below hb8, heap_below hR7 hb8, below_then hb8 hbel7 hz7⟩
        · have HSG : Hid ((if ((r : Nat) : Int) < 0 then (-1 : Int) else if ((r : Nat) : Int) = 0 then 0 else 1) = 1) := Lib.hid (by rw [if_neg (by omega), if_neg (by omega)])
          have HU0 := Lib.hid h0; clear h0
          go_wp2_with fail
          refine (sign_r hr7).mono ?_
          rintro e w8 ⟨hb8, rfl⟩
          rw [HSG.out]
          go_wp2_with fail
          go_meet
          exact ⟨congrArg Value.bool (by rw [← HU.out, upB_6', decide_eq_true HU0.out]; rfl), heap_below hQ7 hb8, hq7.below hb8, heap_below hR7 hb8, below_then hb8 hbel7 hz7⟩
  case rest =>
    obtain ⟨rfl, hQ, hq, hR, hbel⟩ := hcut
    clear hQ7 hq7 hr7 hR7 hE7 hbel7 hz7 q0 q1 q2 q3 q4 HH
    have hz := hbel.size
    go_upto_if 68 with fail
    go_cut [] (fun wx => ∃ (s7 : Bool) (A7 : Option Addr) (n7 c7 : Nat), wx.heap[L]? = some (.cells #[.bool s7, .slice A7 n7 c7] 61 (0, 0)) ∧ Big .i64 3 B6 wx s7 A7 n7 c7 ((q + if U then 1 else 0 : Nat) : Int) ∧ wx.heap[w.heap.size + 1 + 1]? = some (.cells #[.bool false, .slice none 0 0] 61 (0, 0)) ∧ Below w.heap.size w wx)
    case first =>
      obtain ⟨q0, q1, q2, q3, q4⟩ := box2 hQ
      cases U with
      | false =>
        go_wp2_with fail
        go_meet
        exact ⟨sq, Aq, nq, cq, hQ, by simpa using hq, hR, hbel⟩
      | true =>
        go_wp2_with fail
        generalize wc = w7 at *
        go_region_with
          (first
            | (go_at_call 51; refine (of_r 1 _ (by omega)).mono ?_; rintro e w8 ⟨s8, A8, n8, c8, rfl, hv8, hb8⟩; (have hQ8 := heap_below (w := w7.drew) hQ hb8); obtain ⟨q80, q81, -, -, -⟩ := box2 hQ8)
            | (go_at_call 80; refine (plus_r _ (by exact Big.below (w := w7.drew) hq hb8) hv8 HS1.out (small_nat (Z := 1) one_190)).mono ?_; rintro e w9 ⟨s9, A9, n9, c9, rfl, hv9, hb9⟩; (have hQ9 := heap_below hQ8 hb9); obtain ⟨q90, q91, q92, q93, q94⟩ := box2 hQ9))
        all_goals
          have hR9 := heap_below (heap_below (w := w7.drew) hR hb8) hb9
          have hbel9 := below_then hb9 (below_then hb8 hbel.drew hz) (Nat.le_trans hz hb8.size)
          have hQ10 : ((w9.setCell ⟨L, 0, none⟩ (.bool s9)).setCell ⟨L, 1, none⟩ (.slice A9 n9 c9)).heap[L]? = some (.cells #[.bool s9, .slice A9 n9 c9] 61 (0, 0)) := heap_set (heap_set hQ9 0 _) 1 _
          have hq10 := hv9.box2 hQ9 (by decide) (.bool s9) (.slice A9 n9 c9)
          have hR10 := heap_far (heap_far hR9 (p := ⟨L, 0, none⟩) (by dsimp only; omega) (.bool s9)) (p := ⟨L, 1, none⟩) (by dsimp only; omega) (.slice A9 n9 c9)
          have hbel10 := (hbel9.setCell (p := ⟨L, 0, none⟩) (by dsimp only; omega) (.bool s9)).setCell (p := ⟨L, 1, none⟩) (by dsimp only; omega) (.slice A9 n9 c9)
          generalize (w9.setCell ⟨L, 0, none⟩ (.bool s9)).setCell ⟨L, 1, none⟩ (.slice A9 n9 c9) = w10 at hQ10 hq10 hR10 hbel10 ⊢
          go_wp2_with fail
          go_meet
          exact ⟨s9, A9, n9, c9, hQ10, by simpa using hq10, hR10, hbel10⟩
    case rest =>
      obtain ⟨s7, A7, n7, c7, hQ7, hq7, hR7, hbel7⟩ := hcut
      clear hQ hq hR hbel hz
      have hfin : rnd a b v = if a < 0 then -((q + if U then 1 else 0 : Nat) : Int) else ((q + if U then 1 else 0 : Nat) : Int) := by
        unfold rnd
        rw [HQ.out, HRR.out, ← HS.out, HU.out]
      have HF := Lib.hid hfin; clear hfin HQ HRR HU
      generalize (q + if U then 1 else 0 : Nat) = m at *
      have hz := hbel7.size
      cases s with
      | true =>
        have hneg : a < 0 := of_decide_eq_true HS.out.symm
        have HF2 := Lib.hid (HF.out.trans (if_pos hneg))
        clear HF hneg HS
        obtain ⟨q0, q1, -, -, -⟩ := box2 hQ7
        go_wp2_with fail
        refine (minus_r hq7).mono ?_
        rintro e w8 ⟨s8, A8, n8, c8, rfl, hv8, hb8⟩
        have hQ8 := heap_below hQ7 hb8
        have hR8 := heap_below hR7 hb8
        have hbel8 := below_then hb8 hbel7 hz
        clear hQ7 hq7 hR7 hbel7 q0 q1 hb8 hz
        obtain ⟨q0, q1, q2, q3, q4⟩ := box2 hQ8
        obtain ⟨g0, g1, g2, g3, g4⟩ := box2 hR8
        have hz8 := hbel8.size
        have hne : L ≠ w.heap.size + 1 + 1 := by omega
        have hne2 : w.heap.size + 1 + 1 ≠ L := by omega
        have hR9 := heap_far (heap_far hR8 (p := ⟨L, 0, none⟩) (by dsimp only; omega) (.bool s8)) (p := ⟨L, 1, none⟩) (by dsimp only; omega) (.slice A8 n8 c8)
        have hv9 := hv8.box2 hQ8 (by decide) (.bool s8) (.slice A8 n8 c8)
        go_wp2
        refine bodyPost_ret (v := .agg #[.bool s8, .slice A8 n8 c8]) (by simp [results, Tryz.results54, go_sem, g0, g1]) rfl ⟨s8, A8, n8, c8, rfl, by rw [HF2.out]; exact hv9.box2 hR9 (by decide) _ _, ?_⟩
        go_grown
      | false =>
        have hneg : ¬ a < 0 := of_decide_eq_false HS.out.symm
        have HF2 := Lib.hid (HF.out.trans (if_neg hneg))
        clear HF hneg HS
        obtain ⟨q0, q1, -, -, -⟩ := box2 hQ7
        obtain ⟨g0, g1, g2, g3, g4⟩ := box2 hR7
        go_wp2
        refine bodyPost_ret (v := .agg #[.bool s7, .slice A7 n7 c7]) (by simp [results, Tryz.results54, go_sem, g0, g1]) rfl ⟨s7, A7, n7, c7, rfl, by rw [HF2.out]; exact hq7.box2 hR7 (by decide) _ _, ?_⟩
        go_grown

end Go.Proofs.YtegobkaldedhhaaGreatDoor
