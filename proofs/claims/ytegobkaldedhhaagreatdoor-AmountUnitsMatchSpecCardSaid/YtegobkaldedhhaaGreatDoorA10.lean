
/- The walks of package amount: Divided, Rounded. -/
import Derived.Test.YtegobkaldedhhaaGreatDoorA7
import Derived.Test.YtegobkaldedhhaaGreatDoorN1
import Derived.Deep.DeepCutAuto
namespace Go.Proofs.YtegobkaldedhhaaGreatDoor
open Go.RowKit Limb

theorem isway_c (v : Int) (w : World) : Calls Tryz.prog 92 #[.int .i64 v] w fun e w' => w = w' ∧ e = .returned (.bool (decide (1 ≤ v ∧ v ≤ 6))) := by
  by_cases h : 1 ≤ v ∧ v ≤ 6
  · rw [decide_eq_true h]
    go_enter Tryz.func92, Tryz.ntmps92
    go_wp2_with (go_at_call 67; refine (out_no _ _ _ _ h).mono ?_; rintro e w1 ⟨rfl, rfl⟩)
    go_ret
    exact ⟨rfl, rfl⟩
  · rw [decide_eq_false h]
    go_enter Tryz.func92, Tryz.ntmps92
    go_wp2_with (go_at_call 67; refine (out_yes _ _ _ _ h).mono ?_; rintro e w1 ⟨rfl, rfl⟩)
    go_ret
    exact ⟨rfl, rfl⟩
def wayF (p v : Int) : Int := if ¬ (0 ≤ p ∧ p ≤ 9) then 1 else if ¬ (1 ≤ v ∧ v ≤ 6) then 4 else 0
theorem wayfault_c (p v : Int) (w : World) : Calls Tryz.prog 41 #[.int .i64 p, .int .i64 v] w fun e w' => w = w' ∧ e = .returned (.int .i64 (wayF p v)) := by
  by_cases h : 0 ≤ p ∧ p ≤ 9
  · by_cases h2 : 1 ≤ v ∧ v ≤ 6
    · have e : wayF p v = 0 := by unfold wayF; rw [if_neg (by omega), if_neg (by omega)]
      rw [e]
      have H := Lib.hid (decide_eq_true h2)
      go_enter Tryz.func41, Tryz.ntmps41
      go_wp2_with (first | (go_at_call 67; refine (out_no _ _ _ _ h).mono ?_; rintro e w1 ⟨rfl, rfl⟩) | (go_at_call 92; refine (isway_c _ _).mono ?_; rintro e w1 ⟨rfl, rfl⟩; rw [H.out]))
      go_ret
      exact ⟨rfl, rfl⟩
    · have e : wayF p v = 4 := by unfold wayF; rw [if_neg (by omega), if_pos (by omega)]
      rw [e]
      have H := Lib.hid (decide_eq_false h2)
      go_enter Tryz.func41, Tryz.ntmps41
      go_wp2_with (first | (go_at_call 67; refine (out_no _ _ _ _ h).mono ?_; rintro e w1 ⟨rfl, rfl⟩) | (go_at_call 92; refine (isway_c _ _).mono ?_; rintro e w1 ⟨rfl, rfl⟩; rw [H.out]))
      go_ret
      exact ⟨rfl, rfl⟩
  · have e : wayF p v = 1 := by unfold wayF; rw [if_pos (by omega)]
    rw [e]
    go_enter Tryz.func41, Tryz.ntmps41
    go_wp2_with (go_at_call 67; refine (out_yes _ _ _ _ h).mono ?_; rintro e w1 ⟨rfl, rfl⟩)
    go_ret
    exact ⟨rfl, rfl⟩

theorem upB_1 {q r b : Nat} {neg : Bool} (h : 0 < r) : upB q r b neg 1 = decide (b ≤ 2 * r) := by simp [upB, Nat.pos_iff_ne_zero.1 h]
theorem upB_2 {q r b : Nat} {neg : Bool} (h : 0 < r) : upB q r b neg 2 = (decide (b < 2 * r) || (decide (2 * r = b) && decide (q % 2 = 1))) := by simp [upB, Nat.pos_iff_ne_zero.1 h]
theorem upB_3 {q r b : Nat} {neg : Bool} : upB q r b neg 3 = false := by simp [upB]
theorem upB_4 {q r b : Nat} {neg : Bool} (h : 0 < r) : upB q r b neg 4 = true := by simp [upB, Nat.pos_iff_ne_zero.1 h]
theorem upB_5 {q r b : Nat} {neg : Bool} (h : 0 < r) : upB q r b neg 5 = neg := by simp [upB, Nat.pos_iff_ne_zero.1 h]
theorem upB_6 {q r b : Nat} {neg : Bool} (h : 0 < r) : upB q r b neg 6 = !neg := by simp [upB, Nat.pos_iff_ne_zero.1 h]
theorem sgn_lt {z h : Int} (e : z.sign = h) : h < 0 ↔ z < 0 := by rw [← e]; exact Int.sign_neg_iff
theorem sgn_tri {z h : Int} (e : z.sign = h) : (0 ≤ h ↔ 0 ≤ z) ∧ (0 < h ↔ 0 < z) ∧ (h = 0 ↔ z = 0) := by
  subst e
  rcases Int.lt_trichotomy z 0 with h | h | h
  · rw [Int.sign_eq_neg_one_of_neg h]; omega
  · subst h; simp
  · rw [Int.sign_eq_one_of_pos h]; omega
theorem sgn_ge {r b : Nat} {h : Int} (e : (((r : Nat) : Int) + ((r : Nat) : Int) - ((b : Nat) : Int)).sign = h) : 0 ≤ h ↔ b ≤ 2 * r := by
  have := (sgn_tri e).1; omega
theorem sgn_gt {r b : Nat} {h : Int} (e : (((r : Nat) : Int) + ((r : Nat) : Int) - ((b : Nat) : Int)).sign = h) : 0 < h ↔ b < 2 * r := by
  have := (sgn_tri e).2.1; omega
theorem sgn_eq {r b : Nat} {h : Int} (e : (((r : Nat) : Int) + ((r : Nat) : Int) - ((b : Nat) : Int)).sign = h) : h = 0 ↔ 2 * r = b := by
  have := (sgn_tri e).2.2; omega
theorem one_190 : 1 < 10 ^ 190 := Nat.one_lt_pow (by omega) (by omega)
theorem small_two {x b r : Nat} (h : x % b = r) (hb : b < 10 ^ 190) (hb0 : 0 < b) : Small (((r : Nat) : Int) + ((r : Nat) : Int)) := by
  have h1 : r < b := by rw [← h]; exact Nat.mod_lt _ hb0
  unfold Small
  have h2 : (((r : Nat) : Int) + ((r : Nat) : Int)).natAbs = r + r := by omega
  rw [h2]
  have h3 : 10 ^ 190 * 10 ≤ 10 ^ 200 := by rw [← Nat.pow_succ]; exact Nat.pow_le_pow_right (by omega) (by omega)
  generalize 10 ^ 190 = p at *
  generalize 10 ^ 200 = q at *
  omega

set_option maxHeartbeats 4000000 in
set_option maxRecDepth 100000 in
theorem divided_c (w : World) {s t : Bool} {A B : Option Addr} {n c k d : Nat} (a : Int) (b : Nat) (v : Int) (ha : Big .u32 100 B32 w s A n c a) (hb : Big .u32 100 B32 w t B k d (b : Int)) (sa : a.natAbs < 10 ^ 190) (sb : b < 10 ^ 190) (hb0 : 0 < b) (hv : 1 ≤ v ∧ v ≤ 6) :
    Calls Tryz.prog 46 #[.agg #[.bool s, .slice A n c], .agg #[.bool t, .slice B k d], .int .i64 v] w (Makes .u32 100 B32 w (rnd a b v)) := by
  have HA := Lib.hid sa; have HB := Lib.hid sb
  obtain ⟨hv1, hv2⟩ := hv
  clear sa sb
  go_enter Tryz.func46, Tryz.ntmps46
  go_wp2_with fail
  have HW := boxes3 w (.bool s) (.slice A n c) (.bool t) (.slice B k d) (.bool false) (.slice none 0 0) 56 56 56
  generalize ((w.alloc (.cells #[.bool s, .slice A n c] 56)).alloc (.cells #[.bool t, .slice B k d] 56)).alloc (.cells #[.bool false, .slice none 0 0] 56) = w1 at HW ⊢
  obtain ⟨hX, hY, hR, hbel⟩ := HW _ rfl
  clear HW
  refine (by_c _ (ha.below hbel) (hb.below hbel) (small_190 HA.out) (small_nat HB.out) (by omega)).mono ?_
  rintro e w2 ⟨sq, Aq, nq, cq, sr, Ar, nr, cr, rfl, hq, hr, hb2⟩
  rw [Int.natAbs_natCast] at hq hr
  obtain ⟨q, hqe⟩ : ∃ q, a.natAbs / b = q := ⟨_, rfl⟩
  obtain ⟨r, hre⟩ : ∃ r, a.natAbs % b = r := ⟨_, rfl⟩
  have HQ := Lib.hid hqe; have HRR := Lib.hid hre
  have hrb : r < b := by rw [← hre]; exact Nat.mod_lt _ hb0
  rw [hqe] at hq
  rw [hre] at hr
  clear hqe hre
  have hlR := lt_heap hR
  have hX2 := heap_old (heap_old (heap_below hX hb2) (.cells #[.bool sq, .slice Aq nq cq] 56)) (.cells #[.bool sr, .slice Ar nr cr] 56)
  have hY2 := heap_old (heap_old (heap_below hY hb2) (.cells #[.bool sq, .slice Aq nq cq] 56)) (.cells #[.bool sr, .slice Ar nr cr] 56)
  have hR2 := heap_old (heap_old (heap_below hR hb2) (.cells #[.bool sq, .slice Aq nq cq] 56)) (.cells #[.bool sr, .slice Ar nr cr] 56)
  have hQ2 := heap_old (heap_new w2 (.cells #[.bool sq, .slice Aq nq cq] 56) rfl) (.cells #[.bool sr, .slice Ar nr cr] 56)
  have hE2 := heap_new (w2.alloc (.cells #[.bool sq, .slice Aq nq cq] 56)) (.cells #[.bool sr, .slice Ar nr cr] 56) rfl
  rw [World.size_alloc] at hE2
  have hq2 := (hq.alloc (.cells #[.bool sq, .slice Aq nq cq] 56)).alloc (.cells #[.bool sr, .slice Ar nr cr] 56)
  have hr2 := (hr.alloc (.cells #[.bool sq, .slice Aq nq cq] 56)).alloc (.cells #[.bool sr, .slice Ar nr cr] 56)
  have hbel2 := ((below_then hb2 hbel hbel.size).alloc (by have := hbel.size; have := hb2.size; omega) (.cells #[.bool sq, .slice Aq nq cq] 56)).alloc (by have := hbel.size; have := hb2.size; simp; omega) (.cells #[.bool sr, .slice Ar nr cr] 56)
  have hLR : w.heap.size + 1 + 1 < w2.heap.size := Nat.lt_of_lt_of_le hlR hb2.size
  have sq1 : Small (q : Int) := small_190 (by rw [Int.natAbs_natCast, ← HQ.out]; exact Nat.lt_of_le_of_lt (Nat.div_le_self _ _) HA.out)
  have sr1 : Small (r : Int) := small_190 (by rw [Int.natAbs_natCast]; exact Nat.lt_trans hrb HB.out)
  go_wp2_with fail
  obtain ⟨σ, hσ⟩ : ∃ σ, ((r : Nat) : Int).sign = σ := ⟨_, rfl⟩
  have HSG := Lib.hid hσ; clear hσ
  clear hX hY hR hbel hb2 hq hr hlR
  generalize w2.heap.size = L at hQ2 hE2 hLR ⊢
  generalize (w2.alloc (.cells #[.bool sq, .slice Aq nq cq] 56)).alloc (.cells #[.bool sr, .slice Ar nr cr] 56) = w3 at hX2 hY2 hR2 hQ2 hE2 hq2 hr2 hbel2 ⊢
  refine (sign_c _ hr2).mono ?_
  rintro e w4 ⟨rfl, hb4⟩
  rw [HSG.out]
  go_upto_if 19 with fail
  have hX4 := heap_below hX2 hb4
  have hY4 := heap_below hY2 hb4
  have hR4 := heap_below hR2 hb4
  have hQ4 := heap_below hQ2 hb4
  have hE4 := heap_below hE2 hb4
  have hq4 := hq2.below hb4
  have hr4 := hr2.below hb4
  have hbel4 := below_then hb4 hbel2 hbel2.size
  have hD4 := (hb.below hbel2).below hb4
  have hA4 := (ha.below hbel2).below hb4
  clear hX2 hY2 hR2 hQ2 hE2 hq2 hr2 hbel2 hb4
  have hz4 := hbel4.size
  have hlE4 := lt_heap hE4
  go_cut [] (fun wx => ∃ (s7 : Bool) (A7 : Option Addr) (n7 c7 : Nat), wx.heap[L]? = some (.cells #[.bool s7, .slice A7 n7 c7] 56 (0, 0)) ∧ Big .u32 100 B32 wx s7 A7 n7 c7 ((q + if upB q r b (decide (a < 0)) v then 1 else 0 : Nat) : Int) ∧ Big .u32 100 B32 wx s A n c a ∧ wx.heap[w.heap.size]? = some (.cells #[.bool s, .slice A n c] 56 (0, 0)) ∧ wx.heap[w.heap.size + 1 + 1]? = some (.cells #[.bool false, .slice none 0 0] 56 (0, 0)) ∧ Below w.heap.size w wx)
  case first =>
    rcases Nat.eq_zero_or_pos r with h0 | h0
    · have hσ0 : σ = 0 := by rw [← HSG.out, h0]; rfl
      subst hσ0
      have hup : upB q r b (decide (a < 0)) v = false := by rw [h0]; exact upB_zero
      have HUP := Lib.hid hup
      clear hup h0
      go_wp2_with fail
      go_meet
      exact ⟨sq, Aq, nq, cq, hQ4, by rw [HUP.out]; simpa using hq4, hA4, hX4, hR4, hbel4⟩
    · have hσ1 : σ = 1 := by rw [← HSG.out]; exact Int.sign_eq_one_of_pos (by omega)
      subst hσ1
      obtain ⟨h, hh⟩ : ∃ h, (((r : Nat) : Int) + ((r : Nat) : Int) - ((b : Nat) : Int)).sign = h := ⟨_, rfl⟩
      have HH := Lib.hid hh; clear hh
      obtain ⟨y0, y1, -, -, -⟩ := box2 hY4
      obtain ⟨e0, e1, -, -, -⟩ := box2 hE4
      go_wp2_with fail
      go_region_held3 (fun w' => w'.cell? ⟨L + 1, 0, none⟩ = some (.bool sr) ∧ w'.cell? ⟨L + 1, 1, none⟩ = some (.slice Ar nr cr) ∧ w'.cell? ⟨w.heap.size + 1, 0, none⟩ = some (.bool t) ∧ w'.cell? ⟨w.heap.size + 1, 1, none⟩ = some (.slice B k d))
        (first | (with_reducible exact ⟨e50, e51, y50, y51⟩) | (with_reducible exact ⟨e60, e61, y60, y61⟩) | exact ⟨e0, e1, y0, y1⟩)
        (first
          | (go_at_call 96; refine (plus_c _ (by exact hr4) (by exact hr4) sr1 sr1).mono ?_; rintro e w5 ⟨s5, A5, n5, c5, rfl, hv5, hb5⟩; (have hY5 := heap_below (w := w4.drew) hY4 hb5); (have hE5 := heap_below (w := w4.drew) hE4 hb5); obtain ⟨y50, y51, -, -, -⟩ := box2 hY5; obtain ⟨e50, e51, -, -, -⟩ := box2 hE5)
          | (go_at_call 97; refine (compareI_c _ hv5 (by exact Big.below (w := w4.drew) hD4 hb5) (small_two HRR.out HB.out hb0) (small_nat HB.out)).mono ?_; rintro e w6 ⟨rfl, hb6⟩; rw [HH.out]; (have hY6 := heap_below hY5 hb6); (have hE6 := heap_below hE5 hb6); obtain ⟨y60, y61, -, -, -⟩ := box2 hY6; obtain ⟨e60, e61, -, -, -⟩ := box2 hE6))
      have hX6 := heap_below (heap_below (w := w4.drew) hX4 hb5) hb6
      have hR6 := heap_below (heap_below (w := w4.drew) hR4 hb5) hb6
      have hQ6 := heap_below (heap_below (w := w4.drew) hQ4 hb5) hb6
      have hq6 := (Big.below (w := w4.drew) hq4 hb5).below hb6
      have hA6 := (Big.below (w := w4.drew) hA4 hb5).below hb6
      have hbel6 := below_then hb6 (below_then hb5 hbel4.drew hz4) (by have := hb5.size; have : w4.drew.heap.size = w4.heap.size := rfl; omega)
      clear hX4 hY4 hR4 hQ4 hE4 hq4 hr4 hbel4 hD4 hA4 hb5 hb6 hY5 hE5 hY6 hE6 y0 y1 e0 e1 y50 y51 e50 e51 y60 y61 e60 e61 hv5
      have hz6 := hbel6.size
      obtain ⟨τ, hτ⟩ : ∃ τ, a.sign = τ := ⟨_, rfl⟩
      have HT := Lib.hid hτ; clear hτ
      obtain ⟨x0, x1, -, -, -⟩ := box2 hX6
      obtain ⟨q0, q1, q2, q3, q4⟩ := box2 hQ6
      go_wp2_with fail
      refine (sign_c _ hA6).mono ?_
      rintro e w7 ⟨rfl, hb7⟩
      rw [HT.out]
      have hX7 := heap_below hX6 hb7
      have hR7 := heap_below hR6 hb7
      have hQ7 := heap_below hQ6 hb7
      have hq7 := hq6.below hb7
      have hA7 := hA6.below hb7
      have hbel7 := below_then hb7 hbel6 hz6
      clear hX6 hR6 hQ6 hq6 hA6 hbel6 hb7 x0 x1 q0 q1 q2 q3 q4
      have hz7 := hbel7.size
      go_upto_region 5 with fail
      obtain ⟨U, hU⟩ : ∃ U, upB q r b (decide (a < 0)) v = U := ⟨_, rfl⟩
      have HU := Lib.hid hU; clear hU
      obtain ⟨q0, q1, q2, q3, q4⟩ := box2 hQ7
      have H0 := Lib.hid h0
      clear h0
      go_cut [68] (fun cv wx => cv = .bool U ∧ ∃ (s7 : Bool) (A7 : Option Addr) (n7 c7 : Nat), wx.heap[L]? = some (.cells #[.bool s7, .slice A7 n7 c7] 56 (0, 0)) ∧ Big .u32 100 B32 wx s7 A7 n7 c7 ((q : Nat) : Int) ∧ Big .u32 100 B32 wx s A n c a ∧ wx.heap[w.heap.size]? = some (.cells #[.bool s, .slice A n c] 56 (0, 0)) ∧ wx.heap[w.heap.size + 1 + 1]? = some (.cells #[.bool false, .slice none 0 0] 56 (0, 0)) ∧ Below w.heap.size w wx)
      case first =>
        have hv6 : v = 1 ∨ v = 2 ∨ v = 3 ∨ v = 4 ∨ v = 5 ∨ v = 6 := by omega
        rcases hv6 with rfl | rfl | rfl | rfl | rfl | rfl
        · by_cases hc : 0 ≤ h
          · go_wp2_with fail
            go_meet
            exact ⟨congrArg Value.bool ((by rw [← HU.out, upB_1 H0.out]; exact (decide_eq_true ((sgn_ge HH.out).1 hc)).symm)), sq, Aq, nq, cq, hQ7, hq7, hA7, hX7, hR7, hbel7⟩
          · go_wp2_with fail
            go_meet
            exact ⟨congrArg Value.bool ((by rw [← HU.out, upB_1 H0.out]; exact (decide_eq_false (p := b ≤ 2 * r) (fun h2 => by have := (sgn_ge HH.out).2 h2; omega)).symm)), sq, Aq, nq, cq, hQ7, hq7, hA7, hX7, hR7, hbel7⟩
        · rcases Int.lt_trichotomy h 0 with hc | hc | hc
          · go_wp2_with fail
            go_meet
            exact ⟨congrArg Value.bool (by rw [← HU.out, upB_2 H0.out, decide_eq_false (p := b < 2 * r) (fun h2 => by have := (sgn_gt HH.out).2 h2; omega), decide_eq_false (p := 2 * r = b) (fun h2 => by have := (sgn_eq HH.out).2 h2; omega)]; simp; omega), sq, Aq, nq, cq, hQ7, hq7, hA7, hX7, hR7, hbel7⟩
          · subst hc
            have HZ := Lib.hid ((sgn_eq HH.out).1 rfl)
            go_wp2_with fail
            refine (odd_c _ hq7).mono ?_
            rintro e w8 ⟨rfl, hb8⟩
            go_wp2_with fail
            go_meet
            exact ⟨congrArg Value.bool (by rw [← HU.out, upB_2 H0.out, decide_eq_false (p := b < 2 * r) (by have := HZ.out; omega), decide_eq_true (p := 2 * r = b) HZ.out]; simp; try rfl), sq, Aq, nq, cq, heap_below hQ7 hb8, hq7.below hb8, hA7.below hb8, heap_below hX7 hb8, heap_below hR7 hb8, below_then hb8 hbel7 hz7⟩
          · go_wp2_with fail
            go_meet
            exact ⟨congrArg Value.bool (by rw [← HU.out, upB_2 H0.out, decide_eq_true ((sgn_gt HH.out).1 hc)]; rfl), sq, Aq, nq, cq, hQ7, hq7, hA7, hX7, hR7, hbel7⟩
        · go_wp2_with fail
          go_meet
          exact ⟨congrArg Value.bool (by rw [← HU.out, upB_3]), sq, Aq, nq, cq, hQ7, hq7, hA7, hX7, hR7, hbel7⟩
        · go_wp2_with fail
          go_meet
          exact ⟨congrArg Value.bool (by rw [← HU.out, upB_4 H0.out]), sq, Aq, nq, cq, hQ7, hq7, hA7, hX7, hR7, hbel7⟩
        · by_cases hc : τ < 0
          · go_wp2_with fail
            go_meet
            exact ⟨congrArg Value.bool (by rw [← HU.out, upB_5 H0.out, decide_eq_true (p := a < 0) ((sgn_lt HT.out).1 hc)]; try rfl), sq, Aq, nq, cq, hQ7, hq7, hA7, hX7, hR7, hbel7⟩
          · go_wp2_with fail
            go_meet
            exact ⟨congrArg Value.bool (by rw [← HU.out, upB_5 H0.out, decide_eq_false (p := a < 0) (fun h2 => by have := (sgn_lt HT.out).2 h2; omega)]; try rfl), sq, Aq, nq, cq, hQ7, hq7, hA7, hX7, hR7, hbel7⟩
        · by_cases hc : τ < 0
          · go_wp2_with fail
            go_meet
            exact ⟨congrArg Value.bool (by rw [← HU.out, upB_6 H0.out, decide_eq_true (p := a < 0) ((sgn_lt HT.out).1 hc)]; try rfl), sq, Aq, nq, cq, hQ7, hq7, hA7, hX7, hR7, hbel7⟩
          · go_wp2_with fail
            go_meet
            exact ⟨congrArg Value.bool (by rw [← HU.out, upB_6 H0.out, decide_eq_false (p := a < 0) (fun h2 => by have := (sgn_lt HT.out).2 h2; omega)]; try rfl), sq, Aq, nq, cq, hQ7, hq7, hA7, hX7, hR7, hbel7⟩
      case rest =>
        obtain ⟨rfl, s7, A7, n7, c7, hQ, hq, hA, hX, hR, hbel⟩ := hcut
        clear hQ7 hq7 hA7 hX7 hR7 hbel7 hz7 q0 q1 q2 q3 q4
        have hz := hbel.size
        obtain ⟨q0, q1, q2, q3, q4⟩ := box2 hQ
        cases U with
        | false =>
          go_wp2_with fail
          go_meet
          exact ⟨s7, A7, n7, c7, hQ, by rw [HU.out]; simpa using hq, hA, hX, hR, hbel⟩
        | true =>
          go_wp2_with fail
          go_region_with
            (first
              | (go_at_call 42; refine (of_c 1 _ (by omega) (by omega)).mono ?_; rintro e w8 ⟨s8, A8, n8, c8, rfl, hv8, hb8⟩; (have hQ8 := heap_below (w := wc.drew) hQ hb8); obtain ⟨q80, q81, -, -, -⟩ := box2 hQ8)
              | (go_at_call 96; refine (plus_c _ (by exact Big.below (w := wc.drew) hq hb8) hv8 sq1 (small_nat (Z := 1) one_190)).mono ?_; rintro e w9 ⟨s9, A9, n9, c9, rfl, hv9, hb9⟩; (have hQ9 := heap_below hQ8 hb9); obtain ⟨q90, q91, q92, q93, q94⟩ := box2 hQ9))
          all_goals
            have hX9 := heap_below (heap_below (w := wc.drew) hX hb8) hb9
            have hR9 := heap_below (heap_below (w := wc.drew) hR hb8) hb9
            have hA9 := (Big.below (w := wc.drew) hA hb8).below hb9
            have hbel9 := below_then hb9 (below_then hb8 hbel.drew hz) (Nat.le_trans hz hb8.size)
            have hQ10 : ((w9.setCell ⟨L, 0, none⟩ (.bool s9)).setCell ⟨L, 1, none⟩ (.slice A9 n9 c9)).heap[L]? = some (.cells #[.bool s9, .slice A9 n9 c9] 56 (0, 0)) := heap_set (heap_set hQ9 0 _) 1 _
            have hq10 := hv9.box2 hQ9 (by decide) (.bool s9) (.slice A9 n9 c9)
            have hA10 := hA9.box2 hQ9 (by decide) (.bool s9) (.slice A9 n9 c9)
            have hX10 := heap_far (heap_far hX9 (p := ⟨L, 0, none⟩) (by dsimp only; omega) (.bool s9)) (p := ⟨L, 1, none⟩) (by dsimp only; omega) (.slice A9 n9 c9)
            have hR10 := heap_far (heap_far hR9 (p := ⟨L, 0, none⟩) (by dsimp only; omega) (.bool s9)) (p := ⟨L, 1, none⟩) (by dsimp only; omega) (.slice A9 n9 c9)
            have hbel10 := (hbel9.setCell (p := ⟨L, 0, none⟩) (by dsimp only; omega) (.bool s9)).setCell (p := ⟨L, 1, none⟩) (by dsimp only; omega) (.slice A9 n9 c9)
            generalize (w9.setCell ⟨L, 0, none⟩ (.bool s9)).setCell ⟨L, 1, none⟩ (.slice A9 n9 c9) = w10 at hQ10 hq10 hA10 hX10 hR10 hbel10 ⊢
            go_wp2_with fail
            go_meet
            exact ⟨s9, A9, n9, c9, hQ10, by rw [HU.out]; simpa using hq10, hA10, hX10, hR10, hbel10⟩
  case rest =>
    obtain ⟨s7, A7, n7, c7, hQ, hq, hA, hX, hR, hbel⟩ := hcut
    clear hX4 hY4 hR4 hQ4 hE4 hq4 hr4 hbel4 hD4 hA4 hz4 hlE4
    obtain ⟨x0, x1, -, -, -⟩ := box2 hX
    have hz := hbel.size
    have hfin : rnd a b v = if a < 0 then -((q + if upB q r b (decide (a < 0)) v then 1 else 0 : Nat) : Int) else ((q + if upB q r b (decide (a < 0)) v then 1 else 0 : Nat) : Int) := by unfold rnd; rw [HQ.out, HRR.out]
    have HF := Lib.hid hfin; clear hfin
    generalize (q + if upB q r b (decide (a < 0)) v then 1 else 0 : Nat) = m at *
    by_cases hneg : a < 0
    · have HS := Lib.hid (Int.sign_eq_neg_one_of_neg hneg)
      have HF2 := Lib.hid (HF.out.trans (if_pos hneg))
      clear HF hneg
      go_wp2_with fail
      refine (sign_c _ hA).mono ?_
      rintro e w5 ⟨rfl, hb5⟩
      rw [HS.out]
      have hQ5 := heap_below hQ hb5
      have hR5 := heap_below hR hb5
      have hq5 := hq.below hb5
      have hbel5 := below_then hb5 hbel hz
      clear hQ hR hq hA hX hbel x0 x1 hb5
      obtain ⟨q0, q1, -, -, -⟩ := box2 hQ5
      go_wp2_with fail
      refine (minus_c _ hq5).mono ?_
      rintro e w6 ⟨s6, A6, n6, c6, rfl, hv6, hb6⟩
      have hR6 := heap_below hR5 hb6
      obtain ⟨g0, g1, g2, g3, g4⟩ := box2 hR6
      have hbel6 := below_then hb6 hbel5 hbel5.size
      go_wp2
      refine bodyPost_ret (v := .agg #[.bool s6, .slice A6 n6 c6]) (by simp [results, Tryz.results46, go_sem, g0, g1]) rfl ⟨s6, A6, n6, c6, rfl, by rw [HF2.out]; exact hv6.box2 hR6 (by decide) _ _, ?_⟩
      go_grown
    · have HF2 := Lib.hid (HF.out.trans (if_neg hneg))
      obtain ⟨σ, hσ⟩ : ∃ σ, a.sign = σ := ⟨_, rfl⟩
      have hσ0 : ¬ σ < 0 := fun h2 => hneg ((sgn_lt hσ).1 h2)
      have HS := Lib.hid hσ
      clear HF hneg hσ
      go_wp2_with fail
      refine (sign_c _ hA).mono ?_
      rintro e w5 ⟨rfl, hb5⟩
      rw [HS.out]
      have hQ5 := heap_below hQ hb5
      have hR5 := heap_below hR hb5
      have hq5 := hq.below hb5
      have hbel5 := below_then hb5 hbel hz
      clear hQ hR hq hA hX hbel x0 x1 hb5
      obtain ⟨q0, q1, -, -, -⟩ := box2 hQ5
      obtain ⟨g0, g1, g2, g3, g4⟩ := box2 hR5
      go_wp2
      refine bodyPost_ret (v := .agg #[.bool s7, .slice A7 n7 c7]) (by simp [results, Tryz.results46, go_sem, g0, g1]) rfl ⟨s7, A7, n7, c7, rfl, by rw [HF2.out]; exact hq5.box2 hR5 (by decide) _ _, ?_⟩
      go_grown

end Go.Proofs.YtegobkaldedhhaaGreatDoor
