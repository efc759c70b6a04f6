
/- The walks of the laws of working days. -/
import Derived.Test.YtopjdkpappiocaaA8
import Derived.Test.YtopjdkpappiocaaD7
namespace Go.Proofs.Ytopjdkpappiocaa
open Go.RowKit Limb Work

set_option maxHeartbeats 4000000 in
set_option maxRecDepth 100000 in
theorem law_workmatch (r : Int) (hs : List Int) (day n to : Int) (A : Option Addr) (m c : Nat) (w : World) (hI : Ints w A m hs) (hm : m ≤ 9223372036854775807) :
    Calls Try.prog 3 #[.agg #[.int .i64 r, .slice A m c], .int .i64 day, .int .i64 n, .int .i64 to] w fun e w' => e = .returned (.bool true) ∧ Below w.heap.size w w' := by
  obtain ⟨⟨x, f⟩, hx⟩ : ∃ R, workDay r hs day n = R := ⟨_, rfl⟩
  obtain ⟨⟨y, g⟩, hy⟩ : ∃ R, workDays r hs day to = R := ⟨_, rfl⟩
  obtain ⟨K, hK⟩ : ∃ K, calF r hs = K := ⟨_, rfl⟩
  have HX := Lib.hid hx; have HY := Lib.hid hy; have HK := Lib.hid hK
  clear hx hy hK
  have hI1 := hI.alloc (.cells #[.int .i64 r, .slice A m c] 24)
  have hB := heap_new w (.cells #[.int .i64 r, .slice A m c] 24) rfl
  have hb : Below w.heap.size w (w.alloc (.cells #[.int .i64 r, .slice A m c] 24)) := by go_grown
  go_enter Try.func3, Try.ntmps3
  go_wp2_with fail
  generalize w.alloc (.cells #[.int .i64 r, .slice A m c] 24) = w1 at hB hI1 hb ⊢
  obtain ⟨c0, c1, -, -, z1⟩ := box2 hB
  have hz := hb.size
  refine (workday_c r hs day n A m c _ hI1 hm).mono ?_
  rintro e w2 ⟨rfl, hb2⟩
  rw [HX.out]
  have hB2 := heap_below hB hb2
  have hbel2 := below_then hb2 hb hz
  have hI2 := hI1.below hb2
  clear hB hb hb2 hI1 c0 c1 z1 hz
  obtain ⟨c0, c1, -, -, z1⟩ := box2 hB2
  go_wp2_with fail
  refine (rworkday_c r hs day n A m c _ hI2 hm).mono ?_
  rintro e w3 ⟨rfl, hb3⟩
  rw [HX.out]
  have hB3 := heap_below hB2 hb3
  have hbel3 := below_then hb3 hbel2 hbel2.size
  have hI3 := hI2.below hb3
  have hz3 := hbel3.size
  clear hB2 hbel2 hb3 hI2 c0 c1 z1
  obtain ⟨c0, c1, -, -, z1⟩ := box2 hB3
  go_wp2_with fail
  go_region_held3 (fun w' => w'.cell? ⟨w.heap.size, 0, none⟩ = some (.int .i64 r) ∧ w'.cell? ⟨w.heap.size, 1, none⟩ = some (.slice A m c))
    (first | (go_keep; done) | (refine ⟨?_, ?_⟩ <;> assumption))
    (first
      | (go_at_call 7; refine (cal_c r hs A m c _ (by exact hI3) hm).mono ?_; rintro e w4 ⟨rfl, hb4⟩; rw [HK.out]; (have hB4 := heap_below (w := w3.drew) hB3 hb4); (have hbel4 := below_then hb4 hbel3.drew hz3); (have hI4 := Ints.below (w := w3.drew) hI3 hb4); obtain ⟨r10, r11, -, -, -⟩ := box2 hB4)
      | (go_at_call 8; refine (rcal_c r hs A m c _ (by exact hI4) hm).mono ?_; rintro e w5 ⟨rfl, hb5⟩; rw [HK.out]; (have hB5 := heap_below hB4 hb5); (have hbel5 := below_then hb5 hbel4 hbel4.size); (have hI5 := hI4.below hb5); obtain ⟨r20, r21, -, -, -⟩ := box2 hB5))
  have hz5 := hbel5.size
  clear hB3 hB4 hbel3 hbel4 hI3 hI4 hb4 hb5 r10 r11 c0 c1 z1 hz3
  obtain ⟨c0, c1, -, -, z1⟩ := box2 hB5
  go_wp2_with fail
  refine (workdays_c r hs day to A m c _ hI5 hm).mono ?_
  rintro e w6 ⟨rfl, hb6⟩
  rw [HY.out]
  have hB6 := heap_below hB5 hb6
  have hbel6 := below_then hb6 hbel5 hz5
  have hI6 := hI5.below hb6
  have hz6 := hbel6.size
  clear hB5 hbel5 hb6 hI5 c0 c1 z1 hz5
  obtain ⟨c0, c1, -, -, z1⟩ := box2 hB6
  go_wp2_with fail
  refine (rworkdays_c r hs day to A m c _ hI6 hm).mono ?_
  rintro e w7 ⟨rfl, hb7⟩
  rw [HY.out]
  have hbel7 := below_then hb7 hbel6 hz6
  go_wp2_with fail
  refine (awake_c _).mono ?_
  rintro e w8 ⟨rfl, hb8⟩
  go_wp2
  go_ret
  exact ⟨rfl, below_then hb8 hbel7 hbel7.size⟩

theorem workDay_ok {r : Int} {hs : List Int} {day n to : Int} (h : workDay r hs day n = (to, 0)) : calF r hs = 0 ∧ (1 ≤ day ∧ day ≤ 3652059) ∧ (-10000 ≤ n ∧ n ≤ 10000) ∧ (1 ≤ n → day < to ∧ to ≤ 3652059 ∧ cnt (workB r hs) (day + 1) (to - day).toNat = n) := by
  unfold workDay at h
  split at h
  · rename_i hc; simp at h; exact absurd h.2 hc
  · rename_i hc
    split at h
    · simp at h
    · rename_i hd
      have hd2 : (1 ≤ day ∧ day ≤ 3652059) ∧ (-10000 ≤ n ∧ n ≤ 10000) := by omega
      refine ⟨by omega, hd2.1, hd2.2, fun h1 => ?_⟩
      rw [if_neg (by omega), if_neg (by omega)] at h
      obtain ⟨_, h3, h4, h5⟩ := seek_counts (by omega) (by omega) h
      exact ⟨h4 (by omega), h3, h5⟩
theorem workDay_fault {r : Int} {hs : List Int} {day n to f : Int} (h : workDay r hs day n = (to, f)) (hf : f ≠ 0) : to = 0 := by
  unfold workDay at h
  split at h
  · simp at h; exact h.1.symm
  · split at h
    · simp at h; exact h.1.symm
    · have key : ∀ {step : Int} {g : Nat} {d l : Int}, seek r hs step g d l = (to, f) → to = 0 := by
        intro step g d l h
        rcases seek_fault (r := r) (hs := hs) (step := step) (f := g) (day := d) (left := l) with h2 | h2
        · rw [h] at h2; exact absurd h2 hf
        · rw [h] at h2; exact h2.1
      split at h
      · exact key h
      · split at h
        · exact key h
        · exact key h
theorem workDays_in {r : Int} {hs : List Int} {a b : Int} (hc : calF r hs = 0) (ha : 1 ≤ a ∧ a ≤ 3652059) (hb : 1 ≤ b ∧ b ≤ 3652059) (hab : a ≤ b) : workDays r hs a b = (cnt (workB r hs) a (b - a).toNat, 0) := by
  unfold workDays
  rw [if_neg (fun h => h hc), if_neg (fun h => h ⟨ha, hb⟩), if_neg (by omega)]

set_option maxHeartbeats 4000000 in
set_option maxRecDepth 100000 in
theorem law_workcount (r : Int) (hs : List Int) (day n mid : Int) (A : Option Addr) (m c : Nat) (w : World) (hI : Ints w A m hs) (hm : m ≤ 9223372036854775807) (hmid : -9223372036854775808 ≤ mid ∧ mid ≤ 9223372036854775807) :
    Calls Try.prog 4 #[.agg #[.int .i64 r, .slice A m c], .int .i64 day, .int .i64 n, .int .i64 mid] w fun e w' => e = .returned (.bool true) ∧ Below w.heap.size w w' := by
  obtain ⟨⟨to, f⟩, hx⟩ : ∃ R, workDay r hs day n = R := ⟨_, rfl⟩
  have HX := Lib.hid hx
  have hI1 := hI.alloc (.cells #[.int .i64 r, .slice A m c] 24)
  have hB := heap_new w (.cells #[.int .i64 r, .slice A m c] 24) rfl
  have hb : Below w.heap.size w (w.alloc (.cells #[.int .i64 r, .slice A m c] 24)) := by go_grown
  by_cases hf : f = 0
  · subst hf
    obtain ⟨hk, hd, hn, hok⟩ := workDay_ok hx
    clear hx
    by_cases hn1 : n < 1
    · clear hk hok
      go_enter Try.func4, Try.ntmps4
      go_wp2_with fail
      generalize w.alloc (.cells #[.int .i64 r, .slice A m c] 24) = w1 at hB hI1 hb ⊢
      refine (workday_c r hs day n A m c _ hI1 hm).mono ?_
      rintro e w2 ⟨rfl, hb2⟩
      rw [HX.out]
      have hbel2 := below_then hb2 hb hb.size
      go_wp2_with fail
      refine (awake_c _).mono ?_
      rintro e w3 ⟨rfl, hb3⟩
      go_wp2
      go_ret
      exact ⟨rfl, below_then hb3 hbel2 hbel2.size⟩
    · obtain ⟨ht1, ht2, hcnt⟩ := hok (by omega)
      by_cases htm : to = 3652059
      · have htm' : (to == 3652059) = true := by simpa using htm
        clear hk hcnt htm
        go_enter Try.func4, Try.ntmps4
        go_wp2_with fail
        generalize w.alloc (.cells #[.int .i64 r, .slice A m c] 24) = w1 at hB hI1 hb ⊢
        refine (workday_c r hs day n A m c _ hI1 hm).mono ?_
        rintro e w2 ⟨rfl, hb2⟩
        rw [HX.out]
        have hbel2 := below_then hb2 hb hb.size
        go_wp2_with fail
        refine (awake_c _).mono ?_
        rintro e w3 ⟨rfl, hb3⟩
        go_wp2
        go_ret
        exact ⟨rfl, below_then hb3 hbel2 hbel2.size⟩
      · have htm' : (to == 3652059) = false := by simpa using htm
        obtain ⟨hd1, hd2⟩ := hd
        obtain ⟨hn2, hn3⟩ := hn
        have H1 := Lib.hid ((workDays_in (r := r) (hs := hs) (a := day + 1) (b := to + 1) hk (by omega) (by omega) (by omega)).trans (by rw [show (to + 1 - (day + 1)).toNat = (to - day).toNat by omega, hcnt]))
        obtain ⟨K, hK⟩ : ∃ K, mid % (to - day) = K := ⟨_, rfl⟩
        have hK1 : 0 ≤ K := by rw [← hK]; exact Int.emod_nonneg _ (by omega)
        have hK2 : K < to - day := by rw [← hK]; exact Int.emod_lt_of_pos _ (by omega)
        have HK := Lib.hid hK
        obtain ⟨x, hx⟩ : ∃ x, cnt (workB r hs) (day + 1) K.toNat = x := ⟨_, rfl⟩
        obtain ⟨y, hy⟩ : ∃ y, cnt (workB r hs) (day + 1 + K) (to - day - K).toNat = y := ⟨_, rfl⟩
        have hxb := cnt_nonneg (workB r hs) (day + 1) K.toNat
        have hyb := cnt_nonneg (workB r hs) (day + 1 + K) (to - day - K).toNat
        rw [hx] at hxb
        rw [hy] at hyb
        have H2 := Lib.hid ((workDays_in (r := r) (hs := hs) (a := day + 1) (b := day + 1 + K) hk (by omega) (by omega) (by omega)).trans (by rw [show (day + 1 + K - (day + 1)).toNat = K.toNat by omega, hx]))
        have H3 := Lib.hid ((workDays_in (r := r) (hs := hs) (a := day + 1 + K) (b := to + 1) hk (by omega) (by omega) (by omega)).trans (by rw [show (to + 1 - (day + 1 + K)).toNat = (to - day - K).toNat by omega, hy]))
        have hxy : x + y = n := by
          have h := cnt_add (workB r hs) (day + 1) K.toNat (to - day - K).toNat
          rw [show K.toNat + (to - day - K).toNat = (to - day).toNat by omega, show day + 1 + (K.toNat : Int) = day + 1 + K by omega, hcnt, hx, hy] at h
          exact h.symm
        have HXY := Lib.hid hxy
        have hx1 := hxb.1
        have hy1 := hyb.1
        have hx2 : x ≤ 4000000 := by omega
        have hy2 : y ≤ 4000000 := by omega
        clear hk hcnt htm hK hx hy hxb hyb hxy
        go_enter Try.func4, Try.ntmps4
        go_wp2_with fail
        generalize w.alloc (.cells #[.int .i64 r, .slice A m c] 24) = w1 at hB hI1 hb ⊢
        refine (workday_c r hs day n A m c _ hI1 hm).mono ?_
        rintro e w2 ⟨rfl, hb2⟩
        rw [HX.out]
        have hB2 := heap_below hB hb2
        have hbel2 := below_then hb2 hb hb.size
        have hI2 := hI1.below hb2
        clear hB hb hb2 hI1
        obtain ⟨c0, c1, -, -, z1⟩ := box2 hB2
        go_wp2_with fail
        refine (workdays_c r hs (day + 1) (to + 1) A m c _ hI2 hm).mono ?_
        rintro e w3 ⟨rfl, hb3⟩
        rw [H1.out]
        have hB3 := heap_below hB2 hb3
        have hbel3 := below_then hb3 hbel2 hbel2.size
        have hI3 := hI2.below hb3
        clear hB2 hbel2 hb3 hI2 c0 c1 z1
        go_wp2_with fail
        refine (awake_c _).mono ?_
        rintro e w4 ⟨rfl, hb4⟩
        have hB4 := heap_below hB3 hb4
        have hbel4 := below_then hb4 hbel3 hbel3.size
        have hI4 := hI3.below hb4
        clear hB3 hbel3 hb4 hI3
        obtain ⟨c0, c1, -, -, z1⟩ := box2 hB4
        go_wp2_with fail
        refine (below_c mid (to - day) _ hmid (by omega) (by omega)).mono ?_
        rintro e w5 ⟨rfl, rfl⟩
        rw [HK.out]
        go_wp2_with fail
        refine (workdays_c r hs (day + 1) (day + 1 + K) A m c _ hI4 hm).mono ?_
        rintro e w6 ⟨rfl, hb6⟩
        rw [H2.out]
        have hB6 := heap_below hB4 hb6
        have hbel6 := below_then hb6 hbel4 hbel4.size
        have hI6 := hI4.below hb6
        clear hB4 hbel4 hb6 hI4 c0 c1 z1
        obtain ⟨c0, c1, -, -, z1⟩ := box2 hB6
        go_wp2_with fail
        refine (workdays_c r hs (day + 1 + K) (to + 1) A m c _ hI6 hm).mono ?_
        rintro e w7 ⟨rfl, hb7⟩
        rw [H3.out]
        have hbel7 := below_then hb7 hbel6 hbel6.size
        have hxy := HXY.out
        subst hxy
        go_wp2
        go_ret
        exact ⟨rfl, hbel7⟩
  · have ht := workDay_fault hx hf
    subst ht
    have hf' : (f != 0) = true := by simpa using hf
    have hf2 : (f == 0) = false := by simpa using hf
    clear hx hf
    go_enter Try.func4, Try.ntmps4
    go_wp2_with fail
    generalize w.alloc (.cells #[.int .i64 r, .slice A m c] 24) = w1 at hB hI1 hb ⊢
    refine (workday_c r hs day n A m c _ hI1 hm).mono ?_
    rintro e w2 ⟨rfl, hb2⟩
    rw [HX.out]
    have hbel2 := below_then hb2 hb hb.size
    go_wp2_with fail
    refine (awake_c _).mono ?_
    rintro e w3 ⟨rfl, hb3⟩
    go_wp2
    go_ret
    exact ⟨rfl, below_then hb3 hbel2 hbel2.size⟩

end Go.Proofs.Ytopjdkpappiocaa
