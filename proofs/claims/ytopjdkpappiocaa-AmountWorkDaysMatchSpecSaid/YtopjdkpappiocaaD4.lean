
/- The walks of working days: the n-th working day after a day, in the program. -/
import Derived.Test.YtopjdkpappiocaaD3
namespace Go.Proofs.Ytopjdkpappiocaa
open Go.RowKit Limb Work

set_option maxHeartbeats 4000000 in
set_option maxRecDepth 100000 in
theorem workday_cal (r : Int) (hs : List Int) (day n : Int) (A : Option Addr) (m c : Nat) (w : World) (hI : Ints w A m hs) (hm : m ≤ 9223372036854775807) (hc : calF r hs ≠ 0) :
    Calls Try.prog 5 #[.agg #[.int .i64 r, .slice A m c], .int .i64 day, .int .i64 n] w (RetIF 0 (calF r hs) w) := by
  obtain ⟨K, hK⟩ : ∃ K, calF r hs = K := ⟨_, rfl⟩
  have HK := Lib.hid hK
  have hI1 := hI.alloc (.cells #[.int .i64 r, .slice A m c] 24)
  have hB := heap_new w (.cells #[.int .i64 r, .slice A m c] 24) rfl
  have hb : Below w.heap.size w (w.alloc (.cells #[.int .i64 r, .slice A m c] 24)) := by go_grown
  have hk : (K != 0) = true := by rw [← hK]; simpa using hc
  rw [hK]
  clear hK hc
  go_enter Try.func5, Try.ntmps5
  go_wp2_with fail
  generalize w.alloc (.cells #[.int .i64 r, .slice A m c] 24) = w1 at hB hI1 hb ⊢
  obtain ⟨c0, c1, -, -, z1⟩ := box2 hB
  have hz := hb.size
  refine (cal_c r hs A m c _ hI1 hm).mono ?_
  rintro e w2 ⟨rfl, hb2⟩
  rw [HK.out]
  have hB2 := heap_below hB hb2
  have hbel := below_then hb2 hb hz
  have hI2 := hI1.below hb2
  clear hB hb hb2 hI1 c0 c1 z1 hz
  obtain ⟨c0, c1, -, -, z1⟩ := box2 hB2
  go_wp2
  go_ret2
  exact ⟨rfl, hbel⟩

set_option maxHeartbeats 4000000 in
set_option maxRecDepth 100000 in
theorem workday_day (r : Int) (hs : List Int) (day n : Int) (A : Option Addr) (m c : Nat) (w : World) (hI : Ints w A m hs) (hm : m ≤ 9223372036854775807) (hc : calF r hs = 0) (hd : ¬ (1 ≤ day ∧ day ≤ 3652059)) :
    Calls Try.prog 5 #[.agg #[.int .i64 r, .slice A m c], .int .i64 day, .int .i64 n] w (RetIF 0 1 w) := by
  obtain ⟨K, hK⟩ : ∃ K, calF r hs = K := ⟨_, rfl⟩
  have HK := Lib.hid hK
  have hI1 := hI.alloc (.cells #[.int .i64 r, .slice A m c] 24)
  have hB := heap_new w (.cells #[.int .i64 r, .slice A m c] 24) rfl
  have hb : Below w.heap.size w (w.alloc (.cells #[.int .i64 r, .slice A m c] 24)) := by go_grown
  obtain rfl : K = 0 := by omega
  have HD := Lib.hid (dayB_not hd)
  clear hK hc hd
  go_enter Try.func5, Try.ntmps5
  go_wp2_with fail
  generalize w.alloc (.cells #[.int .i64 r, .slice A m c] 24) = w1 at hB hI1 hb ⊢
  obtain ⟨c0, c1, -, -, z1⟩ := box2 hB
  have hz := hb.size
  refine (cal_c r hs A m c _ hI1 hm).mono ?_
  rintro e w2 ⟨rfl, hb2⟩
  rw [HK.out]
  have hB2 := heap_below hB hb2
  have hbel := below_then hb2 hb hz
  have hI2 := hI1.below hb2
  clear hB hb hb2 hI1 c0 c1 z1 hz
  obtain ⟨c0, c1, -, -, z1⟩ := box2 hB2
  go_wp2_with (go_at_call 13; refine (isday_c _ _).mono ?_; rintro e w3 ⟨rfl, rfl⟩; rw [HD.out])
  go_ret2
  exact ⟨rfl, hbel⟩

set_option maxHeartbeats 4000000 in
set_option maxRecDepth 100000 in
theorem workday_num (r : Int) (hs : List Int) (day n : Int) (A : Option Addr) (m c : Nat) (w : World) (hI : Ints w A m hs) (hm : m ≤ 9223372036854775807) (hc : calF r hs = 0) (hd : 1 ≤ day ∧ day ≤ 3652059) (hn : ¬ (-10000 ≤ n ∧ n ≤ 10000)) :
    Calls Try.prog 5 #[.agg #[.int .i64 r, .slice A m c], .int .i64 day, .int .i64 n] w (RetIF 0 1 w) := by
  obtain ⟨K, hK⟩ : ∃ K, calF r hs = K := ⟨_, rfl⟩
  have HK := Lib.hid hK
  have hI1 := hI.alloc (.cells #[.int .i64 r, .slice A m c] 24)
  have hB := heap_new w (.cells #[.int .i64 r, .slice A m c] 24) rfl
  have hb : Below w.heap.size w (w.alloc (.cells #[.int .i64 r, .slice A m c] 24)) := by go_grown
  obtain rfl : K = 0 := by omega
  have HD := Lib.hid (dayB_mk hd)
  have HN := Lib.hid hn
  clear hK hc hn
  go_enter Try.func5, Try.ntmps5
  go_wp2_with fail
  generalize w.alloc (.cells #[.int .i64 r, .slice A m c] 24) = w1 at hB hI1 hb ⊢
  obtain ⟨c0, c1, -, -, z1⟩ := box2 hB
  have hz := hb.size
  refine (cal_c r hs A m c _ hI1 hm).mono ?_
  rintro e w2 ⟨rfl, hb2⟩
  rw [HK.out]
  have hB2 := heap_below hB hb2
  have hbel := below_then hb2 hb hz
  have hI2 := hI1.below hb2
  clear hB hb hb2 hI1 c0 c1 z1 hz
  obtain ⟨c0, c1, -, -, z1⟩ := box2 hB2
  go_wp2_with (first | (go_at_call 13; refine (isday_c _ _).mono ?_; rintro e w3 ⟨rfl, rfl⟩; rw [HD.out]) | (go_at_call 14; refine (out_yes _ _ _ _ HN.out).mono ?_; rintro e w3 ⟨rfl, rfl⟩))
  go_ret2
  exact ⟨rfl, hbel⟩

set_option maxHeartbeats 4000000 in
set_option maxRecDepth 100000 in
theorem workday_neg (r : Int) (hs : List Int) (day n : Int) (A : Option Addr) (m c : Nat) (w : World) (hI : Ints w A m hs) (hm : m ≤ 9223372036854775807) (hc : calF r hs = 0) (hd : 1 ≤ day ∧ day ≤ 3652059) (hn : -10000 ≤ n ∧ n ≤ 10000) (hs1 : n < 0) :
    Calls Try.prog 5 #[.agg #[.int .i64 r, .slice A m c], .int .i64 day, .int .i64 n] w (RetIF (seek r hs (-1) (day - 1).toNat day (-n)).1 (seek r hs (-1) (day - 1).toNat day (-n)).2 w) := by
  obtain ⟨K, hK⟩ : ∃ K, calF r hs = K := ⟨_, rfl⟩
  have HK := Lib.hid hK
  have hI1 := hI.alloc (.cells #[.int .i64 r, .slice A m c] 24)
  have hB := heap_new w (.cells #[.int .i64 r, .slice A m c] 24) rfl
  have hb : Below w.heap.size w (w.alloc (.cells #[.int .i64 r, .slice A m c] 24)) := by go_grown
  obtain rfl : K = 0 := by omega
  have HD := Lib.hid (dayB_mk hd)
  have HN := Lib.hid hn
  obtain ⟨R, hR⟩ : ∃ R, seek r hs (-1) (day - 1).toNat day (-n) = R := ⟨_, rfl⟩
  rw [hR]
  have HR := Lib.hid hR
  obtain ⟨hn1, hn2⟩ := hn
  obtain ⟨hd1, hd2⟩ := hd
  clear hK hc hR
  go_enter Try.func5, Try.ntmps5
  go_wp2_with fail
  generalize w.alloc (.cells #[.int .i64 r, .slice A m c] 24) = w1 at hB hI1 hb ⊢
  obtain ⟨c0, c1, -, -, z1⟩ := box2 hB
  have hz := hb.size
  refine (cal_c r hs A m c _ hI1 hm).mono ?_
  rintro e w2 ⟨rfl, hb2⟩
  rw [HK.out]
  have hB2 := heap_below hB hb2
  have hbel := below_then hb2 hb hz
  have hI2 := hI1.below hb2
  clear hB hb hb2 hI1 c0 c1 z1 hz
  obtain ⟨c0, c1, -, -, z1⟩ := box2 hB2
  go_wp2_with (first | (go_at_call 13; refine (isday_c _ _).mono ?_; rintro e w3 ⟨rfl, rfl⟩; rw [HD.out]) | (go_at_call 14; refine (out_no _ _ _ _ HN.out).mono ?_; rintro e w3 ⟨rfl, rfl⟩))
  go_loopw [1, 10] (fun dv lv wr => ∃ (f : Nat) (dd l : Int), dv = .int .i64 dd ∧ lv = .int .i64 l ∧ 1 ≤ dd ∧ dd ≤ 3652059 ∧ 0 ≤ l ∧ l ≤ 10000 ∧ (f : Int) = dd - 1 ∧ Hid (seek r hs (-1) f dd l = R) ∧ wr.heap[w.heap.size]? = some (.cells #[.int .i64 r, .slice A m c] 24 (0, 0)) ∧ Ints wr A m hs ∧ Below w.heap.size w wr) (fun dv _ _ => (intOf dv).toNat)
  case atStart => exact ⟨(day - 1).toNat, day, -n, by go_num, by go_num, by omega, by omega, by omega, by omega, by omega, HR, hB2, hI2, hbel⟩
  case round =>
    clear hB2 hI2 hbel c0 c1 z1
    obtain ⟨f, dd, l, rfl, rfl, hq1, hq2, hq3, hq4, hf, HS, hB, hI3, hbel⟩ := hrel
    have hz := hbel.size
    obtain ⟨c0, c1, -, -, z1⟩ := box2 hB
    by_cases hl : 0 < l
    · by_cases hdy : dayB (dd + -1) = true
      · have hdb := dayB_yes hdy
        have hdb1 := hdb.1
        have hdb2 := hdb.2
        have HDY := Lib.hid hdy
        obtain ⟨g, rfl⟩ : ∃ g, f = g + 1 := ⟨f - 1, by omega⟩
        cases hw : workB r hs (dd + -1) with
        | true =>
          have HW := Lib.hid hw
          have HS2 := Lib.hid ((seek_hit hl hdy hw).symm.trans HS.out)
          clear hdy hw hdb
          go_wp2_with (first | (go_at_call 13; refine (isday_c _ _).mono ?_; rintro e w3 ⟨rfl, rfl⟩; rw [HDY.out]) | (go_at_call 15; refine (iswork_c r hs _ A m c _ hI3 HK.out (by omega)).mono ?_; rintro e w3 ⟨hb3, rfl⟩; rw [HW.out]))
          go_roundw
          case rel => exact ⟨g, dd + -1, l - 1, by go_num, by go_num, by omega, by omega, by omega, by omega, by omega, HS2, heap_below hB hb3, hI3.below hb3, below_then hb3 hbel hz⟩
          case measure => simp [intOf]; omega
        | false =>
          have HW := Lib.hid hw
          have HS2 := Lib.hid ((seek_miss hl hdy hw).symm.trans HS.out)
          clear hdy hw hdb
          go_wp2_with (first | (go_at_call 13; refine (isday_c _ _).mono ?_; rintro e w3 ⟨rfl, rfl⟩; rw [HDY.out]) | (go_at_call 15; refine (iswork_c r hs _ A m c _ hI3 HK.out (by omega)).mono ?_; rintro e w3 ⟨hb3, rfl⟩; rw [HW.out]))
          go_roundw
          case rel => exact ⟨g, dd + -1, l, by go_num, rfl, by omega, by omega, by omega, by omega, by omega, HS2, heap_below hB hb3, hI3.below hb3, below_then hb3 hbel hz⟩
          case measure => simp [intOf]; omega
      · have hdy : dayB (dd + -1) = false := by simpa using hdy
        have HDY := Lib.hid hdy
        have HE := Lib.hid (HS.out.symm.trans (seek_out hl hdy))
        clear hdy
        go_wp2_with (go_at_call 13; refine (isday_c _ _).mono ?_; rintro e w3 ⟨rfl, rfl⟩; rw [HDY.out])
        go_ret2
        exact ⟨by rw [HE.out]; rfl, hbel⟩
    · have HE := Lib.hid (HS.out.symm.trans (seek_done (by omega)))
      go_wp2
      go_ret2
      exact ⟨by rw [HE.out]; rfl, hbel⟩

set_option maxHeartbeats 4000000 in
set_option maxRecDepth 100000 in
theorem workday_zero (r : Int) (hs : List Int) (day n : Int) (A : Option Addr) (m c : Nat) (w : World) (hI : Ints w A m hs) (hm : m ≤ 9223372036854775807) (hc : calF r hs = 0) (hd : 1 ≤ day ∧ day ≤ 3652059) (hn : -10000 ≤ n ∧ n ≤ 10000) (hs1 : n = 0) :
    Calls Try.prog 5 #[.agg #[.int .i64 r, .slice A m c], .int .i64 day, .int .i64 n] w (RetIF (seek r hs (1) (3652059 - (day - 1)).toNat (day - 1) (1)).1 (seek r hs (1) (3652059 - (day - 1)).toNat (day - 1) (1)).2 w) := by
  obtain ⟨K, hK⟩ : ∃ K, calF r hs = K := ⟨_, rfl⟩
  have HK := Lib.hid hK
  have hI1 := hI.alloc (.cells #[.int .i64 r, .slice A m c] 24)
  have hB := heap_new w (.cells #[.int .i64 r, .slice A m c] 24) rfl
  have hb : Below w.heap.size w (w.alloc (.cells #[.int .i64 r, .slice A m c] 24)) := by go_grown
  obtain rfl : K = 0 := by omega
  have HD := Lib.hid (dayB_mk hd)
  have HN := Lib.hid hn
  obtain ⟨R, hR⟩ : ∃ R, seek r hs (1) (3652059 - (day - 1)).toNat (day - 1) (1) = R := ⟨_, rfl⟩
  rw [hR]
  have HR := Lib.hid hR
  obtain ⟨hn1, hn2⟩ := hn
  obtain ⟨hd1, hd2⟩ := hd
  clear hK hc hR
  have hz0 : (n == 0) = true := by simp; exact hs1
  have hz1 : ¬ n < 0 := by omega
  clear hs1
  go_enter Try.func5, Try.ntmps5
  go_wp2_with fail
  generalize w.alloc (.cells #[.int .i64 r, .slice A m c] 24) = w1 at hB hI1 hb ⊢
  obtain ⟨c0, c1, -, -, z1⟩ := box2 hB
  have hz := hb.size
  refine (cal_c r hs A m c _ hI1 hm).mono ?_
  rintro e w2 ⟨rfl, hb2⟩
  rw [HK.out]
  have hB2 := heap_below hB hb2
  have hbel := below_then hb2 hb hz
  have hI2 := hI1.below hb2
  clear hB hb hb2 hI1 c0 c1 z1 hz
  obtain ⟨c0, c1, -, -, z1⟩ := box2 hB2
  go_wp2_with (first | (go_at_call 13; refine (isday_c _ _).mono ?_; rintro e w3 ⟨rfl, rfl⟩; rw [HD.out]) | (go_at_call 14; refine (out_no _ _ _ _ HN.out).mono ?_; rintro e w3 ⟨rfl, rfl⟩))
  go_loopw [1, 10] (fun dv lv wr => ∃ (f : Nat) (dd l : Int), dv = .int .i64 dd ∧ lv = .int .i64 l ∧ 0 ≤ dd ∧ dd ≤ 3652059 ∧ 0 ≤ l ∧ l ≤ 10000 ∧ (f : Int) = 3652059 - dd ∧ Hid (seek r hs (1) f dd l = R) ∧ wr.heap[w.heap.size]? = some (.cells #[.int .i64 r, .slice A m c] 24 (0, 0)) ∧ Ints wr A m hs ∧ Below w.heap.size w wr) (fun dv _ _ => (3652060 - intOf dv).toNat)
  case atStart => exact ⟨(3652059 - (day - 1)).toNat, (day - 1), 1, by go_num, by go_num, by omega, by omega, by omega, by omega, by omega, HR, hB2, hI2, hbel⟩
  case round =>
    clear hB2 hI2 hbel c0 c1 z1
    obtain ⟨f, dd, l, rfl, rfl, hq1, hq2, hq3, hq4, hf, HS, hB, hI3, hbel⟩ := hrel
    have hz := hbel.size
    obtain ⟨c0, c1, -, -, z1⟩ := box2 hB
    by_cases hl : 0 < l
    · by_cases hdy : dayB (dd + 1) = true
      · have hdb := dayB_yes hdy
        have hdb1 := hdb.1
        have hdb2 := hdb.2
        have HDY := Lib.hid hdy
        obtain ⟨g, rfl⟩ : ∃ g, f = g + 1 := ⟨f - 1, by omega⟩
        cases hw : workB r hs (dd + 1) with
        | true =>
          have HW := Lib.hid hw
          have HS2 := Lib.hid ((seek_hit hl hdy hw).symm.trans HS.out)
          clear hdy hw hdb
          go_wp2_with (first | (go_at_call 13; refine (isday_c _ _).mono ?_; rintro e w3 ⟨rfl, rfl⟩; rw [HDY.out]) | (go_at_call 15; refine (iswork_c r hs _ A m c _ hI3 HK.out (by omega)).mono ?_; rintro e w3 ⟨hb3, rfl⟩; rw [HW.out]))
          go_roundw
          case rel => exact ⟨g, dd + 1, l - 1, by go_num, by go_num, by omega, by omega, by omega, by omega, by omega, HS2, heap_below hB hb3, hI3.below hb3, below_then hb3 hbel hz⟩
          case measure => simp [intOf]; omega
        | false =>
          have HW := Lib.hid hw
          have HS2 := Lib.hid ((seek_miss hl hdy hw).symm.trans HS.out)
          clear hdy hw hdb
          go_wp2_with (first | (go_at_call 13; refine (isday_c _ _).mono ?_; rintro e w3 ⟨rfl, rfl⟩; rw [HDY.out]) | (go_at_call 15; refine (iswork_c r hs _ A m c _ hI3 HK.out (by omega)).mono ?_; rintro e w3 ⟨hb3, rfl⟩; rw [HW.out]))
          go_roundw
          case rel => exact ⟨g, dd + 1, l, by go_num, rfl, by omega, by omega, by omega, by omega, by omega, HS2, heap_below hB hb3, hI3.below hb3, below_then hb3 hbel hz⟩
          case measure => simp [intOf]; omega
      · have hdy : dayB (dd + 1) = false := by simpa using hdy
        have HDY := Lib.hid hdy
        have HE := Lib.hid (HS.out.symm.trans (seek_out hl hdy))
        clear hdy
        go_wp2_with (go_at_call 13; refine (isday_c _ _).mono ?_; rintro e w3 ⟨rfl, rfl⟩; rw [HDY.out])
        go_ret2
        exact ⟨by rw [HE.out]; rfl, hbel⟩
    · have HE := Lib.hid (HS.out.symm.trans (seek_done (by omega)))
      go_wp2
      go_ret2
      exact ⟨by rw [HE.out]; rfl, hbel⟩

set_option maxHeartbeats 4000000 in
set_option maxRecDepth 100000 in
theorem workday_pos (r : Int) (hs : List Int) (day n : Int) (A : Option Addr) (m c : Nat) (w : World) (hI : Ints w A m hs) (hm : m ≤ 9223372036854775807) (hc : calF r hs = 0) (hd : 1 ≤ day ∧ day ≤ 3652059) (hn : -10000 ≤ n ∧ n ≤ 10000) (hs1 : 0 < n) :
    Calls Try.prog 5 #[.agg #[.int .i64 r, .slice A m c], .int .i64 day, .int .i64 n] w (RetIF (seek r hs (1) (3652059 - day).toNat day (n)).1 (seek r hs (1) (3652059 - day).toNat day (n)).2 w) := by
  obtain ⟨K, hK⟩ : ∃ K, calF r hs = K := ⟨_, rfl⟩
  have HK := Lib.hid hK
  have hI1 := hI.alloc (.cells #[.int .i64 r, .slice A m c] 24)
  have hB := heap_new w (.cells #[.int .i64 r, .slice A m c] 24) rfl
  have hb : Below w.heap.size w (w.alloc (.cells #[.int .i64 r, .slice A m c] 24)) := by go_grown
  obtain rfl : K = 0 := by omega
  have HD := Lib.hid (dayB_mk hd)
  have HN := Lib.hid hn
  obtain ⟨R, hR⟩ : ∃ R, seek r hs (1) (3652059 - day).toNat day (n) = R := ⟨_, rfl⟩
  rw [hR]
  have HR := Lib.hid hR
  obtain ⟨hn1, hn2⟩ := hn
  obtain ⟨hd1, hd2⟩ := hd
  clear hK hc hR
  have hz0 : (n == 0) = false := by simp; omega
  go_enter Try.func5, Try.ntmps5
  go_wp2_with fail
  generalize w.alloc (.cells #[.int .i64 r, .slice A m c] 24) = w1 at hB hI1 hb ⊢
  obtain ⟨c0, c1, -, -, z1⟩ := box2 hB
  have hz := hb.size
  refine (cal_c r hs A m c _ hI1 hm).mono ?_
  rintro e w2 ⟨rfl, hb2⟩
  rw [HK.out]
  have hB2 := heap_below hB hb2
  have hbel := below_then hb2 hb hz
  have hI2 := hI1.below hb2
  clear hB hb hb2 hI1 c0 c1 z1 hz
  obtain ⟨c0, c1, -, -, z1⟩ := box2 hB2
  go_wp2_with (first | (go_at_call 13; refine (isday_c _ _).mono ?_; rintro e w3 ⟨rfl, rfl⟩; rw [HD.out]) | (go_at_call 14; refine (out_no _ _ _ _ HN.out).mono ?_; rintro e w3 ⟨rfl, rfl⟩))
  go_loopw [1, 10] (fun dv lv wr => ∃ (f : Nat) (dd l : Int), dv = .int .i64 dd ∧ lv = .int .i64 l ∧ 0 ≤ dd ∧ dd ≤ 3652059 ∧ 0 ≤ l ∧ l ≤ 10000 ∧ (f : Int) = 3652059 - dd ∧ Hid (seek r hs (1) f dd l = R) ∧ wr.heap[w.heap.size]? = some (.cells #[.int .i64 r, .slice A m c] 24 (0, 0)) ∧ Ints wr A m hs ∧ Below w.heap.size w wr) (fun dv _ _ => (3652060 - intOf dv).toNat)
  case atStart => exact ⟨(3652059 - day).toNat, day, n, by go_num, by go_num, by omega, by omega, by omega, by omega, by omega, HR, hB2, hI2, hbel⟩
  case round =>
    clear hB2 hI2 hbel c0 c1 z1
    obtain ⟨f, dd, l, rfl, rfl, hq1, hq2, hq3, hq4, hf, HS, hB, hI3, hbel⟩ := hrel
    have hz := hbel.size
    obtain ⟨c0, c1, -, -, z1⟩ := box2 hB
    by_cases hl : 0 < l
    · by_cases hdy : dayB (dd + 1) = true
      · have hdb := dayB_yes hdy
        have hdb1 := hdb.1
        have hdb2 := hdb.2
        have HDY := Lib.hid hdy
        obtain ⟨g, rfl⟩ : ∃ g, f = g + 1 := ⟨f - 1, by omega⟩
        cases hw : workB r hs (dd + 1) with
        | true =>
          have HW := Lib.hid hw
          have HS2 := Lib.hid ((seek_hit hl hdy hw).symm.trans HS.out)
          clear hdy hw hdb
          go_wp2_with (first | (go_at_call 13; refine (isday_c _ _).mono ?_; rintro e w3 ⟨rfl, rfl⟩; rw [HDY.out]) | (go_at_call 15; refine (iswork_c r hs _ A m c _ hI3 HK.out (by omega)).mono ?_; rintro e w3 ⟨hb3, rfl⟩; rw [HW.out]))
          go_roundw
          case rel => exact ⟨g, dd + 1, l - 1, by go_num, by go_num, by omega, by omega, by omega, by omega, by omega, HS2, heap_below hB hb3, hI3.below hb3, below_then hb3 hbel hz⟩
          case measure => simp [intOf]; omega
        | false =>
          have HW := Lib.hid hw
          have HS2 := Lib.hid ((seek_miss hl hdy hw).symm.trans HS.out)
          clear hdy hw hdb
          go_wp2_with (first | (go_at_call 13; refine (isday_c _ _).mono ?_; rintro e w3 ⟨rfl, rfl⟩; rw [HDY.out]) | (go_at_call 15; refine (iswork_c r hs _ A m c _ hI3 HK.out (by omega)).mono ?_; rintro e w3 ⟨hb3, rfl⟩; rw [HW.out]))
          go_roundw
          case rel => exact ⟨g, dd + 1, l, by go_num, rfl, by omega, by omega, by omega, by omega, by omega, HS2, heap_below hB hb3, hI3.below hb3, below_then hb3 hbel hz⟩
          case measure => simp [intOf]; omega
      · have hdy : dayB (dd + 1) = false := by simpa using hdy
        have HDY := Lib.hid hdy
        have HE := Lib.hid (HS.out.symm.trans (seek_out hl hdy))
        clear hdy
        go_wp2_with (go_at_call 13; refine (isday_c _ _).mono ?_; rintro e w3 ⟨rfl, rfl⟩; rw [HDY.out])
        go_ret2
        exact ⟨by rw [HE.out]; rfl, hbel⟩
    · have HE := Lib.hid (HS.out.symm.trans (seek_done (by omega)))
      go_wp2
      go_ret2
      exact ⟨by rw [HE.out]; rfl, hbel⟩

theorem workday_c (r : Int) (hs : List Int) (day n : Int) (A : Option Addr) (m c : Nat) (w : World) (hI : Ints w A m hs) (hm : m ≤ 9223372036854775807) :
    Calls Try.prog 5 #[.agg #[.int .i64 r, .slice A m c], .int .i64 day, .int .i64 n] w (RetIF (workDay r hs day n).1 (workDay r hs day n).2 w) := by
  unfold workDay
  by_cases hc : calF r hs = 0
  · rw [if_neg (fun h => h hc)]
    by_cases hd : 1 ≤ day ∧ day ≤ 3652059
    · by_cases hn : -10000 ≤ n ∧ n ≤ 10000
      · rw [if_neg (fun h => h ⟨hd, hn⟩)]
        by_cases h1 : n < 0
        · rw [if_pos h1]; exact workday_neg r hs day n A m c w hI hm hc hd hn h1
        · rw [if_neg h1]
          by_cases h2 : n = 0
          · rw [if_pos h2]; exact workday_zero r hs day n A m c w hI hm hc hd hn h2
          · rw [if_neg h2]; exact workday_pos r hs day n A m c w hI hm hc hd hn (by omega)
      · rw [if_pos (fun h => hn h.2)]; exact workday_num r hs day n A m c w hI hm hc hd hn
    · rw [if_pos (fun h => hd h.1)]; exact workday_day r hs day n A m c w hI hm hc hd
  · rw [if_pos hc]; exact workday_cal r hs day n A m c w hI hm hc

end Go.Proofs.Ytopjdkpappiocaa
