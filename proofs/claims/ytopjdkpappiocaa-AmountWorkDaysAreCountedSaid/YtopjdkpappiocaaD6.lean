
/- The walks of working days: how many there are between days, in the program. -/
import Derived.Test.YtopjdkpappiocaaD5
namespace Go.Proofs.Ytopjdkpappiocaa
open Go.RowKit Limb Work

theorem sumP_bd (r a : Int) (L k : Nat) (hL : L ≤ 3652059) (hk : k ≤ 7) : 0 ≤ sumP r a L k ∧ sumP r a L k ≤ 4000000 * k := by
  induction k with
  | zero => simp [sumP]
  | succ k ih =>
    have := ih (by omega)
    rw [sumP]
    unfold termP
    split <;> omega
theorem sumP_yes {r a b : Int} {k : Nat} (h : restB r (a + k) = false) (hk : a + k < b) : sumP r a (b - a).toNat (k + 1) = sumP r a (b - a).toNat k + ((b - (a + k) - 1) / 7 + 1) := by
  rw [sumP]
  unfold termP
  rw [if_pos ⟨h, by omega⟩]
  omega
theorem sumP_no {r a b : Int} {k : Nat} (h : restB r (a + k) = true ∨ ¬ a + k < b) : sumP r a (b - a).toNat (k + 1) = sumP r a (b - a).toNat k := by
  rw [sumP]
  unfold termP
  rw [if_neg]
  · omega
  · rintro ⟨h1, h2⟩
    rcases h with h | h
    · rw [h1] at h; cases h
    · omega
theorem sumRf_bd (r a b : Int) (k : Nat) (ha : 1 ≤ a) (hab : a ≤ b) (hb : b ≤ 3652059) (hk : k ≤ 7) : 0 ≤ sumRf r a b k ∧ sumRf r a b k ≤ 4000000 * k := by
  induction k with
  | zero => simp [sumRf]
  | succ k ih =>
    have := ih (by omega)
    rw [sumRf]
    unfold termR
    split <;> omega
theorem sumRf_yes {r a b : Int} {k : Nat} (h : bitB r k = false) : sumRf r a b (k + 1) = sumRf r a b k + ((b - 1 + 6 - k) / 7 - (a - 1 + 6 - k) / 7) := by
  rw [sumRf]
  unfold termR
  rw [if_pos h]
  have e1 : b - 1 + 6 - (k : Int) = b + 5 - k := by omega
  have e2 : a - 1 + 6 - (k : Int) = a + 5 - k := by omega
  rw [e1, e2]
theorem sumRf_no {r a b : Int} {k : Nat} (h : bitB r k = true) : sumRf r a b (k + 1) = sumRf r a b k := by
  rw [sumRf]
  unfold termR
  rw [if_neg (by rw [h]; simp)]
  omega
theorem holN_bd (r : Int) (hs : List Int) (a b : Int) (j : Nat) : 0 ≤ holN r hs a b j ∧ holN r hs a b j ≤ j := by
  induction j with
  | zero => simp [holN]
  | succ j ih => rw [holN]; split <;> omega
theorem holN_yes {r : Int} {hs : List Int} {a b : Int} {j : Nat} (h1 : a ≤ hol hs j) (h2 : hol hs j < b) (h3 : restB r (hol hs j) = false) : holN r hs a b (j + 1) = holN r hs a b j + 1 := by
  rw [holN, if_pos ⟨⟨h1, h2⟩, h3⟩]
theorem holN_no {r : Int} {hs : List Int} {a b : Int} {j : Nat} (h : ¬ a ≤ hol hs j ∨ ¬ hol hs j < b ∨ restB r (hol hs j) = true) : holN r hs a b (j + 1) = holN r hs a b j := by
  rw [holN, if_neg]
  · omega
  · rintro ⟨⟨h1, h2⟩, h3⟩
    rcases h with h | h | h
    · exact h h1
    · exact h h2
    · rw [h3] at h; cases h
theorem bit0_yes {r : Int} {k : Nat} (h : bitB r k = true) : (r / 2 ^ k % 2 == 0) = false := by
  unfold bitB at h
  have := of_decide_eq_true h
  simp
  omega
theorem bit0_no {r : Int} {k : Nat} (h : bitB r k = false) : (r / 2 ^ k % 2 == 0) = true := by
  unfold bitB at h
  have := of_decide_eq_false h
  simp
  omega

set_option maxHeartbeats 4000000 in
set_option maxRecDepth 100000 in
theorem workdays_cal (r : Int) (hs : List Int) (a b : Int) (A : Option Addr) (m c : Nat) (w : World) (hI : Ints w A m hs) (hm : m ≤ 9223372036854775807) (hc : calF r hs ≠ 0) :
    Calls Try.prog 9 #[.agg #[.int .i64 r, .slice A m c], .int .i64 a, .int .i64 b] w (RetIF 0 (calF r hs) w) := by
  obtain ⟨K, hK⟩ : ∃ K, calF r hs = K := ⟨_, rfl⟩
  have HK := Lib.hid hK
  have hI1 := hI.alloc (.cells #[.int .i64 r, .slice A m c] 24)
  have hB := heap_new w (.cells #[.int .i64 r, .slice A m c] 24) rfl
  have hb : Below w.heap.size w (w.alloc (.cells #[.int .i64 r, .slice A m c] 24)) := by go_grown
  have hk : (K != 0) = true := by rw [← hK]; simpa using hc
  rw [hK]
  clear hK hc
  go_enter Try.func9, Try.ntmps9
  go_wp2_with fail
  generalize w.alloc (.cells #[.int .i64 r, .slice A m c] 24) = w1 at hB hI1 hb ⊢
  obtain ⟨c0, c1, -, -, z1⟩ := box2 hB
  have hz := hb.size
  refine (cal_c r hs A m c _ hI1 hm).mono ?_
  rintro e w2 ⟨rfl, hb2⟩
  rw [HK.out]
  have hB2 := heap_below hB hb2
  have hbel := below_then hb2 hb hz
  have hI2 := hI1.below hb2
  clear hB hb hb2 hI1 c0 c1 z1 hz
  obtain ⟨c0, c1, -, -, z1⟩ := box2 hB2
  go_wp2
  go_ret2
  exact ⟨rfl, hbel⟩

set_option maxHeartbeats 4000000 in
set_option maxRecDepth 100000 in
theorem workdays_from (r : Int) (hs : List Int) (a b : Int) (A : Option Addr) (m c : Nat) (w : World) (hI : Ints w A m hs) (hm : m ≤ 9223372036854775807) (hc : calF r hs = 0) (hd : ¬ (1 ≤ a ∧ a ≤ 3652059)) :
    Calls Try.prog 9 #[.agg #[.int .i64 r, .slice A m c], .int .i64 a, .int .i64 b] w (RetIF 0 1 w) := by
  obtain ⟨K, hK⟩ : ∃ K, calF r hs = K := ⟨_, rfl⟩
  have HK := Lib.hid hK
  have hI1 := hI.alloc (.cells #[.int .i64 r, .slice A m c] 24)
  have hB := heap_new w (.cells #[.int .i64 r, .slice A m c] 24) rfl
  have hb : Below w.heap.size w (w.alloc (.cells #[.int .i64 r, .slice A m c] 24)) := by go_grown
  obtain rfl : K = 0 := by omega
  have HD := Lib.hid (dayB_not hd)
  clear hK hc hd
  go_enter Try.func9, Try.ntmps9
  go_wp2_with fail
  generalize w.alloc (.cells #[.int .i64 r, .slice A m c] 24) = w1 at hB hI1 hb ⊢
  obtain ⟨c0, c1, -, -, z1⟩ := box2 hB
  have hz := hb.size
  refine (cal_c r hs A m c _ hI1 hm).mono ?_
  rintro e w2 ⟨rfl, hb2⟩
  rw [HK.out]
  have hB2 := heap_below hB hb2
  have hbel := below_then hb2 hb hz
  have hI2 := hI1.below hb2
  clear hB hb hb2 hI1 c0 c1 z1 hz
  obtain ⟨c0, c1, -, -, z1⟩ := box2 hB2
  go_wp2_with (go_at_call 13; refine (isday_c _ _).mono ?_; rintro e w3 ⟨rfl, rfl⟩; rw [HD.out])
  go_ret2
  exact ⟨rfl, hbel⟩

set_option maxHeartbeats 4000000 in
set_option maxRecDepth 100000 in
theorem workdays_to (r : Int) (hs : List Int) (a b : Int) (A : Option Addr) (m c : Nat) (w : World) (hI : Ints w A m hs) (hm : m ≤ 9223372036854775807) (hc : calF r hs = 0) (hd : 1 ≤ a ∧ a ≤ 3652059) (hd2 : ¬ (1 ≤ b ∧ b ≤ 3652059)) :
    Calls Try.prog 9 #[.agg #[.int .i64 r, .slice A m c], .int .i64 a, .int .i64 b] w (RetIF 0 1 w) := by
  obtain ⟨K, hK⟩ : ∃ K, calF r hs = K := ⟨_, rfl⟩
  have HK := Lib.hid hK
  have hI1 := hI.alloc (.cells #[.int .i64 r, .slice A m c] 24)
  have hB := heap_new w (.cells #[.int .i64 r, .slice A m c] 24) rfl
  have hb : Below w.heap.size w (w.alloc (.cells #[.int .i64 r, .slice A m c] 24)) := by go_grown
  obtain rfl : K = 0 := by omega
  have HD := Lib.hid (dayB_mk hd)
  have HE := Lib.hid (dayB_not hd2)
  clear hK hc hd hd2
  go_enter Try.func9, Try.ntmps9
  go_wp2_with fail
  generalize w.alloc (.cells #[.int .i64 r, .slice A m c] 24) = w1 at hB hI1 hb ⊢
  obtain ⟨c0, c1, -, -, z1⟩ := box2 hB
  have hz := hb.size
  refine (cal_c r hs A m c _ hI1 hm).mono ?_
  rintro e w2 ⟨rfl, hb2⟩
  rw [HK.out]
  have hB2 := heap_below hB hb2
  have hbel := below_then hb2 hb hz
  have hI2 := hI1.below hb2
  clear hB hb hb2 hI1 c0 c1 z1 hz
  obtain ⟨c0, c1, -, -, z1⟩ := box2 hB2
  go_wp2_with (first | (go_at_call_of 13 (Value.int .i64 a); refine (isday_c _ _).mono ?_; rintro e w3 ⟨rfl, rfl⟩; rw [HD.out]) | (go_at_call_of 13 (Value.int .i64 b); refine (isday_c _ _).mono ?_; rintro e w3 ⟨rfl, rfl⟩; rw [HE.out]))
  go_ret2
  exact ⟨rfl, hbel⟩

set_option maxHeartbeats 4000000 in
set_option maxRecDepth 100000 in
theorem workdays_order (r : Int) (hs : List Int) (a b : Int) (A : Option Addr) (m c : Nat) (w : World) (hI : Ints w A m hs) (hm : m ≤ 9223372036854775807) (hc : calF r hs = 0) (hd : 1 ≤ a ∧ a ≤ 3652059) (hd2 : 1 ≤ b ∧ b ≤ 3652059) (hab : b < a) :
    Calls Try.prog 9 #[.agg #[.int .i64 r, .slice A m c], .int .i64 a, .int .i64 b] w (RetIF 0 8 w) := by
  obtain ⟨K, hK⟩ : ∃ K, calF r hs = K := ⟨_, rfl⟩
  have HK := Lib.hid hK
  have hI1 := hI.alloc (.cells #[.int .i64 r, .slice A m c] 24)
  have hB := heap_new w (.cells #[.int .i64 r, .slice A m c] 24) rfl
  have hb : Below w.heap.size w (w.alloc (.cells #[.int .i64 r, .slice A m c] 24)) := by go_grown
  obtain rfl : K = 0 := by omega
  have HD := Lib.hid (dayB_mk hd)
  have HE := Lib.hid (dayB_mk hd2)
  clear hK hc hd hd2
  go_enter Try.func9, Try.ntmps9
  go_wp2_with fail
  generalize w.alloc (.cells #[.int .i64 r, .slice A m c] 24) = w1 at hB hI1 hb ⊢
  obtain ⟨c0, c1, -, -, z1⟩ := box2 hB
  have hz := hb.size
  refine (cal_c r hs A m c _ hI1 hm).mono ?_
  rintro e w2 ⟨rfl, hb2⟩
  rw [HK.out]
  have hB2 := heap_below hB hb2
  have hbel := below_then hb2 hb hz
  have hI2 := hI1.below hb2
  clear hB hb hb2 hI1 c0 c1 z1 hz
  obtain ⟨c0, c1, -, -, z1⟩ := box2 hB2
  go_wp2_with (first | (go_at_call_of 13 (Value.int .i64 a); refine (isday_c _ _).mono ?_; rintro e w3 ⟨rfl, rfl⟩; rw [HD.out]) | (go_at_call_of 13 (Value.int .i64 b); refine (isday_c _ _).mono ?_; rintro e w3 ⟨rfl, rfl⟩; rw [HE.out]))
  go_ret2
  exact ⟨rfl, hbel⟩

set_option maxHeartbeats 4000000 in
set_option maxRecDepth 100000 in
theorem workdays_ok (r : Int) (hs : List Int) (a b : Int) (A : Option Addr) (m c : Nat) (w : World) (hI : Ints w A m hs) (hm : m ≤ 9223372036854775807) (hc : calF r hs = 0) (hd : 1 ≤ a ∧ a ≤ 3652059) (hd2 : 1 ≤ b ∧ b ≤ 3652059) (hab : a ≤ b) :
    Calls Try.prog 9 #[.agg #[.int .i64 r, .slice A m c], .int .i64 a, .int .i64 b] w (RetIF (cnt (workB r hs) a (b - a).toNat) 0 w) := by
  obtain ⟨K, hK⟩ : ∃ K, calF r hs = K := ⟨_, rfl⟩
  have HK := Lib.hid hK
  have hI1 := hI.alloc (.cells #[.int .i64 r, .slice A m c] 24)
  have hB := heap_new w (.cells #[.int .i64 r, .slice A m c] 24) rfl
  have hb : Below w.heap.size w (w.alloc (.cells #[.int .i64 r, .slice A m c] 24)) := by go_grown
  obtain rfl : K = 0 := by omega
  obtain ⟨hr, hl, hds, hS⟩ := calF_ok hc
  have HL := Lib.hid hI.1
  have hm1000 : m ≤ 1000 := by rw [← hI.1]; exact hl
  have HDS := Lib.hid hds
  have HD := Lib.hid (dayB_mk hd)
  have HE := Lib.hid (dayB_mk hd2)
  obtain ⟨R, hR⟩ : ∃ R, cnt (workB r hs) a (b - a).toNat = R := ⟨_, rfl⟩
  rw [hR]
  have HR := Lib.hid ((days_p hc hab).trans hR)
  obtain ⟨hd1, hd3⟩ := hd
  obtain ⟨hd4, hd5⟩ := hd2
  clear hK hc hR hl hds hS
  have hab' : ¬ b < a := by omega
  go_enter Try.func9, Try.ntmps9
  go_wp2_with fail
  generalize w.alloc (.cells #[.int .i64 r, .slice A m c] 24) = w1 at hB hI1 hb ⊢
  obtain ⟨c0, c1, -, -, z1⟩ := box2 hB
  have hz := hb.size
  refine (cal_c r hs A m c _ hI1 hm).mono ?_
  rintro e w2 ⟨rfl, hb2⟩
  rw [HK.out]
  have hB2 := heap_below hB hb2
  have hbel := below_then hb2 hb hz
  have hI2 := hI1.below hb2
  clear hB hb hb2 hI1 c0 c1 z1 hz
  obtain ⟨c0, c1, -, -, z1⟩ := box2 hB2
  go_wp2_with (first | (go_at_call_of 13 (Value.int .i64 a); refine (isday_c _ _).mono ?_; rintro e w3 ⟨rfl, rfl⟩; rw [HD.out]) | (go_at_call_of 13 (Value.int .i64 b); refine (isday_c _ _).mono ?_; rintro e w3 ⟨rfl, rfl⟩; rw [HE.out]))
  go_loopw [9, 30] (fun nv kv wr => ∃ k : Nat, k ≤ 7 ∧ kv = .int .i64 k ∧ nv = .int .i64 (sumP r a (b - a).toNat k) ∧ wr.heap[w.heap.size]? = some (.cells #[.int .i64 r, .slice A m c] 24 (0, 0)) ∧ Ints wr A m hs ∧ Below w.heap.size w wr) (fun _ kv _ => 7 - (intOf kv).toNat)
  case atStart => exact ⟨0, by omega, rfl, rfl, hB2, hI2, hbel⟩
  case round =>
    clear hB2 hI2 hbel c0 c1 z1
    obtain ⟨k, hk, rfl, rfl, hB, hI3, hbel⟩ := hrel
    have hz := hbel.size
    have hbd := sumP_bd r a (b - a).toNat k (by omega) hk
    obtain ⟨c0, c1, -, -, z1⟩ := box2 hB
    rcases Nat.lt_or_ge k 7 with hk7 | hk7
    · have hkI : (k : Int) ≤ 6 := by omega
      cases hx : restB r (a + k) with
      | true =>
        have HX := Lib.hid hx
        have HS := Lib.hid (sumP_no (b := b) (.inl hx))
        clear hx
        go_wp2_with (go_at_call 19; refine (rests_c r _ A m c _ hr (by omega)).mono ?_; rintro e w3 ⟨hb3, rfl⟩; rw [HX.out])
        go_roundw
        case rel => exact ⟨k + 1, by omega, by go_num, congrArg _ HS.out.symm, heap_below hB hb3, hI3.below hb3, below_then hb3 hbel hz⟩
        case measure => simp [intOf]; omega
      | false =>
        have HX := Lib.hid hx
        by_cases hlt : a + k < b
        · have HS := Lib.hid (sumP_yes (b := b) hx hlt)
          clear hx
          go_wp2_with (go_at_call 19; refine (rests_c r _ A m c _ hr (by omega)).mono ?_; rintro e w3 ⟨hb3, rfl⟩; rw [HX.out])
          go_roundw
          case rel => exact ⟨k + 1, by omega, by go_num, congrArg _ HS.out.symm, heap_below hB hb3, hI3.below hb3, below_then hb3 hbel hz⟩
          case measure => simp [intOf]; omega
        · have HS := Lib.hid (sumP_no (r := r) (.inr hlt))
          clear hx
          go_wp2_with (go_at_call 19; refine (rests_c r _ A m c _ hr (by omega)).mono ?_; rintro e w3 ⟨hb3, rfl⟩; rw [HX.out])
          go_roundw
          case rel => exact ⟨k + 1, by omega, by go_num, congrArg _ HS.out.symm, heap_below hB hb3, hI3.below hb3, below_then hb3 hbel hz⟩
          case measure => simp [intOf]; omega
    · obtain rfl : k = 7 := by omega
      obtain ⟨S, hS⟩ : ∃ S, sumP r a (b - a).toNat 7 = S := ⟨_, rfl⟩
      have HR := Lib.hid ((congrArg (fun x => x - holN r hs a b hs.length) hS).symm.trans HR.out)
      rw [hS] at hbd ⊢
      clear hS
      go_wp2_with fail
      obtain ⟨wo, rfl⟩ : ∃ wo : World, wo = wr := ⟨_, rfl⟩
      go_loopw [9, 57] (fun nv jv wr => ∃ j : Nat, j ≤ m ∧ jv = .int .i64 j ∧ nv = .int .i64 (S - holN r hs a b j) ∧ wr.heap[w.heap.size]? = some (.cells #[.int .i64 r, .slice A m c] 24 (0, 0)) ∧ Ints wr A m hs ∧ Below w.heap.size w wr) (fun _ jv _ => m - (intOf jv).toNat)
      case atStart => exact ⟨0, by omega, rfl, by simp [holN], hB, hI3, hbel⟩
      case round =>
        clear hB hI3 hbel c0 c1 z1 hz
        obtain ⟨j, hj, rfl, rfl, hB, hI3, hbel⟩ := hrel
        have hz := hbel.size
        have hbd2 := holN_bd r hs a b j
        obtain ⟨c0, c1, -, -, z1⟩ := box2 hB
        rcases Nat.lt_or_ge j m with hjm | hjm
        · obtain ⟨bb, off, rfl, hbl, hcell⟩ := hI3.2.2 (by omega)
          have hx := hcell j hjm
          have hdj := HDS.out j (by rw [HL.out]; exact hjm)
          obtain ⟨hj1, hj2⟩ := hdj
          clear hcell
          by_cases h1 : a ≤ hol hs j
          · by_cases h2 : hol hs j < b
            · cases hx2 : restB r (hol hs j) with
              | true =>
                have HX := Lib.hid hx2
                
                have HS := Lib.hid (holN_no (a := a) (b := b) (.inr (.inr hx2)))
                clear hx2
                go_wp2_with (go_at_call 19; refine (rests_c r _ (some ⟨bb, off, none⟩) m c _ hr (by omega)).mono ?_; rintro e w3 ⟨hb3, rfl⟩; rw [HX.out])
                go_roundw
                case rel => first | exact ⟨j + 1, by omega, by go_num, congrArg _ (by have := HS.out; omega), heap_below hB hb3, hI3.below hb3, below_then hb3 hbel hz⟩ | ((repeat apply Exists.intro); exact ⟨⟨j + 1, by omega, by go_num, congrArg _ (by have := HS.out; omega), heap_below hB hb3, hI3.below hb3, below_then hb3 hbel hz⟩, rfl⟩)
                case measure => simp [intOf]; omega
              | false =>
                have HX := Lib.hid hx2
                
                have HS := Lib.hid (holN_yes h1 h2 hx2)
                clear hx2
                go_wp2_with (go_at_call 19; refine (rests_c r _ (some ⟨bb, off, none⟩) m c _ hr (by omega)).mono ?_; rintro e w3 ⟨hb3, rfl⟩; rw [HX.out])
                go_roundw
                case rel => first | exact ⟨j + 1, by omega, by go_num, congrArg _ (by have := HS.out; omega), heap_below hB hb3, hI3.below hb3, below_then hb3 hbel hz⟩ | ((repeat apply Exists.intro); exact ⟨⟨j + 1, by omega, by go_num, congrArg _ (by have := HS.out; omega), heap_below hB hb3, hI3.below hb3, below_then hb3 hbel hz⟩, rfl⟩)
                case measure => simp [intOf]; omega
            · have HS := Lib.hid (holN_no (r := r) (a := a) (.inr (.inl h2)))
              go_wp2_with fail
              go_roundw
              case rel => first | exact ⟨j + 1, by omega, by go_num, congrArg _ (by have := HS.out; omega), hB, hI3, hbel⟩ | ((repeat apply Exists.intro); exact ⟨⟨j + 1, by omega, by go_num, congrArg _ (by have := HS.out; omega), hB, hI3, hbel⟩, rfl⟩)
              case measure => simp [intOf]; omega
          · have HS := Lib.hid (holN_no (r := r) (b := b) (.inl h1))
            go_wp2_with fail
            go_roundw
            case rel => first | exact ⟨j + 1, by omega, by go_num, congrArg _ (by have := HS.out; omega), hB, hI3, hbel⟩ | ((repeat apply Exists.intro); exact ⟨⟨j + 1, by omega, by go_num, congrArg _ (by have := HS.out; omega), hB, hI3, hbel⟩, rfl⟩)
            case measure => simp [intOf]; omega
        · obtain rfl : j = m := by omega
          go_wp2
          go_ret2
          exact ⟨by rw [← HR.out, HL.out]; rfl, hbel⟩

theorem workdays_c (r : Int) (hs : List Int) (a b : Int) (A : Option Addr) (m c : Nat) (w : World) (hI : Ints w A m hs) (hm : m ≤ 9223372036854775807) :
    Calls Try.prog 9 #[.agg #[.int .i64 r, .slice A m c], .int .i64 a, .int .i64 b] w (RetIF (workDays r hs a b).1 (workDays r hs a b).2 w) := by
  unfold workDays
  by_cases hc : calF r hs = 0
  · rw [if_neg (fun h => h hc)]
    by_cases hd : 1 ≤ a ∧ a ≤ 3652059
    · by_cases hd2 : 1 ≤ b ∧ b ≤ 3652059
      · rw [if_neg (fun h => h ⟨hd, hd2⟩)]
        by_cases hab : b < a
        · rw [if_pos hab]; exact workdays_order r hs a b A m c w hI hm hc hd hd2 hab
        · rw [if_neg hab]; exact workdays_ok r hs a b A m c w hI hm hc hd hd2 (by omega)
      · rw [if_pos (fun h => hd2 h.2)]; exact workdays_to r hs a b A m c w hI hm hc hd hd2
    · rw [if_pos (fun h => hd h.1)]; exact workdays_from r hs a b A m c w hI hm hc hd
  · rw [if_pos hc]; exact workdays_cal r hs a b A m c w hI hm hc

end Go.Proofs.Ytopjdkpappiocaa
