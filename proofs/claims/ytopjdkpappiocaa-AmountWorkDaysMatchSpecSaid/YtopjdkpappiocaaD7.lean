
/- The walks of working days: how many there are between days, in the reference. -/
import Derived.Test.YtopjdkpappiocaaD6
namespace Go.Proofs.Ytopjdkpappiocaa
open Go.RowKit Limb Work

theorem through_c (d k : Int) (w : World) (hd : 0 ≤ d ∧ d ≤ 4000000) (hk : 0 ≤ k ∧ k ≤ 6) :
    Calls Try.prog 20 #[.int .i64 d, .int .i64 k] w fun e w' => w = w' ∧ e = .returned (.int .i64 ((d + 6 - k) / 7)) := by
  obtain ⟨hd1, hd2⟩ := hd
  obtain ⟨hk1, hk2⟩ := hk
  have h0 : 0 ≤ d + 6 - k := by omega
  go_enter Try.func20, Try.ntmps20
  go_wp2
  go_ret
  exact ⟨rfl, rfl⟩

set_option maxHeartbeats 4000000 in
set_option maxRecDepth 100000 in
theorem rworkdays_cal (r : Int) (hs : List Int) (a b : Int) (A : Option Addr) (m c : Nat) (w : World) (hI : Ints w A m hs) (hm : m ≤ 9223372036854775807) (hc : calF r hs ≠ 0) :
    Calls Try.prog 10 #[.agg #[.int .i64 r, .slice A m c], .int .i64 a, .int .i64 b] w (RetIF 0 (calF r hs) w) := by
  obtain ⟨K, hK⟩ : ∃ K, calF r hs = K := ⟨_, rfl⟩
  have HK := Lib.hid hK
  have hI1 := hI.alloc (.cells #[.int .i64 r, .slice A m c] 24)
  have hB := heap_new w (.cells #[.int .i64 r, .slice A m c] 24) rfl
  have hb : Below w.heap.size w (w.alloc (.cells #[.int .i64 r, .slice A m c] 24)) := by go_grown
  have hk : (K != 0) = true := by rw [← hK]; simpa using hc
  rw [hK]
  clear hK hc
  go_enter Try.func10, Try.ntmps10
  go_wp2_with fail
  generalize w.alloc (.cells #[.int .i64 r, .slice A m c] 24) = w1 at hB hI1 hb ⊢
  obtain ⟨c0, c1, -, -, z1⟩ := box2 hB
  have hz := hb.size
  refine (rcal_c r hs A m c _ hI1 hm).mono ?_
  rintro e w2 ⟨rfl, hb2⟩
  rw [HK.out]
  have hB2 := heap_below hB hb2
  have hbel := below_then hb2 hb hz
  have hI2 := hI1.below hb2
  clear hB hb hb2 hI1 c0 c1 z1 hz
  obtain ⟨c0, c1, -, -, z1⟩ := box2 hB2
  go_wp2
  go_ret2
  exact ⟨rfl, hbel⟩

set_option maxHeartbeats 4000000 in
set_option maxRecDepth 100000 in
theorem rworkdays_from (r : Int) (hs : List Int) (a b : Int) (A : Option Addr) (m c : Nat) (w : World) (hI : Ints w A m hs) (hm : m ≤ 9223372036854775807) (hc : calF r hs = 0) (hd : ¬ (1 ≤ a ∧ a ≤ 3652059)) :
    Calls Try.prog 10 #[.agg #[.int .i64 r, .slice A m c], .int .i64 a, .int .i64 b] w (RetIF 0 1 w) := by
  obtain ⟨K, hK⟩ : ∃ K, calF r hs = K := ⟨_, rfl⟩
  have HK := Lib.hid hK
  have hI1 := hI.alloc (.cells #[.int .i64 r, .slice A m c] 24)
  have hB := heap_new w (.cells #[.int .i64 r, .slice A m c] 24) rfl
  have hb : Below w.heap.size w (w.alloc (.cells #[.int .i64 r, .slice A m c] 24)) := by go_grown
  obtain rfl : K = 0 := by omega
  have HD := Lib.hid (dayB_not hd)
  clear hK hc hd
  go_enter Try.func10, Try.ntmps10
  go_wp2_with fail
  generalize w.alloc (.cells #[.int .i64 r, .slice A m c] 24) = w1 at hB hI1 hb ⊢
  obtain ⟨c0, c1, -, -, z1⟩ := box2 hB
  have hz := hb.size
  refine (rcal_c r hs A m c _ hI1 hm).mono ?_
  rintro e w2 ⟨rfl, hb2⟩
  rw [HK.out]
  have hB2 := heap_below hB hb2
  have hbel := below_then hb2 hb hz
  have hI2 := hI1.below hb2
  clear hB hb hb2 hI1 c0 c1 z1 hz
  obtain ⟨c0, c1, -, -, z1⟩ := box2 hB2
  go_wp2_with (go_at_call 16; refine (rday_c _ _).mono ?_; rintro e w3 ⟨rfl, rfl⟩; rw [HD.out])
  go_ret2
  exact ⟨rfl, hbel⟩

set_option maxHeartbeats 4000000 in
set_option maxRecDepth 100000 in
theorem rworkdays_to (r : Int) (hs : List Int) (a b : Int) (A : Option Addr) (m c : Nat) (w : World) (hI : Ints w A m hs) (hm : m ≤ 9223372036854775807) (hc : calF r hs = 0) (hd : 1 ≤ a ∧ a ≤ 3652059) (hd2 : ¬ (1 ≤ b ∧ b ≤ 3652059)) :
    Calls Try.prog 10 #[.agg #[.int .i64 r, .slice A m c], .int .i64 a, .int .i64 b] w (RetIF 0 1 w) := by
  obtain ⟨K, hK⟩ : ∃ K, calF r hs = K := ⟨_, rfl⟩
  have HK := Lib.hid hK
  have hI1 := hI.alloc (.cells #[.int .i64 r, .slice A m c] 24)
  have hB := heap_new w (.cells #[.int .i64 r, .slice A m c] 24) rfl
  have hb : Below w.heap.size w (w.alloc (.cells #[.int .i64 r, .slice A m c] 24)) := by go_grown
  obtain rfl : K = 0 := by omega
  have HD := Lib.hid (dayB_mk hd)
  have HE := Lib.hid (dayB_not hd2)
  clear hK hc hd hd2
  go_enter Try.func10, Try.ntmps10
  go_wp2_with fail
  generalize w.alloc (.cells #[.int .i64 r, .slice A m c] 24) = w1 at hB hI1 hb ⊢
  obtain ⟨c0, c1, -, -, z1⟩ := box2 hB
  have hz := hb.size
  refine (rcal_c r hs A m c _ hI1 hm).mono ?_
  rintro e w2 ⟨rfl, hb2⟩
  rw [HK.out]
  have hB2 := heap_below hB hb2
  have hbel := below_then hb2 hb hz
  have hI2 := hI1.below hb2
  clear hB hb hb2 hI1 c0 c1 z1 hz
  obtain ⟨c0, c1, -, -, z1⟩ := box2 hB2
  go_wp2_with (first | (go_at_call_of 16 (Value.int .i64 a); refine (rday_c _ _).mono ?_; rintro e w3 ⟨rfl, rfl⟩; rw [HD.out]) | (go_at_call_of 16 (Value.int .i64 b); refine (rday_c _ _).mono ?_; rintro e w3 ⟨rfl, rfl⟩; rw [HE.out]))
  go_ret2
  exact ⟨rfl, hbel⟩

set_option maxHeartbeats 4000000 in
set_option maxRecDepth 100000 in
theorem rworkdays_order (r : Int) (hs : List Int) (a b : Int) (A : Option Addr) (m c : Nat) (w : World) (hI : Ints w A m hs) (hm : m ≤ 9223372036854775807) (hc : calF r hs = 0) (hd : 1 ≤ a ∧ a ≤ 3652059) (hd2 : 1 ≤ b ∧ b ≤ 3652059) (hab : b < a) :
    Calls Try.prog 10 #[.agg #[.int .i64 r, .slice A m c], .int .i64 a, .int .i64 b] w (RetIF 0 8 w) := by
  obtain ⟨K, hK⟩ : ∃ K, calF r hs = K := ⟨_, rfl⟩
  have HK := Lib.hid hK
  have hI1 := hI.alloc (.cells #[.int .i64 r, .slice A m c] 24)
  have hB := heap_new w (.cells #[.int .i64 r, .slice A m c] 24) rfl
  have hb : Below w.heap.size w (w.alloc (.cells #[.int .i64 r, .slice A m c] 24)) := by go_grown
  obtain rfl : K = 0 := by omega
  have HD := Lib.hid (dayB_mk hd)
  have HE := Lib.hid (dayB_mk hd2)
  clear hK hc hd hd2
  go_enter Try.func10, Try.ntmps10
  go_wp2_with fail
  generalize w.alloc (.cells #[.int .i64 r, .slice A m c] 24) = w1 at hB hI1 hb ⊢
  obtain ⟨c0, c1, -, -, z1⟩ := box2 hB
  have hz := hb.size
  refine (rcal_c r hs A m c _ hI1 hm).mono ?_
  rintro e w2 ⟨rfl, hb2⟩
  rw [HK.out]
  have hB2 := heap_below hB hb2
  have hbel := below_then hb2 hb hz
  have hI2 := hI1.below hb2
  clear hB hb hb2 hI1 c0 c1 z1 hz
  obtain ⟨c0, c1, -, -, z1⟩ := box2 hB2
  go_wp2_with (first | (go_at_call_of 16 (Value.int .i64 a); refine (rday_c _ _).mono ?_; rintro e w3 ⟨rfl, rfl⟩; rw [HD.out]) | (go_at_call_of 16 (Value.int .i64 b); refine (rday_c _ _).mono ?_; rintro e w3 ⟨rfl, rfl⟩; rw [HE.out]))
  go_ret2
  exact ⟨rfl, hbel⟩

set_option maxHeartbeats 4000000 in
set_option maxRecDepth 100000 in
theorem rworkdays_ok (r : Int) (hs : List Int) (a b : Int) (A : Option Addr) (m c : Nat) (w : World) (hI : Ints w A m hs) (hm : m ≤ 9223372036854775807) (hc : calF r hs = 0) (hd : 1 ≤ a ∧ a ≤ 3652059) (hd2 : 1 ≤ b ∧ b ≤ 3652059) (hab : a ≤ b) :
    Calls Try.prog 10 #[.agg #[.int .i64 r, .slice A m c], .int .i64 a, .int .i64 b] w (RetIF (cnt (workB r hs) a (b - a).toNat) 0 w) := by
  obtain ⟨K, hK⟩ : ∃ K, calF r hs = K := ⟨_, rfl⟩
  have HK := Lib.hid hK
  have hI1 := hI.alloc (.cells #[.int .i64 r, .slice A m c] 24)
  have hB := heap_new w (.cells #[.int .i64 r, .slice A m c] 24) rfl
  have hb : Below w.heap.size w (w.alloc (.cells #[.int .i64 r, .slice A m c] 24)) := by go_grown
  obtain rfl : K = 0 := by omega
  obtain ⟨hr, hl, hds, hS⟩ := calF_ok hc
  have HL := Lib.hid hI.1
  have hm1000 : m ≤ 1000 := by rw [← hI.1]; exact hl
  have HDS := Lib.hid hds
  have HD := Lib.hid (dayB_mk hd)
  have HE := Lib.hid (dayB_mk hd2)
  obtain ⟨R, hR⟩ : ∃ R, cnt (workB r hs) a (b - a).toNat = R := ⟨_, rfl⟩
  rw [hR]
  have HR := Lib.hid ((days_r hc hab).trans hR)
  obtain ⟨hd1, hd3⟩ := hd
  obtain ⟨hd4, hd5⟩ := hd2
  clear hK hc hR hl hds hS
  have hab' : ¬ b < a := by omega
  go_enter Try.func10, Try.ntmps10
  go_wp2_with fail
  generalize w.alloc (.cells #[.int .i64 r, .slice A m c] 24) = w1 at hB hI1 hb ⊢
  obtain ⟨c0, c1, -, -, z1⟩ := box2 hB
  have hz := hb.size
  refine (rcal_c r hs A m c _ hI1 hm).mono ?_
  rintro e w2 ⟨rfl, hb2⟩
  rw [HK.out]
  have hB2 := heap_below hB hb2
  have hbel := below_then hb2 hb hz
  have hI2 := hI1.below hb2
  clear hB hb hb2 hI1 c0 c1 z1 hz
  obtain ⟨c0, c1, -, -, z1⟩ := box2 hB2
  go_wp2_with (first | (go_at_call_of 16 (Value.int .i64 a); refine (rday_c _ _).mono ?_; rintro e w3 ⟨rfl, rfl⟩; rw [HD.out]) | (go_at_call_of 16 (Value.int .i64 b); refine (rday_c _ _).mono ?_; rintro e w3 ⟨rfl, rfl⟩; rw [HE.out]))
  go_loopw [9, 29] (fun nv kv wr => ∃ k : Nat, k ≤ 7 ∧ kv = .int .i64 k ∧ nv = .int .i64 (sumRf r a b k) ∧ wr.heap[w.heap.size]? = some (.cells #[.int .i64 r, .slice A m c] 24 (0, 0)) ∧ Ints wr A m hs ∧ Below w.heap.size w wr) (fun _ kv _ => 7 - (intOf kv).toNat)
  case atStart => exact ⟨0, by omega, rfl, rfl, hB2, hI2, hbel⟩
  case round =>
    clear hB2 hI2 hbel c0 c1 z1
    obtain ⟨k, hk, rfl, rfl, hB, hI3, hbel⟩ := hrel
    have hz := hbel.size
    have hbd := sumRf_bd r a b k (by omega) (by omega) (by omega) hk
    obtain ⟨c0, c1, -, -, z1⟩ := box2 hB
    rcases Nat.lt_or_ge k 7 with hk7 | hk7
    · have hkI : (k : Int) ≤ 6 := by omega
      obtain ⟨sb1, sb2⟩ := shr_bd hr k
      cases hx : bitB r k with
      | true =>
        have hbit := bit0_yes hx
        have HS := Lib.hid (sumRf_no (a := a) (b := b) hx)
        clear hx
        go_wp2_with fail
        go_roundw
        case rel => exact ⟨k + 1, by omega, by go_num, congrArg _ HS.out.symm, hB, hI3, hbel⟩
        case measure => simp [intOf]; omega
      | false =>
        have hbit := bit0_no hx
        have HS := Lib.hid (sumRf_yes (a := a) (b := b) hx)
        clear hx
        go_wp2_with (go_at_call 20; refine (through_c _ _ _ (by omega) (by omega)).mono ?_; rintro e w3 ⟨rfl, rfl⟩)
        go_roundw
        case rel => exact ⟨k + 1, by omega, by go_num, congrArg _ HS.out.symm, hB, hI3, hbel⟩
        case measure => simp [intOf]; omega
    · obtain rfl : k = 7 := by omega
      obtain ⟨S, hS⟩ : ∃ S, sumRf r a b 7 = S := ⟨_, rfl⟩
      have HR := Lib.hid ((congrArg (fun x => x - holN r hs a b hs.length) hS).symm.trans HR.out)
      rw [hS] at hbd ⊢
      clear hS
      go_wp2_with fail
      obtain ⟨wo, rfl⟩ : ∃ wo : World, wo = wr := ⟨_, rfl⟩
      go_loopw [9, 53] (fun nv jv wr => ∃ j : Nat, j ≤ m ∧ jv = .int .i64 j ∧ nv = .int .i64 (S - holN r hs a b j) ∧ wr.heap[w.heap.size]? = some (.cells #[.int .i64 r, .slice A m c] 24 (0, 0)) ∧ Ints wr A m hs ∧ Below w.heap.size w wr) (fun _ jv _ => m - (intOf jv).toNat)
      case atStart => exact ⟨0, by omega, rfl, by simp [holN], hB, hI3, hbel⟩
      case round =>
        clear hB hI3 hbel c0 c1 z1 hz
        obtain ⟨j, hj, rfl, rfl, hB, hI3, hbel⟩ := hrel
        have hz := hbel.size
        have hbd2 := holN_bd r hs a b j
        obtain ⟨c0, c1, -, -, z1⟩ := box2 hB
        rcases Nat.lt_or_ge j m with hjm | hjm
        · obtain ⟨bb, off, rfl, hbl, hcell⟩ := hI3.2.2 (by omega)
          have hx := hcell j hjm
          have hdj := HDS.out j (by rw [HL.out]; exact hjm)
          obtain ⟨hj1, hj2⟩ := hdj
          clear hcell
          by_cases h1 : a ≤ hol hs j
          · by_cases h2 : hol hs j < b
            · obtain ⟨sb1, sb2⟩ := shr_bd hr ((hol hs j - 1) % 7).toNat
              have q0 : 0 ≤ (hol hs j - 1) % 7 := Int.emod_nonneg _ (by decide)
              have q6 : (hol hs j - 1) % 7 ≤ 6 := by omega
              cases hx2 : restB r (hol hs j) with
              | true =>
                have HX := Lib.hid hx2
                have hbit := bit0_yes hx2
                have HS := Lib.hid (holN_no (a := a) (b := b) (.inr (.inr hx2)))
                clear hx2
                go_wp2_with fail
                go_roundw
                case rel => first | exact ⟨j + 1, by omega, by go_num, congrArg _ (by have := HS.out; omega), hB, hI3, hbel⟩ | ((repeat apply Exists.intro); exact ⟨⟨j + 1, by omega, by go_num, congrArg _ (by have := HS.out; omega), hB, hI3, hbel⟩, rfl⟩)
                case measure => simp [intOf]; omega
              | false =>
                have HX := Lib.hid hx2
                have hbit := bit0_no hx2
                have HS := Lib.hid (holN_yes h1 h2 hx2)
                clear hx2
                go_wp2_with fail
                go_roundw
                case rel => first | exact ⟨j + 1, by omega, by go_num, congrArg _ (by have := HS.out; omega), hB, hI3, hbel⟩ | ((repeat apply Exists.intro); exact ⟨⟨j + 1, by omega, by go_num, congrArg _ (by have := HS.out; omega), hB, hI3, hbel⟩, rfl⟩)
                case measure => simp [intOf]; omega
            · have HS := Lib.hid (holN_no (r := r) (a := a) (.inr (.inl h2)))
              go_wp2_with fail
              go_roundw
              case rel => first | exact ⟨j + 1, by omega, by go_num, congrArg _ (by have := HS.out; omega), hB, hI3, hbel⟩ | ((repeat apply Exists.intro); exact ⟨⟨j + 1, by omega, by go_num, congrArg _ (by have := HS.out; omega), hB, hI3, hbel⟩, rfl⟩)
              case measure => simp [intOf]; omega
          · have HS := Lib.hid (holN_no (r := r) (b := b) (.inl h1))
            go_wp2_with fail
            go_roundw
            case rel => first | exact ⟨j + 1, by omega, by go_num, congrArg _ (by have := HS.out; omega), hB, hI3, hbel⟩ | ((repeat apply Exists.intro); exact ⟨⟨j + 1, by omega, by go_num, congrArg _ (by have := HS.out; omega), hB, hI3, hbel⟩, rfl⟩)
            case measure => simp [intOf]; omega
        · obtain rfl : j = m := by omega
          go_wp2
          go_ret2
          exact ⟨by rw [← HR.out, HL.out]; rfl, hbel⟩

theorem rworkdays_c (r : Int) (hs : List Int) (a b : Int) (A : Option Addr) (m c : Nat) (w : World) (hI : Ints w A m hs) (hm : m ≤ 9223372036854775807) :
    Calls Try.prog 10 #[.agg #[.int .i64 r, .slice A m c], .int .i64 a, .int .i64 b] w (RetIF (workDays r hs a b).1 (workDays r hs a b).2 w) := by
  unfold workDays
  by_cases hc : calF r hs = 0
  · rw [if_neg (fun h => h hc)]
    by_cases hd : 1 ≤ a ∧ a ≤ 3652059
    · by_cases hd2 : 1 ≤ b ∧ b ≤ 3652059
      · rw [if_neg (fun h => h ⟨hd, hd2⟩)]
        by_cases hab : b < a
        · rw [if_pos hab]; exact rworkdays_order r hs a b A m c w hI hm hc hd hd2 hab
        · rw [if_neg hab]; exact rworkdays_ok r hs a b A m c w hI hm hc hd hd2 (by omega)
      · rw [if_pos (fun h => hd2 h.2)]; exact rworkdays_to r hs a b A m c w hI hm hc hd hd2
    · rw [if_pos (fun h => hd h.1)]; exact rworkdays_from r hs a b A m c w hI hm hc hd
  · rw [if_pos hc]; exact rworkdays_cal r hs a b A m c w hI hm hc

end Go.Proofs.Ytopjdkpappiocaa
