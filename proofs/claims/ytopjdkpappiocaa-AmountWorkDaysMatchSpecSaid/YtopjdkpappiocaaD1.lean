
/- The walks of working days: the leaves. -/
import Derived.Test.YtopjdkpappiocaaA7
import Derived.Test.YtopjdkpappiocaaD0
import Derived.Laws.ShiftsVar
import Derived.Laws.ShiftsVarLaws
namespace Go.Proofs.Ytopjdkpappiocaa
open Go.RowKit Limb Work

theorem retI {k : IntKind} {a b : Int} (h : a = b) : Ending.returned (.int k a) = .returned (.int k b) := by rw [h]
theorem retB {a b : Bool} (h : a = b) : Ending.returned (.bool a) = .returned (.bool b) := by rw [h]
/-- A slice of numbers as it lies in memory. -/
def Ints (w : World) (A : Option Addr) (n : Nat) (hs : List Int) : Prop :=
  hs.length = n ∧ (∀ d ∈ hs, -9223372036854775808 ≤ d ∧ d ≤ 9223372036854775807) ∧
    (0 < n → ∃ b off, A = some ⟨b, off, none⟩ ∧ b < w.heap.size ∧ ∀ j, j < n → w.cell? ⟨b, off + j, none⟩ = some (.int .i64 (hol hs j)))
theorem Ints.below {w w' : World} {A : Option Addr} {n : Nat} {hs : List Int} (h : Ints w A n hs) (hb : Below w.heap.size w w') : Ints w' A n hs :=
  ⟨h.1, h.2.1, fun hn => by
    obtain ⟨b, off, e, hl, hc⟩ := h.2.2 hn
    exact ⟨b, off, e, Nat.lt_of_lt_of_le hl hb.size, fun j hj => (hb.cell (p := ⟨b, off + j, none⟩) hl).trans (hc j hj)⟩⟩
theorem Ints.alloc {w : World} {A : Option Addr} {n : Nat} {hs : List Int} (h : Ints w A n hs) (o : Obj) : Ints (w.alloc o) A n hs := h.below ((Below.refl _ _).alloc (Nat.le_refl _) o)
theorem hol_get {hs : List Int} {j : Nat} (h : j < hs.length) : hs[j] = hol hs j := by
  unfold hol
  rw [List.getD_eq_getElem?_getD, List.getElem?_eq_getElem h]
  rfl
theorem Ints.rng {w : World} {A : Option Addr} {n : Nat} {hs : List Int} (h : Ints w A n hs) {j : Nat} (hj : j < n) : -9223372036854775808 ≤ hol hs j ∧ hol hs j ≤ 9223372036854775807 := by
  have hl : j < hs.length := by rw [h.1]; exact hj
  have := h.2.1 hs[j] (List.getElem_mem hl)
  rw [hol_get hl] at this
  exact this

theorem isday_c (n : Int) (w : World) : Calls Try.prog 13 #[.int .i64 n] w fun e w' => w = w' ∧ e = .returned (.bool (dayB n)) := by
  by_cases h : 1 ≤ n ∧ n ≤ 3652059
  · rw [dayB_mk h]
    go_enter Try.func13, Try.ntmps13
    go_wp2_with (go_at_call 14; refine (out_no _ _ _ _ h).mono ?_; rintro e w1 ⟨rfl, rfl⟩)
    go_ret
    exact ⟨rfl, rfl⟩
  · rw [dayB_not h]
    go_enter Try.func13, Try.ntmps13
    go_wp2_with (go_at_call 14; refine (out_yes _ _ _ _ h).mono ?_; rintro e w1 ⟨rfl, rfl⟩)
    go_ret
    exact ⟨rfl, rfl⟩

theorem within_c (n lo hi : Int) (w : World) : Calls Try.prog 17 #[.int .i64 n, .int .i64 lo, .int .i64 hi] w fun e w' => w = w' ∧ e = .returned (.bool (decide (lo ≤ n ∧ n ≤ hi))) := by
  by_cases h1 : lo ≤ n
  · by_cases h2 : n ≤ hi
    · have e : decide (lo ≤ n ∧ n ≤ hi) = true := decide_eq_true ⟨h1, h2⟩
      rw [e]; clear e
      go_enter Try.func17, Try.ntmps17
      go_wp2
      go_ret
      exact ⟨rfl, rfl⟩
    · have e : decide (lo ≤ n ∧ n ≤ hi) = false := decide_eq_false (fun h => h2 h.2)
      rw [e]; clear e
      go_enter Try.func17, Try.ntmps17
      go_wp2
      go_ret
      exact ⟨rfl, rfl⟩
  · have e : decide (lo ≤ n ∧ n ≤ hi) = false := decide_eq_false (fun h => h1 h.1)
    rw [e]; clear e
    go_enter Try.func17, Try.ntmps17
    go_wp2
    go_ret
    exact ⟨rfl, rfl⟩
theorem rday_c (n : Int) (w : World) : Calls Try.prog 16 #[.int .i64 n] w fun e w' => w = w' ∧ e = .returned (.bool (dayB n)) := by
  go_enter Try.func16, Try.ntmps16
  go_wp2_with fail
  refine (within_c _ _ _ _).mono ?_
  rintro e w1 ⟨rfl, rfl⟩
  rw [show decide (1 ≤ n ∧ n ≤ 3652059) = dayB n from rfl]
  go_wp2
  go_ret
  exact ⟨rfl, rfl⟩

theorem weekday_c (d : Int) (w : World) (h : 1 ≤ d ∧ d ≤ 4000000) : Calls Try.prog 23 #[.int .i64 d] w fun e w' => w = w' ∧ e = .returned (.int .i64 ((d - 1) % 7)) := by
  obtain ⟨h1, h2⟩ := h
  go_enter Try.func23, Try.ntmps23
  go_wp2
  go_ret
  exact ⟨rfl, rfl⟩

theorem i64_and1 : ∀ c : Nat, c < 128 → bits .and .i64 (c : Int) 1 = ((c % 2 : Nat) : Int) := by decide
theorem shr_bd {r : Int} (hr : 0 ≤ r ∧ r ≤ 126) (k : Nat) : 0 ≤ r / 2 ^ k ∧ r / 2 ^ k ≤ 126 := by
  have hp : (0 : Int) < 2 ^ k := Int.pow_pos (by decide)
  refine ⟨Int.ediv_nonneg hr.1 (by omega), ?_⟩
  have h1 : r / 2 ^ k ≤ r := Int.ediv_le_self _ hr.1
  omega
theorem and1_bit {r : Int} {k : Nat} (hr : 0 ≤ r ∧ r ≤ 126) (hk : k ≤ 6) : (bits .and .i64 (r / 2 ^ k) 1 == 1) = bitB r k := by
  have _ := hk
  obtain ⟨h0, h1⟩ := shr_bd hr k
  unfold bitB
  generalize r / 2 ^ k = v at *
  obtain ⟨c, rfl⟩ := Int.eq_ofNat_of_zero_le h0
  rw [i64_and1 c (by omega), Bool.eq_iff_iff]
  simp
  try omega
theorem mod_bit {r : Int} {k : Nat} : ((r / 2 ^ k) % 2 == 1) = bitB r k := by
  unfold bitB
  rw [Bool.eq_iff_iff]
  simp

theorem rests_c (r d : Int) (A : Option Addr) (n c : Nat) (w : World) (hr : 0 ≤ r ∧ r ≤ 126) (h : 1 ≤ d ∧ d ≤ 4000000) :
    Calls Try.prog 19 #[.agg #[.int .i64 r, .slice A n c], .int .i64 d] w fun e w' => Below w.heap.size w w' ∧ e = .returned (.bool (restB r d)) := by
  have h0 : 0 ≤ (d - 1) % 7 := Int.emod_nonneg _ (by decide)
  have h6 : (d - 1) % 7 ≤ 6 := by omega
  obtain ⟨k, hk⟩ : ∃ k, (d - 1) % 7 = k := ⟨_, rfl⟩
  have e : restB r d = bitB r k.toNat := by unfold restB; rw [hk]
  rw [e]
  rw [hk] at h0 h6
  have HK := Lib.hid hk; clear hk e
  have hwd : ∀ w : World, Calls Try.prog 23 #[.int .i64 d] w fun e w' => e = .returned (.int .i64 k) ∧ w' = w := fun w => (weekday_c d _ h).mono fun _ _ h => ⟨by rw [h.2, HK.out], h.1.symm⟩
  go_enter Try.func19, Try.ntmps19
  go_wp2_with fail
  have hB := heap_new w (.cells #[.int .i64 r, .slice A n c] 24) rfl
  have hb : Below w.heap.size w (w.alloc (.cells #[.int .i64 r, .slice A n c] 24)) := by go_grown
  generalize w.alloc (.cells #[.int .i64 r, .slice A n c] 24) = w1 at hB hb ⊢
  obtain ⟨c0, c1, -, -, z1⟩ := box2 hB
  go_quiet ((go_at_call 23; exact Calls.quiet_of_same (hwd _)))
  go_wp2
  go_ret
  exact ⟨below_drewN hb _, retB (and1_bit hr (by omega))⟩

theorem holAt_day {hs : List Int} {i : Nat} (h : dayB (hol hs i) = false) : holAt hs i = 1 := by unfold holAt; rw [if_pos h]
theorem holAt_ord {hs : List Int} {i : Nat} (h : dayB (hol hs i) = true) (h2 : 0 < i ∧ hol hs i ≤ hol hs (i - 1)) : holAt hs i = 8 := by unfold holAt; rw [if_neg (by rw [h]; simp), if_pos h2]
theorem holAt_ok {hs : List Int} {i : Nat} (h : dayB (hol hs i) = true) (h2 : ¬ (0 < i ∧ hol hs i ≤ hol hs (i - 1))) : holAt hs i = 0 := by unfold holAt; rw [if_neg (by rw [h]; simp), if_neg h2]
theorem calF_scan {r : Int} {hs : List Int} (hr : 0 ≤ r ∧ r ≤ 126) (hl : ¬ 1000 < hs.length) : calF r hs = scan (holAt hs) 0 hs.length := by unfold calF; rw [if_neg (by omega), if_neg hl]
theorem calF_r {r : Int} {hs : List Int} (hr : ¬ (0 ≤ r ∧ r ≤ 126)) : calF r hs = 1 := by unfold calF; rw [if_pos hr]
theorem calF_l {r : Int} {hs : List Int} (hr : 0 ≤ r ∧ r ≤ 126) (hl : 1000 < hs.length) : calF r hs = 2 := by unfold calF; rw [if_neg (by omega), if_pos hl]

set_option maxHeartbeats 1000000 in
set_option maxRecDepth 100000 in
theorem cal_c (r : Int) (hs : List Int) (A : Option Addr) (n c : Nat) (w : World) (hI : Ints w A n hs) (hn : n ≤ 9223372036854775807) :
    Calls Try.prog 7 #[.agg #[.int .i64 r, .slice A n c]] w fun e w' => e = .returned (.int .i64 (calF r hs)) ∧ Below w.heap.size w w' := by
  have hl := hI.1
  by_cases hr : 0 ≤ r ∧ r ≤ 126
  · by_cases h1000 : 1000 < n
    · rw [calF_l hr (by omega)]
      go_enter Try.func7, Try.ntmps7
      go_wp2_with (go_at_call 14; refine (out_no _ _ _ _ hr).mono ?_; rintro e w1 ⟨rfl, rfl⟩)
      go_ret
      exact ⟨rfl, by go_grown⟩
    · obtain ⟨F, hF⟩ : ∃ F, calF r hs = F := ⟨_, rfl⟩
      have hF2 := hF
      rw [calF_scan hr (by omega), hl] at hF2
      rw [hF]
      have HF := Lib.hid hF2; have HL := Lib.hid hl
      clear hF hF2
      go_enter Try.func7, Try.ntmps7
      go_wp2_with (go_at_call 14; refine (out_no _ _ _ _ hr).mono ?_; rintro e w1 ⟨rfl, rfl⟩)
      have hB := heap_new w (.cells #[.int .i64 r, .slice A n c] 24) rfl
      have hI1 := hI.alloc (.cells #[.int .i64 r, .slice A n c] 24)
      have hb : Below w.heap.size w (w.alloc (.cells #[.int .i64 r, .slice A n c] 24)) := by go_grown
      generalize w.alloc (.cells #[.int .i64 r, .slice A n c] 24) = w1 at hB hI1 hb ⊢
      obtain ⟨c0, c1, -, -, z1⟩ := box2 hB
      go_loop [15] (fun i => ∃ j : Nat, j ≤ n ∧ i = .int .i64 j ∧ Hid (scan (holAt hs) j (n - j) = F)) (fun i => n - (intOf i).toNat)
      case atStart => exact ⟨0, Nat.zero_le _, rfl, HF⟩
      case round =>
        obtain ⟨j, hj, rfl, HS⟩ := hrel
        rcases Nat.lt_or_ge j n with hjn | hjn
        · obtain ⟨b, off, rfl, hbl, hc⟩ := hI1.2.2 (by omega)
          have hx := hc j hjn
          by_cases hd : dayB (hol hs j) = true
          · have HD := Lib.hid hd; have hd' := dayB_yes hd; clear hd
            rcases j with _ | j
            · clear hc
              rw [Nat.add_zero] at hx
              go_wp2_with (go_at_call 13; refine (isday_c _ _).mono ?_; rintro e w2 ⟨rfl, rfl⟩; rw [HD.out])
              go_round
              case rel => exact ⟨1, by omega, by go_num, Lib.hid (scan_miss HS.out hjn (holAt_ok HD.out (by omega)))⟩
              case measure => simp [intOf]; omega
            · have hy := hc j (by omega)
              clear hc
              by_cases ho : hol hs (j + 1) ≤ hol hs j
              · go_wp2_with (go_at_call 13; refine (isday_c _ _).mono ?_; rintro e w2 ⟨rfl, rfl⟩; rw [HD.out])
                go_ret
                exact ⟨retI (by rw [scan_hit HS.out hjn (by rw [holAt_ord HD.out ⟨by omega, ho⟩]; decide), holAt_ord HD.out ⟨by omega, ho⟩]), hb⟩
              · go_wp2_with (go_at_call 13; refine (isday_c _ _).mono ?_; rintro e w2 ⟨rfl, rfl⟩; rw [HD.out])
                go_round
                case rel => exact ⟨j + 1 + 1, by omega, by go_num, Lib.hid (scan_miss HS.out hjn (holAt_ok HD.out (fun h => by have := h.2; rw [Nat.add_sub_cancel] at this; omega)))⟩
                case measure => simp [intOf]; omega
          · have hd : dayB (hol hs j) = false := by simpa using hd
            have HD := Lib.hid hd; clear hd hc
            go_wp2_with (go_at_call 13; refine (isday_c _ _).mono ?_; rintro e w2 ⟨rfl, rfl⟩; rw [HD.out])
            go_ret
            exact ⟨retI (by rw [scan_hit HS.out hjn (by rw [holAt_day HD.out]; decide), holAt_day HD.out]), hb⟩
        · go_wp2
          go_ret
          exact ⟨retI (scan_end HS.out hjn).symm, hb⟩
  · rw [calF_r hr]
    go_enter Try.func7, Try.ntmps7
    go_wp2_with (go_at_call 14; refine (out_yes _ _ _ _ hr).mono ?_; rintro e w1 ⟨rfl, rfl⟩)
    go_ret
    exact ⟨rfl, by go_grown⟩

set_option maxHeartbeats 1000000 in
set_option maxRecDepth 100000 in
theorem rcal_c (r : Int) (hs : List Int) (A : Option Addr) (n c : Nat) (w : World) (hI : Ints w A n hs) (hn : n ≤ 9223372036854775807) :
    Calls Try.prog 8 #[.agg #[.int .i64 r, .slice A n c]] w fun e w' => e = .returned (.int .i64 (calF r hs)) ∧ Below w.heap.size w w' := by
  have hl := hI.1
  by_cases hr : 0 ≤ r ∧ r ≤ 126
  · have HR := Lib.hid (decide_eq_true hr)
    by_cases h1000 : 1000 < n
    · rw [calF_l hr (by omega)]
      go_enter Try.func8, Try.ntmps8
      go_wp2_with (go_at_call 17; refine (within_c _ _ _ _).mono ?_; rintro e w1 ⟨rfl, rfl⟩; rw [HR.out])
      go_ret
      exact ⟨rfl, by go_grown⟩
    · obtain ⟨F, hF⟩ : ∃ F, calF r hs = F := ⟨_, rfl⟩
      have hF2 := hF
      rw [calF_scan hr (by omega), hl] at hF2
      rw [hF]
      have HF := Lib.hid hF2; have HL := Lib.hid hl
      clear hF hF2
      go_enter Try.func8, Try.ntmps8
      go_wp2_with (go_at_call 17; refine (within_c _ _ _ _).mono ?_; rintro e w1 ⟨rfl, rfl⟩; rw [HR.out])
      have hB := heap_new w (.cells #[.int .i64 r, .slice A n c] 24) rfl
      have hI1 := hI.alloc (.cells #[.int .i64 r, .slice A n c] 24)
      have hb : Below w.heap.size w (w.alloc (.cells #[.int .i64 r, .slice A n c] 24)) := by go_grown
      generalize w.alloc (.cells #[.int .i64 r, .slice A n c] 24) = w1 at hB hI1 hb ⊢
      obtain ⟨c0, c1, -, -, z1⟩ := box2 hB
      go_loop [16] (fun i => ∃ j : Nat, j ≤ n ∧ i = .int .i64 j ∧ Hid (scan (holAt hs) j (n - j) = F)) (fun i => n - (intOf i).toNat)
      case atStart => exact ⟨0, Nat.zero_le _, rfl, HF⟩
      case round =>
        obtain ⟨j, hj, rfl, HS⟩ := hrel
        rcases Nat.lt_or_ge j n with hjn | hjn
        · obtain ⟨b, off, rfl, hbl, hc⟩ := hI1.2.2 (by omega)
          have hx := hc j hjn
          by_cases hd : dayB (hol hs j) = true
          · have HD := Lib.hid hd; have hd' := dayB_yes hd; clear hd
            rcases j with _ | j
            · clear hc
              rw [Nat.add_zero] at hx
              go_wp2_with (go_at_call 16; refine (rday_c _ _).mono ?_; rintro e w2 ⟨rfl, rfl⟩; rw [HD.out])
              go_round
              case rel => exact ⟨1, by omega, by go_num, Lib.hid (scan_miss HS.out hjn (holAt_ok HD.out (by omega)))⟩
              case measure => simp [intOf]; omega
            · have hy := hc j (by omega)
              clear hc
              by_cases ho : hol hs (j + 1) ≤ hol hs j
              · go_wp2_with (go_at_call 16; refine (rday_c _ _).mono ?_; rintro e w2 ⟨rfl, rfl⟩; rw [HD.out])
                go_ret
                exact ⟨retI (by rw [scan_hit HS.out hjn (by rw [holAt_ord HD.out ⟨by omega, ho⟩]; decide), holAt_ord HD.out ⟨by omega, ho⟩]), hb⟩
              · go_wp2_with (go_at_call 16; refine (rday_c _ _).mono ?_; rintro e w2 ⟨rfl, rfl⟩; rw [HD.out])
                go_round
                case rel => exact ⟨j + 1 + 1, by omega, by go_num, Lib.hid (scan_miss HS.out hjn (holAt_ok HD.out (fun h => by have := h.2; rw [Nat.add_sub_cancel] at this; omega)))⟩
                case measure => simp [intOf]; omega
          · have hd : dayB (hol hs j) = false := by simpa using hd
            have HD := Lib.hid hd; clear hd hc
            go_wp2_with (go_at_call 16; refine (rday_c _ _).mono ?_; rintro e w2 ⟨rfl, rfl⟩; rw [HD.out])
            go_ret
            exact ⟨retI (by rw [scan_hit HS.out hjn (by rw [holAt_day HD.out]; decide), holAt_day HD.out]), hb⟩
        · go_wp2
          go_ret
          exact ⟨retI (scan_end HS.out hjn).symm, hb⟩
  · have HR := Lib.hid (decide_eq_false hr)
    rw [calF_r hr]
    go_enter Try.func8, Try.ntmps8
    go_wp2_with (go_at_call 17; refine (within_c _ _ _ _).mono ?_; rintro e w1 ⟨rfl, rfl⟩; rw [HR.out])
    go_ret
    exact ⟨rfl, by go_grown⟩

end Go.Proofs.Ytopjdkpappiocaa
