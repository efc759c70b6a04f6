
/- The walks of working days: the search among the holidays, and whether a day is a working day. -/
import Derived.Test.YtopjdkpappiocaaD1
namespace Go.Proofs.Ytopjdkpappiocaa
open Go.RowKit Limb Work

/-- The first i holidays are before a day, and those from j on are not. -/
def Split (hs : List Int) (d : Int) (n i j : Nat) : Prop := (∀ p, p < i → hol hs p < d) ∧ (∀ p, j ≤ p → p < n → d ≤ hol hs p)
def Sorted (hs : List Int) : Prop := ∀ j, j + 1 < hs.length → hol hs j < hol hs (j + 1)
theorem mem_hol {hs : List Int} {d : Int} : d ∈ hs ↔ ∃ j, j < hs.length ∧ hol hs j = d := by
  have := hol_mem (hs := hs) (n := hs.length) (d := d)
  rw [List.take_length] at this
  rw [this]
  constructor
  · rintro ⟨j, h1, _, h3⟩; exact ⟨j, h1, h3⟩
  · rintro ⟨j, h1, h3⟩; exact ⟨j, h1, h1, h3⟩
theorem Split.end_ {hs : List Int} {d : Int} {n i : Nat} (hl : hs.length = n) (hs' : Sorted hs) (h : Split hs d n i i) : decide (d ∈ hs) = decide (i < n ∧ hol hs i = d) := by
  subst hl
  rw [decide_eq_decide, mem_hol]
  constructor
  · rintro ⟨j, h1, h2⟩
    rcases Nat.lt_trichotomy j i with h3 | h3 | h3
    · have := h.1 j h3; omega
    · subst h3; exact ⟨h1, h2⟩
    · have h4 := h.2 i (Nat.le_refl _) (by omega)
      have h5 := hol_sorted hs' h3 h1
      omega
  · rintro ⟨h1, h2⟩; exact ⟨i, h1, h2⟩
theorem Split.up {hs : List Int} {d : Int} {n i j m : Nat} (hl : hs.length = n) (hs' : Sorted hs) (h : Split hs d n i j) (hm : m < n) (hd : hol hs m < d) : Split hs d n (m + 1) j := by
  subst hl
  refine ⟨fun p hp => ?_, h.2⟩
  rcases Nat.lt_or_ge p m with h1 | h1
  · have := hol_sorted hs' h1 hm; omega
  · rw [show p = m by omega]; exact hd
theorem Split.down {hs : List Int} {d : Int} {n i j m : Nat} (hl : hs.length = n) (hs' : Sorted hs) (h : Split hs d n i j) (hd : ¬ hol hs m < d) : Split hs d n i m := by
  subst hl
  refine ⟨h.1, fun p hp hpn => ?_⟩
  rcases Nat.eq_or_lt_of_le hp with h1 | h1
  · rw [← h1]; omega
  · have := hol_sorted hs' h1 hpn; omega

theorem nan_c (x : Int) (w : World) : Calls Try.prog 30 #[.int .i64 x] w fun e w' => w = w' ∧ e = .returned (.bool false) := by
  go_enter Try.func30, Try.ntmps30
  go_wp2
  go_ret
  exact ⟨rfl, by simp⟩
theorem nan2_c (x : Int) (w : World) : Calls Try.prog 40 #[.int .i64 x] w fun e w' => w = w' ∧ e = .returned (.bool false) := by
  go_enter Try.func40, Try.ntmps40
  go_wp2
  go_ret
  exact ⟨rfl, by simp⟩
theorem less_i (x y : Int) (w : World) : Calls Try.prog 29 #[.int .i64 x, .int .i64 y] w fun e w' => w = w' ∧ e = .returned (.bool (decide (x < y))) := by
  by_cases h : x < y
  · go_enter Try.func29, Try.ntmps29
    go_wp2_with (go_at_call 40; refine (nan2_c _ _).mono ?_; rintro e w1 ⟨rfl, rfl⟩)
    go_ret
    exact ⟨rfl, by simp [h]⟩
  · go_enter Try.func29, Try.ntmps29
    go_wp2_with (go_at_call 40; refine (nan2_c _ _).mono ?_; rintro e w1 ⟨rfl, rfl⟩)
    go_ret
    exact ⟨rfl, by simp⟩

set_option maxHeartbeats 1000000 in
set_option maxRecDepth 100000 in
theorem search_c (hs : List Int) (d : Int) (A : Option Addr) (n c : Nat) (w : World) (hI : Ints w A n hs) (hn : n ≤ 1000) (hS : Sorted hs) :
    Calls Try.prog 22 #[.slice A n c, .int .i64 d] w fun e w' => w = w' ∧ ∃ i : Int, e = .returned (.tuple #[.int .i64 i, .bool (decide (d ∈ hs))]) := by
  have HL := Lib.hid hI.1; have HS := Lib.hid hS; clear hS
  obtain ⟨B, hB⟩ : ∃ B, decide (d ∈ hs) = B := ⟨_, rfl⟩
  rw [hB]
  have HB := Lib.hid hB; clear hB
  go_enter Try.func22, Try.ntmps22
  go_wp2
  go_loop [7, 8] (fun x y => ∃ i j : Nat, i ≤ j ∧ j ≤ n ∧ x = .int .i64 i ∧ y = .int .i64 j ∧ Hid (Split hs d n i j)) (fun x y => (intOf y - intOf x).toNat)
  case atStart => exact ⟨0, n, Nat.zero_le _, Nat.le_refl _, rfl, rfl, Lib.hid ⟨fun p hp => by omega, fun p h1 h2 => by omega⟩⟩
  case round =>
    obtain ⟨i, j, hij, hj, rfl, rfl, HP⟩ := hrel
    rcases Nat.lt_or_ge i j with hlt | hge
    · obtain ⟨b, off, rfl, hbl, hc⟩ := hI.2.2 (by omega)
      have hx := hc ((i + j) / 2) (by omega)
      clear hc
      have hm : (i + j) / 2 < n := by omega
      by_cases hd : hol hs ((i + j) / 2) < d
      · have HD := Lib.hid (decide_eq_true hd)
        have HN := Lib.hid (HP.out.up HL.out HS.out hm hd)
        clear hd
        go_wp2_with (go_at_call 29; refine (less_i _ _ _).mono ?_; rintro e w1 ⟨rfl, rfl⟩; rw [HD.out])
        go_round
        case rel => exact ⟨(i + j) / 2 + 1, j, by omega, by omega, by go_num, rfl, HN⟩
        case measure => simp [intOf]; omega
      · have HD := Lib.hid (decide_eq_false hd)
        have HN := Lib.hid (HP.out.down HL.out HS.out (i := i) (j := j) hd)
        clear hd
        go_wp2_with (go_at_call 29; refine (less_i _ _ _).mono ?_; rintro e w1 ⟨rfl, rfl⟩; rw [HD.out])
        go_round
        case rel => exact ⟨i, (i + j) / 2, by omega, by omega, rfl, by go_num, HN⟩
        case measure => simp [intOf]; omega
    · obtain rfl : i = j := by omega
      have HE := Lib.hid (HB.out.symm.trans (Split.end_ HL.out HS.out HP.out))
      rcases Nat.lt_or_ge i n with hin | hin
      · obtain ⟨b, off, rfl, hbl, hc⟩ := hI.2.2 (by omega)
        have hx := hc i hin
        clear hc
        by_cases he : hol hs i = d
        · have e : decide (i < n ∧ hol hs i = d) = true := decide_eq_true ⟨hin, he⟩
          have HE := Lib.hid (HE.out.trans e)
          have he' : (hol hs i == d) = true := by simpa using he
          clear e he
          go_wp2
          go_ret2
          exact ⟨rfl, (i : Int), by rw [HE.out]; rfl⟩
        · have e : decide (i < n ∧ hol hs i = d) = false := decide_eq_false (fun h => he h.2)
          have HE := Lib.hid (HE.out.trans e)
          have he' : (hol hs i == d) = false := by simpa using he
          clear e he
          go_wp2_with (go_at_call 30; refine (nan_c _ _).mono ?_; rintro e w1 ⟨rfl, rfl⟩)
          go_ret2
          exact ⟨rfl, (i : Int), by rw [HE.out]; rfl⟩
      · have e : decide (i < n ∧ hol hs i = d) = false := decide_eq_false (fun h => by omega)
        have HE := Lib.hid (HE.out.trans e)
        clear e
        go_wp2
        go_ret2
        exact ⟨rfl, (i : Int), by rw [HE.out]; rfl⟩

theorem workB_hol {r : Int} {hs : List Int} {d : Int} (h : decide (d ∈ hs) = true) : workB r hs d = false := by unfold workB; rw [h]; rfl
theorem workB_not {r : Int} {hs : List Int} {d : Int} (h : decide (d ∈ hs) = false) : workB r hs d = !restB r d := by unfold workB; rw [h]; rfl

set_option maxHeartbeats 1000000 in
theorem iswork_c (r : Int) (hs : List Int) (d : Int) (A : Option Addr) (n c : Nat) (w : World) (hI : Ints w A n hs) (hk : calF r hs = 0) (hd : 1 ≤ d ∧ d ≤ 4000000) :
    Calls Try.prog 15 #[.agg #[.int .i64 r, .slice A n c], .int .i64 d] w fun e w' => Below w.heap.size w w' ∧ e = .returned (.bool (workB r hs d)) := by
  obtain ⟨hr, hl, _, hS⟩ := calF_ok hk
  have hn : n ≤ 1000 := by rw [← hI.1]; exact hl
  have HS := Lib.hid hS
  clear hk hS
  have hI1 := hI.alloc (.cells #[.int .i64 r, .slice A n c] 24)
  have hB := heap_new w (.cells #[.int .i64 r, .slice A n c] 24) rfl
  have hb : Below w.heap.size w (w.alloc (.cells #[.int .i64 r, .slice A n c] 24)) := by go_grown
  cases hm : decide (d ∈ hs) with
  | true =>
    have HM := Lib.hid hm
    rw [workB_hol hm]
    clear hm
    go_enter Try.func15, Try.ntmps15
    go_wp2_with fail
    generalize w.alloc (.cells #[.int .i64 r, .slice A n c] 24) = w1 at hB hI1 hb ⊢
    obtain ⟨c0, c1, -, -, z1⟩ := box2 hB
    refine (search_c hs d A n c _ hI1 hn HS.out).mono ?_
    rintro e w2 ⟨rfl, i, rfl⟩
    rw [HM.out]
    go_wp2
    go_ret
    exact ⟨hb, rfl⟩
  | false =>
    have HM := Lib.hid hm
    rw [workB_not hm]
    clear hm
    go_enter Try.func15, Try.ntmps15
    go_wp2_with fail
    generalize w.alloc (.cells #[.int .i64 r, .slice A n c] 24) = w1 at hB hI1 hb ⊢
    obtain ⟨c0, c1, -, -, z1⟩ := box2 hB
    refine (search_c hs d A n c _ hI1 hn HS.out).mono ?_
    rintro e w2 ⟨rfl, i, rfl⟩
    rw [HM.out]
    go_wp2_with fail
    refine (rests_c r d A n c _ hr hd).mono ?_
    rintro e w3 ⟨hb3, rfl⟩
    go_wp2
    go_ret
    exact ⟨below_then hb3 hb hb.size, rfl⟩

theorem workB_rest {r : Int} {hs : List Int} {d : Int} (h : restB r d = true) : workB r hs d = false := by unfold workB; rw [h]; simp
theorem workB_in {r : Int} {hs : List Int} {d : Int} {j : Nat} (hj : j < hs.length) (h : hol hs j = d) : workB r hs d = false := workB_hol (decide_eq_true (mem_hol.2 ⟨j, hj, h⟩))
theorem workB_out {r : Int} {hs : List Int} {d : Int} {n : Nat} (hn : hs.length ≤ n) (hr : restB r d = false) (h : ∀ p, p < n → ¬ hol hs p = d) : workB r hs d = true := by
  have e : decide (d ∈ hs) = false := by
    apply decide_eq_false
    rw [mem_hol]
    rintro ⟨j, h1, h2⟩
    exact h j (by omega) h2
  rw [workB_not e, hr]; rfl

set_option maxHeartbeats 1000000 in
set_option maxRecDepth 100000 in
theorem riswork_c (r : Int) (hs : List Int) (d : Int) (A : Option Addr) (n c : Nat) (w : World) (hI : Ints w A n hs) (hk : calF r hs = 0) (hd : 1 ≤ d ∧ d ≤ 4000000) :
    Calls Try.prog 18 #[.agg #[.int .i64 r, .slice A n c], .int .i64 d] w fun e w' => Below w.heap.size w w' ∧ e = .returned (.bool (workB r hs d)) := by
  obtain ⟨hr, hl, _, _⟩ := calF_ok hk
  have hn : n ≤ 1000 := by rw [← hI.1]; exact hl
  have HL := Lib.hid hI.1
  obtain ⟨hd1, hd2⟩ := hd
  clear hk hl
  have h0 : 0 ≤ (d - 1) % 7 := Int.emod_nonneg _ (by decide)
  have h6 : (d - 1) % 7 ≤ 6 := by omega
  obtain ⟨V, hV⟩ : ∃ V, workB r hs d = V := ⟨_, rfl⟩
  have HV := Lib.hid hV
  rw [hV]; clear hV
  obtain ⟨b1, b2⟩ := shr_bd hr ((d - 1) % 7).toNat
  have hI1 := hI.alloc (.cells #[.int .i64 r, .slice A n c] 24)
  have hB := heap_new w (.cells #[.int .i64 r, .slice A n c] 24) rfl
  have hb : Below w.heap.size w (w.alloc (.cells #[.int .i64 r, .slice A n c] 24)) := by go_grown
  cases hR : restB r d with
  | true =>
    have HR := Lib.hid hR
    have hbit : ((r / 2 ^ ((d - 1) % 7).toNat) % 2 == 1) = true := mod_bit.trans hR
    clear hR
    go_enter Try.func18, Try.ntmps18
    go_wp2_with fail
    go_ret
    exact ⟨hb, retB (by rw [← HV.out, workB_rest HR.out])⟩
  | false =>
    have HR := Lib.hid hR
    have hbit : ((r / 2 ^ ((d - 1) % 7).toNat) % 2 == 1) = false := mod_bit.trans hR
    clear hR
    go_enter Try.func18, Try.ntmps18
    go_wp2_with fail
    generalize w.alloc (.cells #[.int .i64 r, .slice A n c] 24) = w1 at hB hI1 hb ⊢
    obtain ⟨c0, c1, -, -, z1⟩ := box2 hB
    go_loop [18] (fun i => ∃ j : Nat, j ≤ n ∧ i = .int .i64 j ∧ Hid (∀ p, p < j → ¬ hol hs p = d)) (fun i => n - (intOf i).toNat)
    case atStart => exact ⟨0, Nat.zero_le _, rfl, Lib.hid (fun p hp => by omega)⟩
    case round =>
      obtain ⟨j, hj, rfl, HP⟩ := hrel
      rcases Nat.lt_or_ge j n with hjn | hjn
      · obtain ⟨b, off, rfl, hbl, hc⟩ := hI1.2.2 (by omega)
        have hx := hc j hjn
        clear hc
        by_cases he : hol hs j = d
        · have HE := Lib.hid (workB_in (r := r) (by rw [HL.out]; exact hjn) he)
          have he' : (hol hs j == d) = true := by simpa using he
          clear he
          go_wp2
          go_ret
          exact ⟨hb, retB (by rw [← HV.out, HE.out])⟩
        · have HE := Lib.hid he
          have he' : (hol hs j == d) = false := by simpa using he
          clear he
          go_wp2
          go_round
          case rel => exact ⟨j + 1, by omega, by go_num, Lib.hid (fun p hp => by
            rcases Nat.lt_or_ge p j with h | h
            · exact HP.out p h
            · rw [show p = j by omega]; exact HE.out)⟩
          case measure => simp [intOf]; omega
      · obtain rfl : j = n := by omega
        go_wp2
        go_ret
        exact ⟨hb, retB (by rw [← HV.out, workB_out (n := j) (by rw [HL.out]; exact Nat.le_refl _) HR.out HP.out])⟩
end Go.Proofs.Ytopjdkpappiocaa
