
/- The walk of the law AmountSharesAddUp. -/
import Derived.Test.YtegabimiegdcjaaS11
import Derived.Test.YtegabimiegdcjaaRX
import Derived.Test.YtegabimiegdcjaaRB
import Derived.Test.YtegabimiegdcjaaR11
import Derived.Test.YtegabimiegdcjaaA7
namespace Go.Proofs.Ytegabimiegdcjaa
open Go.RowKit Limb Work Stab
set_option linter.unusedVariables false
set_option linter.unusedSimpArgs false

/-- The fault of Shares. -/
noncomputable def shF (u p : Int) (ws : List Int) : Int := if decB u p = true then wtF ws else 1
theorem pshares_fault (u p : Int) (ws : List Int) (A : Option Addr) (n c : Nat) (w : World) (hI : Ints w A n ws) (hn : n ≤ 9223372036854775807) (hf : shF u p ws ≠ 0) :
    Calls Try.prog 20 #[.agg #[.int .i64 u, .int .i64 p], .slice A n c] w fun e w' => e = .returned (.tuple #[.slice none 0 0, .int .i64 (shF u p ws)]) ∧ Below w.heap.size w w' := by
  unfold shF at *
  by_cases h : decB u p = true
  · rw [if_pos h] at *; exact pshares_w u p ws A n c w h hI hn hf
  · rw [if_neg h] at *; exact pshares_bad u p ws A n c w (by simpa using h)
theorem shF_ok {u p : Int} {ws : List Int} (h : shF u p ws = 0) : decB u p = true ∧ wtF ws = 0 := by
  unfold shF at h
  by_cases hd : decB u p = true
  · rw [if_pos hd] at h; exact ⟨hd, h⟩
  · rw [if_neg hd] at h; cases h
theorem small_prod {a b : Int} (ha : a.natAbs ≤ 1000000000000001) (hb : b.natAbs ≤ 1000000000000) : Small (a * b) := by
  unfold Small
  rw [Int.natAbs_mul]
  exact Nat.lt_of_le_of_lt (Nat.mul_le_mul ha hb) (by decide)
theorem sumN_bd {o : Nat → Int} {M : Nat} : ∀ n, (∀ x, x < n → (o x).natAbs ≤ M) → (sumN o n).natAbs ≤ n * M
  | 0, _ => by simp [sumN]
  | n + 1, h => by
    show (sumN o n + o n).natAbs ≤ _
    have h1 := sumN_bd n fun x hx => h x (by omega)
    have h2 := h n (by omega)
    rw [Nat.add_mul, Nat.one_mul]
    omega

set_option maxHeartbeats 2000000 in
set_option maxRecDepth 100000 in
theorem law_add_fault (u p : Int) (ws : List Int) (A : Option Addr) (n c : Nat) (w : World) (hI : Ints w A n ws) (hn : n ≤ 9223372036854775807) (hf : shF u p ws ≠ 0) :
    Calls Try.prog 5 #[.agg #[.int .i64 u, .int .i64 p], .slice A n c] w fun e w' => e = .returned (.bool true) ∧ Below w.heap.size w w' := by
  obtain ⟨F, hF⟩ : ∃ F, shF u p ws = F := ⟨_, rfl⟩
  have H := Lib.hid hf
  have HF := Lib.hid hF
  rw [hF] at hf
  have hf' : (F != 0) = true := by simpa using hf
  clear hf hF
  go_enter Try.func5, Try.ntmps5
  go_wp2_with fail
  have hI1 := hI.below ((Below.refl _ w).alloc (Nat.le_refl _) (.cells #[.int .i64 u, .int .i64 p] 23))
  refine (pshares_fault u p ws A n c _ hI1 hn H.out).mono ?_
  rintro e w1 ⟨rfl, hb1⟩
  rw [HF.out]
  have hbel1 := below_then hb1 (B := w.heap.size) (w := w) (by go_grown) (by simp)
  go_wp2_with fail
  refine (awake_c _).mono ?_
  rintro e w2 ⟨rfl, hb2⟩
  go_wp2
  go_ret
  exact ⟨rfl, below_then hb2 hbel1 hbel1.size⟩

set_option maxHeartbeats 8000000 in
set_option maxRecDepth 100000 in
theorem law_add_ok (u p : Int) (ws : List Int) (A : Option Addr) (n c : Nat) (w : World) (hI : Ints w A n ws) (hn : n ≤ 9223372036854775807) (hd : decB u p = true) (hf : wtF ws = 0) :
    Calls Try.prog 5 #[.agg #[.int .i64 u, .int .i64 p], .slice A n c] w fun e w' => e = .returned (.bool true) ∧ Below w.heap.size w w' := by
  obtain ⟨hn0, hn1, hok, hS⟩ := wtF_ok hf
  have hl := hI.1
  obtain ⟨S, hSe⟩ : ∃ S, sumW ws n = S := ⟨_, rfl⟩
  have hdec := decB_out hd
  have HSB := Lib.hid (sumW_rng ws.length (Nat.le_refl _) hok)
  have HRNG : Hid (∀ j, j ≤ n → 0 ≤ sumW ws j ∧ sumW ws j ≤ j * 1000000000) := fun j hj => sumW_rng j (by omega) (fun p hp => hok p (by omega))
  have HST : Hid (∀ j, j < n → sumW ws (j + 1) = sumW ws j + hol ws j) := fun j hj => sumW_step (by omega)
  have HWB : Hid (∀ j, j < n → 0 ≤ hol ws j ∧ hol ws j ≤ 1000000000) := fun j hj => hok j (by omega)
  have H := Lib.hid hd; have HF := Lib.hid hf; have HSE := Lib.hid hSe; have HLN := Lib.hid hl
  clear hd hf hSe hok
  go_enter Try.func5, Try.ntmps5
  go_wp2_with fail
  have hI1 := hI.below ((Below.refl _ w).alloc (Nat.le_refl _) (.cells #[.int .i64 u, .int .i64 p] 23))
  refine (pshares_ok u p ws A n c _ H.out hI1 hn HF.out).mono ?_
  rintro e w1 ⟨f, b, rfl, hbij, hsrt, hbl, hcell, hb1⟩
  obtain ⟨o, ho, hsum, hfact⟩ := share_facts (u := u) (by omega) HF.out hbij hsrt
  have hD1 := heap_below (heap_new w (.cells #[.int .i64 u, .int .i64 p] 23) rfl) hb1
  have hbel1 := below_then hb1 (B := w.heap.size) (w := w) (by go_grown) (by simp)
  have HI2 := Lib.hid (hI.below hbel1)
  obtain ⟨hd0, hd1, -, -, hDl⟩ := box2 hD1
  have HC : Hid (∀ i, i < n → w1.cell? ⟨b, i * 2, none⟩ = some (.int .i64 (o i)) ∧ w1.cell? ⟨b, i * 2 + 1, none⟩ = some (.int .i64 p)) := fun i hi => by
    obtain ⟨g, hg⟩ := hbij
    obtain ⟨-, k2, k3, -⟩ := hg i (by rw [HLN.out]; exact hi)
    have h1 := hcell (g i) k2
    rw [← ho (g i) k2, k3] at h1
    exact h1
  have HOB : Hid (∀ i, i ≤ n → (sumN o i).natAbs ≤ 1000 * 1000000000000001) := fun i hi => by
    have h1 := sumN_bd (o := o) (M := 1000000000000001) i (fun x hx => (hfact x (by rw [HLN.out]; omega)).2.2)
    have h2 : i * 1000000000000001 ≤ 1000 * 1000000000000001 := Nat.mul_le_mul_right _ (by rw [HLN.out] at hn1; omega)
    exact Nat.le_trans h1 h2
  have HFA : Hid (∀ i, i < n → (hol ws i = 0 → o i = 0) ∧ (o i * S - u * hol ws i).natAbs < S.toNat ∧ (o i).natAbs ≤ 1000000000000001) := fun i hi => by
    have h1 := hfact i (by rw [HLN.out]; exact hi)
    rw [HLN.out, HSE.out] at h1
    exact h1
  have HSUM : Hid (sumN o n = u) := by rw [HLN.out] at hsum; exact hsum
  have hSB := HSB.out
  rw [HLN.out, HSE.out] at hSB hS
  rw [HLN.out] at hn0 hn1 ⊢
  have hSP : 0 ≤ S ∧ S ≤ 1000000000000 ∧ S ≠ 0 := by omega
  have HD0 := Lib.hid hd0; have HD1 := Lib.hid hd1
  clear hSB hS HSB hfact hsum hcell ho hsrt hbij hI hI1 hb1 hD1 hd1 hd0
  go_wp2_with fail
  refine (awake_c _).mono ?_
  rintro e w2 ⟨rfl, hb2⟩
  have hz1 := hbel1.size
  go_wp2
  go_loopw [39, 7, 8] (fun v1 v2 v3 wx => ∃ i : Nat, i ≤ n ∧ v1 = .int .i64 i ∧ v2 = .int .i64 (sumN o i) ∧ v3 = .int .i64 (sumW ws i) ∧ Below w1.heap.size w1 wx) (fun v1 _ _ _ => n - (intOf v1).toNat)
  case atStart => exact ⟨0, Nat.zero_le _, rfl, rfl, by rw [sumW_zero], hb2⟩
  case round =>
    obtain ⟨i, hi, rfl, rfl, rfl, hbx⟩ := hrel
    have hs1 := HRNG.out i hi
    have hs2 := HOB.out i hi
    rcases Nat.lt_or_ge i n with hlt | hge
    · obtain ⟨a, off, rfl, hal, hc⟩ := HI2.out.2.2 (by omega)
      have hwc := (hbx.cell (p := ⟨a, off + i, none⟩) hal).trans (hc i hlt)
      obtain ⟨hc0, hc1⟩ := HC.out i hlt
      have x0 := (hbx.cell (p := ⟨b, i * 2, none⟩) hbl).trans hc0
      have x1 := (hbx.cell (p := ⟨b, i * 2 + 1, none⟩) hbl).trans hc1
      have hd1 := (hbx.cell (p := ⟨w.heap.size, 1, none⟩) hDl).trans HD1.out
      have HB := Lib.hid hbx
      obtain ⟨f1, f2, f3⟩ := HFA.out i hlt
      have f1 := Lib.hid f1
      have hwb := HWB.out i hlt
      have hs3 := HOB.out (i + 1) (by omega)
      have HSN : Hid (sumN o (i + 1) = sumN o i + o i) := rfl
      rw [HSN.out] at hs3
      clear hc hc0 hc1 hbx f2
      by_cases hw0 : hol ws i = 0
      · have ho0 := f1.out hw0
        go_wp2_with fail
        go_region
        go_wp2
        go_roundw
        case rel => exact ⟨i + 1, by omega, rfl, by rw [HSN.out, ho0]; go_num, by rw [HST.out i hlt, hw0]; go_num, HB.out.drew⟩
        case measure => simp [intOf]; omega
      · have hwq : (hol ws i == 0) = false := by rw [beq_eq_false_iff_ne]; exact hw0
        go_wp2_with fail
        go_region
        go_wp2
        go_roundw
        case rel => exact ⟨i + 1, by omega, rfl, by rw [HSN.out], by rw [HST.out i hlt], HB.out.drew⟩
        case measure => simp [intOf]; omega
    · obtain rfl : n = i := by omega
      rw [HSE.out, HSUM.out]
      clear hs1 hs2
      have HBX := Lib.hid hbx
      clear hbx
      go_wp2
      go_loopw [77] (fun v1 wx => ∃ i : Nat, i ≤ n ∧ v1 = .int .i64 i ∧ Below w1.heap.size w1 wx) (fun v1 _ => n - (intOf v1).toNat)
      case atStart => exact ⟨0, Nat.zero_le _, rfl, HBX.out⟩
      case round =>
        obtain ⟨i, hi, rfl, hbel0⟩ := hrel
        have hl0 := hbel0.size
        rcases Nat.lt_or_ge i n with hlt | hge
        · obtain ⟨a, off, rfl, hal, hc⟩ := HI2.out.2.2 (by omega)
          have hwc := (hbel0.cell (p := ⟨a, off + i, none⟩) hal).trans (hc i hlt)
          have hc0 := (HC.out i hlt).1
          have hd0 := HD0.out
          have x0 := (hbel0.cell (p := ⟨b, i * 2, none⟩) hbl).trans hc0
          have x1 := (hbel0.cell (p := ⟨w.heap.size, 0, none⟩) hDl).trans hd0
          obtain ⟨f1, f2, f3⟩ := HFA.out i hlt
          have hwb := HWB.out i hlt
          have HF2 := Lib.hid f2
          have SMA : Hid (Small (o i)) := small_of_le (by omega) (by omega)
          have SMS : Hid (Small S) := small_of_le (by omega) (by omega)
          have SMU : Hid (Small u) := small_of_le (by omega) (by omega)
          have SMW : Hid (Small (hol ws i)) := small_of_le (by omega) (by omega)
          have SMP : Hid (Small (o i * S)) := small_prod (by omega) (by omega)
          have SMM : Hid (Small (-(u * hol ws i))) := small_neg (small_prod (by omega) (by omega))
          have SMF : Hid (Small (((o i * S + -(u * hol ws i)).natAbs : Nat) : Int)) := small_of_le (by omega) (by omega)
          clear hc f1 f2
          go_wp2_with fail
          go_cut [13, 77] from 77 to 105 (fun c c2 wx => c2 = .int .i64 i ∧ ∃ (g : Nat) (s9 : Bool) (A9 : Option Addr) (n9 c9 : Nat), c = .pointer (some ⟨g, 0, none⟩) ∧ w1.heap.size ≤ g ∧ wx.heap[g]? = some (.cells #[.bool s9, .slice A9 n9 c9] 41 (0, 0)) ∧ Big .i64 3 B6 wx s9 A9 n9 c9 (o i * S + -(u * hol ws i)) ∧ Below w1.heap.size w1 wx)
          case first =>
            go_region_held3 (fun w' => w'.cell? ⟨b, i * 2, none⟩ = some (.int .i64 (o i)) ∧ w'.cell? ⟨w.heap.size, 0, none⟩ = some (.int .i64 u))
              (first | (with_reducible exact ⟨x10, x11⟩) | (with_reducible exact ⟨x20, x21⟩) | (with_reducible exact ⟨x30, x31⟩) | (with_reducible exact ⟨x40, x41⟩) | (with_reducible exact ⟨x50, x51⟩) | (with_reducible exact ⟨x60, x61⟩) | (with_reducible exact ⟨x70, x71⟩) | (with_reducible exact ⟨x80, x81⟩) | (with_reducible refine ⟨cell_past2 x80 ?_, cell_past2 x81 ?_⟩ <;> omega; done) | (exact ⟨x0, x1⟩) | (go_keep; done))
              (first
                | (go_at_call_of 23 (Value.int IntKind.i64 (o i)); refine (of_r (o i) _ (by omega)).mono ?_; rintro e w1 ⟨s1, A1, n1, c1, rfl, hv1, hb1⟩; have hh1 : Below wr.heap.size wr w1 := below_then hb1 (by go_grown) (by first | exact Nat.le_refl _ | (simp only [World.size_alloc, World.size_drew] <;> omega)); have hbel1 := below_then hh1 hbel0 hbel0.size; have hl1 := hh1.size; have x10 := (hbel1.cell (p := ⟨b, i * 2, none⟩) hbl).trans hc0; have x11 := (hbel1.cell (p := ⟨w.heap.size, 0, none⟩) hDl).trans hd0; (first | have hN1 := news1d hb1 | have hN1 := news1 hb1 | have hN1 := True.intro))
                | (go_at_call_of 23 (Value.int IntKind.i64 S); refine (of_r S _ (by omega)).mono ?_; rintro e w2 ⟨s2, A2, n2, c2, rfl, hv2, hb2⟩; have hh2 : Below w1.heap.size w1 w2 := below_then hb2 (by go_grown) (by first | exact Nat.le_refl _ | (simp only [World.size_alloc, World.size_drew] <;> omega)); have hv1_2 := hv1.below hh2; have hbel2 := below_then hh2 hbel1 hbel1.size; have hl2 := hh2.size; have x20 := (hbel2.cell (p := ⟨b, i * 2, none⟩) hbl).trans hc0; have x21 := (hbel2.cell (p := ⟨w.heap.size, 0, none⟩) hDl).trans hd0; (first | have hN2 := heap_below hN1 hh2 | have hN2 := news1d hb2 | have hN2 := news1 hb2 | have hN2 := True.intro))
                | (go_at_call_of 22 (Value.agg #[Value.bool s1, Value.slice A1 n1 c1]); refine (timesof_r _ (x := o i) (y := S) (by first | with_reducible exact hv1_2 | with_reducible exact hv1_2.alloc _) (by first | with_reducible exact hv2 | with_reducible exact hv2.alloc _) SMA.out SMS.out).mono ?_; rintro e w3 ⟨s3, A3, n3, c3, rfl, hv3, hb3⟩; have hh3 : Below w2.heap.size w2 w3 := below_then hb3 (by go_grown) (by first | exact Nat.le_refl _ | (simp only [World.size_alloc, World.size_drew] <;> omega)); have hbel3 := below_then hh3 hbel2 hbel2.size; have hl3 := hh3.size; have x30 := (hbel3.cell (p := ⟨b, i * 2, none⟩) hbl).trans hc0; have x31 := (hbel3.cell (p := ⟨w.heap.size, 0, none⟩) hDl).trans hd0; (first | have hN3 := heap_below hN2 hh3 | have hN3 := news1d hb3 | have hN3 := news1 hb3 | have hN3 := True.intro))
                | (go_at_call_of 23 (Value.int IntKind.i64 u); refine (of_r u _ (by omega)).mono ?_; rintro e w4 ⟨s4, A4, n4, c4, rfl, hv4, hb4⟩; have hh4 : Below w3.heap.size w3 w4 := below_then hb4 (by go_grown) (by first | exact Nat.le_refl _ | (simp only [World.size_alloc, World.size_drew] <;> omega)); have hv3_4 := hv3.below hh4; have hbel4 := below_then hh4 hbel3 hbel3.size; have hl4 := hh4.size; have x40 := (hbel4.cell (p := ⟨b, i * 2, none⟩) hbl).trans hc0; have x41 := (hbel4.cell (p := ⟨w.heap.size, 0, none⟩) hDl).trans hd0; (first | have hN4 := heap_below hN3 hh4 | have hN4 := news1d hb4 | have hN4 := news1 hb4 | have hN4 := True.intro))
                | (go_at_call_of 23 (Value.int IntKind.i64 (hol ws i)); refine (of_r (hol ws i) _ (by omega)).mono ?_; rintro e w5 ⟨s5, A5, n5, c5, rfl, hv5, hb5⟩; have hh5 : Below w4.heap.size w4 w5 := below_then hb5 (by go_grown) (by first | exact Nat.le_refl _ | (simp only [World.size_alloc, World.size_drew] <;> omega)); have hv3_5 := hv3_4.below hh5; have hv4_5 := hv4.below hh5; have hbel5 := below_then hh5 hbel4 hbel4.size; have hl5 := hh5.size; have x50 := (hbel5.cell (p := ⟨b, i * 2, none⟩) hbl).trans hc0; have x51 := (hbel5.cell (p := ⟨w.heap.size, 0, none⟩) hDl).trans hd0; (first | have hN5 := heap_below hN4 hh5 | have hN5 := news1d hb5 | have hN5 := news1 hb5 | have hN5 := True.intro))
                | (go_at_call_of 22 (Value.agg #[Value.bool s4, Value.slice A4 n4 c4]); refine (timesof_r _ (x := u) (y := hol ws i) (by first | with_reducible exact hv4_5 | with_reducible exact hv4_5.alloc _) (by first | with_reducible exact hv5 | with_reducible exact hv5.alloc _) SMU.out SMW.out).mono ?_; rintro e w6 ⟨s6, A6, n6, c6, rfl, hv6, hb6⟩; have hh6 : Below w5.heap.size w5 w6 := below_then hb6 (by go_grown) (by first | exact Nat.le_refl _ | (simp only [World.size_alloc, World.size_drew] <;> omega)); have hv3_6 := hv3_5.below hh6; have hbel6 := below_then hh6 hbel5 hbel5.size; have hl6 := hh6.size; have x60 := (hbel6.cell (p := ⟨b, i * 2, none⟩) hbl).trans hc0; have x61 := (hbel6.cell (p := ⟨w.heap.size, 0, none⟩) hDl).trans hd0; (first | have hN6 := heap_below hN5 hh6 | have hN6 := news1d hb6 | have hN6 := news1 hb6 | have hN6 := True.intro))
                | (go_at_call 24; refine (minus_r (z := u * hol ws i) (by first | with_reducible exact hv6 | with_reducible exact hv6.alloc _)).mono ?_; rintro e w7 ⟨s7, A7, n7, c7, rfl, hv7, hb7⟩; have hh7 : Below w6.heap.size w6 w7 := below_then hb7 (by go_grown) (by first | exact Nat.le_refl _ | (simp only [World.size_alloc, World.size_drew] <;> omega)); have hv3_7 := hv3_6.below hh7; have hbel7 := below_then hh7 hbel6 hbel6.size; have hl7 := hh7.size; have x70 := (hbel7.cell (p := ⟨b, i * 2, none⟩) hbl).trans hc0; have x71 := (hbel7.cell (p := ⟨w.heap.size, 0, none⟩) hDl).trans hd0; (first | have hN7 := heap_below hN6 hh7 | have hN7 := news1d hb7 | have hN7 := news1 hb7 | have hN7 := True.intro))
                | (go_at_call 21; refine (plus_r _ (x := o i * S) (y := -(u * hol ws i)) (by first | with_reducible exact hv3_7 | with_reducible exact hv3_7.alloc _) (by first | with_reducible exact hv7 | with_reducible exact hv7.alloc _) SMP.out SMM.out).mono ?_; rintro e w8 ⟨s8, A8, n8, c8, rfl, hv8, hb8⟩; have hh8 : Below w7.heap.size w7 w8 := below_then hb8 (by go_grown) (by first | exact Nat.le_refl _ | (simp only [World.size_alloc, World.size_drew] <;> omega)); have hbel8 := below_then hh8 hbel7 hbel7.size; have hl8 := hh8.size; have x80 := (hbel8.cell (p := ⟨b, i * 2, none⟩) hbl).trans hc0; have x81 := (hbel8.cell (p := ⟨w.heap.size, 0, none⟩) hDl).trans hd0; (first | have hN8 := heap_below hN7 hh8 | have hN8 := news1d hb8 | have hN8 := news1 hb8 | have hN8 := True.intro); (first | (have hBP := box2 hN8; obtain ⟨p80, p81, p82, p83, p84⟩ := hBP) | skip)))
            all_goals
              go_wp2_with fail
              go_meet
              refine ⟨rfl, _, s8, A8, n8, c8, rfl, ?_, ?_, ?_, ?_⟩
              · (first | omega | (dsimp only; omega) | (simp only [World.size_alloc, World.size_drew, World.size_setCell] <;> omega))
              · (repeat' (first | (with_reducible assumption) | (with_reducible refine heap_store2 (x := .bool false) (y := .slice none 0 0) ?_) | (with_reducible refine heap_far2 ?_ (by (first | omega | (dsimp only; omega) | (simp only [World.size_alloc, World.size_drew, World.size_setCell] <;> omega)))) | (with_reducible refine heap_far ?_ (by (first | omega | (dsimp only; omega) | (simp only [World.size_alloc, World.size_drew, World.size_setCell] <;> omega))) _) | (with_reducible refine heap_new _ _ ?_; (first | omega | (dsimp only; omega) | (simp only [World.size_alloc, World.size_drew, World.size_setCell] <;> omega)); done) | (with_reducible refine heap_drew ?_) | (with_reducible refine heap_old ?_ _)))
              · (repeat' (first | (with_reducible assumption) | (with_reducible refine heap_store2 (x := .bool false) (y := .slice none 0 0) ?_) | (with_reducible refine heap_far2 ?_ (by (first | omega | (dsimp only; omega) | (simp only [World.size_alloc, World.size_drew, World.size_setCell] <;> omega)))) | (with_reducible refine heap_far ?_ (by (first | omega | (dsimp only; omega) | (simp only [World.size_alloc, World.size_drew, World.size_setCell] <;> omega))) _) | (with_reducible refine heap_new _ _ ?_; (first | omega | (dsimp only; omega) | (simp only [World.size_alloc, World.size_drew, World.size_setCell] <;> omega)); done) | (with_reducible refine heap_drew ?_) | (with_reducible refine heap_old ?_ _) | (with_reducible refine Big.box2 (cs := #[.bool false, .slice none 0 0]) (T := 41) ?_ ?_ (by decide) _ _) | (with_reducible refine Big.alloc ?_ _)))
              · go_grown
          case rest =>
            obtain ⟨rfl, g, s9, A9, n9, c9, rfl, hg, hG, hv9, hbel9⟩ := hcut
            clear x0 x1 hbel0 hl0 hwc hc0 hd0
            obtain ⟨g0, g1, g2, g3, g4⟩ := box2 hG
            go_upto_region 19 with fail
            have hG2 := heap_set hG 0 (.bool false)
            have hv2 : Big .i64 3 B6 (wc.setCell ⟨g, 0, none⟩ (.bool false)) false A9 n9 c9 (((o i * S + -(u * hol ws i)).natAbs : Nat) : Int) := big_abs6' (hv9.far hG (by decide) _)
            have hbel2 := hbel9.setCell (p := ⟨g, 0, none⟩) (by exact hg) (.bool false)
            have hG2 : (wc.setCell ⟨g, 0, none⟩ (.bool false)).heap[g]? = some (.cells #[.bool false, .slice A9 n9 c9] 41 (0, 0)) := by simpa using hG2
            generalize wc.setCell ⟨g, 0, none⟩ (.bool false) = w6 at hG2 hv2 hbel2 ⊢
            clear hG hv9 hbel9 g0 g1 g2 g3 g4
            obtain ⟨g0, g1, -, -, -⟩ := box2 hG2
            have HLT : Hid (((((o i * S + -(u * hol ws i)).natAbs : Nat) : Int) - S).sign = -1) := Lib.hid (Int.sign_eq_neg_one_of_neg (by have := HF2.out; omega))
            have hz6 := hbel2.size
            go_region_held3 (fun w' => w'.cell? ⟨g, 0, none⟩ = some (.bool false) ∧ w'.cell? ⟨g, 1, none⟩ = some (.slice A9 n9 c9))
              (first | (with_reducible exact ⟨g70, g71⟩) | (with_reducible exact ⟨g80, g81⟩) | (exact ⟨g0, g1⟩) | (go_keep; done))
              (first
                | (go_at_call 23; refine (of_r S _ (by omega)).mono ?_; rintro e w7 ⟨s7, A7, n7, c7, rfl, hv7, hb7⟩; (have hG7 := heap_below (w := w6.drew) hG2 hb7); obtain ⟨g70, g71, -, -, -⟩ := box2 hG7)
                | (go_at_call 25; refine (cmp_r _ (by exact Big.below (w := w6.drew) hv2 hb7) hv7 SMF.out SMS.out).mono ?_; rintro e w8 ⟨rfl, hb8⟩; rw [HLT.out]; (have hG8 := heap_below hG7 hb8); obtain ⟨g80, g81, -, -, -⟩ := box2 hG8))
            have hbelE := below_then hb8 (below_then hb7 hbel2.drew hz6) (Nat.le_trans hz6 hb7.size)
            have HBE := Lib.hid hbelE
            clear hbelE hb7 hb8 hbel2 hG7 hG8 hG2 hv2 hv7 g0 g1 g70 g71 g80 g81
            go_wp2
            go_roundw
            case rel => exact ⟨i + 1, by omega, rfl, HBE.out⟩
            case measure => simp [intOf]; omega
        · obtain rfl : n = i := by omega
          have hd0 := (hbel0.cell (p := ⟨w.heap.size, 0, none⟩) hDl).trans HD0.out
          have HBE := Lib.hid (below_then hbel0 hbel1 hbel1.size)
          clear hbel0
          go_wp2
          go_ret
          exact ⟨rfl, HBE.out⟩

theorem law_add (u p : Int) (ws : List Int) (A : Option Addr) (n c : Nat) (w : World) (hI : Ints w A n ws) (hn : n ≤ 9223372036854775807) :
    Calls Try.prog 5 #[.agg #[.int .i64 u, .int .i64 p], .slice A n c] w fun e w' => e = .returned (.bool true) ∧ Below w.heap.size w w' := by
  by_cases hf : shF u p ws = 0
  · exact law_add_ok u p ws A n c w hI hn (shF_ok hf).1 (shF_ok hf).2
  · exact law_add_fault u p ws A n c w hI hn hf

end Go.Proofs.Ytegabimiegdcjaa
