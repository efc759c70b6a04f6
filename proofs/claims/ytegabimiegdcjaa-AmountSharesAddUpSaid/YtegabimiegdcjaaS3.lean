
/- The walks of the stable sort: the test between two shares, swapRange, rotate. -/
import Derived.Test.YtegabimiegdcjaaS2
import Derived.Test.YtegabimiegdcjaaN1
import Derived.Deep.DeepCutAuto
import Derived.BigRegion
namespace Go.Proofs.Ytegabimiegdcjaa
open Go.RowKit Limb Stab
set_option linter.unusedVariables false
set_option linter.unusedSimpArgs false

/-- A share as a value. -/
def Fam.val (F : Fam) (x : Nat) : Value := .agg #[.int .i64 (x : Int), .int .i64 (F.q x), .bool (F.sg x), .slice (F.A x) (F.m x) (F.c x)]

set_option maxHeartbeats 2000000 in
set_option maxRecDepth 100000 in
theorem test_c (F : Fam) (G : F.Good) {f : Nat → Nat} {w : World} (R : F.Row f w) {x y : Nat} (hx : x < F.n) (hy : y < F.n) :
    Calls Try.prog 56 #[F.val x, F.val y] w fun e w' => e = .returned (.int .i64 (((F.r y : Nat) : Int) - ((F.r x : Nat) : Int)).sign) ∧ Below w.heap.size w w' := by
  have hbx := R.big G hx
  have hby := R.big G hy
  have sx := small_nat (G.low x hx)
  have sy := small_nat (G.low y hy)
  unfold Fam.val
  go_enter Try.func56, Try.ntmps56
  go_wp2_with fail
  refine (compareI_c _ ((hby.alloc _).alloc _) ((hbx.alloc _).alloc _) sy sx).mono ?_
  rintro e w4 ⟨rfl, hb4⟩
  go_wp2
  go_ret
  exact ⟨rfl, below_then hb4 (by go_grown) (by simp only [World.size_alloc]; omega)⟩

set_option maxHeartbeats 2000000 in
set_option maxRecDepth 100000 in
theorem swaprange_c (F : Fam) (G : F.Good) {f : Nat → Nat} {w : World} (R : F.Row f w) (a b k cap : Nat) (fv : Value) (hab : a + k ≤ b) (hb : b + k ≤ F.n) :
    Calls Try.prog 88 #[.slice (some ⟨F.blk, F.off, none⟩) F.n cap, .int .i64 (a : Int), .int .i64 (b : Int), .int .i64 (k : Int), fv] w fun e w' => e = .returned (.tuple #[]) ∧ F.Row (swr f a b k) w' := by
  have few := G.few
  have HR0 := Lib.hid (R.congr fun x _ => swr_zero f a b x)
  clear R
  go_enter Try.func88, Try.ntmps88
  go_wp2
  go_loopw [10] (fun v1 wr => ∃ i : Nat, i ≤ k ∧ v1 = .int .i64 (i : Int) ∧ F.Row (swr f a b i) wr) (fun v1 _ => k - (intOf v1).toNat)
  case atStart => exact ⟨0, Nat.zero_le _, rfl, HR0.out⟩
  case round =>
    obtain ⟨i, hi, rfl, R⟩ := hrel
    rcases Nat.lt_or_ge i k with hik | hik
    · obtain ⟨a0, a1, a2, a3⟩ := R.four (j := a + i) (by omega)
      obtain ⟨b0, b1, b2, b3⟩ := R.four (j := b + i) (by omega)
      have HS := Lib.hid (R.swap (i := a + i) (j := b + i) (by omega) (by omega)).drew
      have ia0 := R.ice (F.off + (a + i) * 4); have ia1 := R.ice (F.off + (a + i) * 4 + 1); have ia2 := R.ice (F.off + (a + i) * 4 + 2); have ia3 := R.ice (F.off + (a + i) * 4 + 3)
      have ib0 := R.ice (F.off + (b + i) * 4); have ib1 := R.ice (F.off + (b + i) * 4 + 1); have ib2 := R.ice (F.off + (b + i) * 4 + 2); have ib3 := R.ice (F.off + (b + i) * 4 + 3)
      clear R
      obtain ⟨X, hX⟩ : ∃ X, swr f a b i (a + i) = X := ⟨_, rfl⟩
      obtain ⟨Y, hY⟩ : ∃ Y, swr f a b i (b + i) = Y := ⟨_, rfl⟩
      rw [hX] at a0 a1 a2 a3
      rw [hY] at b0 b1 b2 b3
      have HX := Lib.hid hX; have HY := Lib.hid hY
      clear hX hY
      obtain ⟨u, hu⟩ : ∃ u, u = a + i := ⟨_, rfl⟩
      obtain ⟨v, hv⟩ : ∃ v, v = b + i := ⟨_, rfl⟩
      have hwa : IntKind.i64.wrap ((a : Int) + (i : Int)) = ((u : Nat) : Int) := by rw [hu, IntWalk.i64_in _ (by omega)]; omega
      have hwb : IntKind.i64.wrap ((b : Int) + (i : Int)) = ((v : Nat) : Int) := by rw [hv, IntWalk.i64_in _ (by omega)]; omega
      rw [← hu] at a0 a1 a2 a3 ia0 ia1 ia2 ia3 HS HX
      rw [← hv] at b0 b1 b2 b3 ib0 ib1 ib2 ib3 HS HY
      have huv : u < v := by omega
      have hun : ((u : Nat) : Int) < (F.n : Int) := by omega
      have hvn : ((v : Nat) : Int) < (F.n : Int) := by omega
      have HU := Lib.hid hu; have HV := Lib.hid hv
      clear hu hv
      go_wp2_with fail
      go_region
      all_goals
        go_wp2
        go_roundw
        case rel =>
          refine ⟨i + 1, by omega, by go_num, ?_⟩
          have h9 := HS.out.congr (g := swr f a b (i + 1)) fun x _ => by rw [HU.out, HV.out]; exact (swr_succ f (by omega) x).symm
          rw [HX.out, HY.out] at h9
          exact h9
        case measure => simp [intOf]; omega
    · obtain rfl : i = k := by omega
      go_wp2
      go_end0
      exact ⟨rfl, R⟩

set_option maxHeartbeats 2000000 in
set_option maxRecDepth 100000 in
theorem rotate_c (F : Fam) (G : F.Good) {f : Nat → Nat} {w : World} (R : F.Row f w) (a m b cap : Nat) (fv : Value) (ham : a < m) (hmb : m < b) (hb : b ≤ F.n) :
    Calls Try.prog 83 #[.slice (some ⟨F.blk, F.off, none⟩) F.n cap, .int .i64 (a : Int), .int .i64 (m : Int), .int .i64 (b : Int), fv] w fun e w' => e = .returned (.tuple #[]) ∧ F.Row (rot f a m b) w' := by
  have few := G.few
  have HR0 := Lib.hid R
  clear R
  go_enter Try.func83, Try.ntmps83
  go_wp2
  go_loopw [10, 11] (fun v1 v2 wr => ∃ (i j : Nat) (g : Nat → Nat), 0 < i ∧ 0 < j ∧ a + i ≤ m ∧ m + j ≤ b ∧ v1 = .int .i64 (i : Int) ∧ v2 = .int .i64 (j : Int) ∧ F.Row g wr ∧ Hid (∀ x, rot g (m - i) m (m + j) x = rot f a m b x)) (fun v1 v2 _ => (intOf v1).toNat + (intOf v2).toNat)
  case atStart => exact ⟨m - a, b - m, f, by omega, by omega, by omega, by omega, by go_num, by go_num, HR0.out, fun x => by rw [show m - (m - a) = a by omega, show m + (b - m) = b by omega]⟩
  case round =>
    obtain ⟨i, j, g, hi0, hj0, hi, hj, rfl, rfl, R, HG⟩ := hrel
    have e1 : ((m : Nat) : Int) - ((i : Nat) : Int) = ((m - i : Nat) : Int) := by omega
    rcases Nat.lt_trichotomy i j with hij | hij | hij
    · have e2 : ((m : Nat) : Int) + ((j : Nat) : Int) - ((i : Nat) : Int) = ((m + j - i : Nat) : Int) := by omega
      have hne : ¬ (i : Int) = (j : Int) := by omega
      go_wp2_with fail
      refine (swaprange_c F G R (m - i) (m + j - i) i cap fv (by omega) (by omega)).mono ?_
      rintro e w2 ⟨rfl, R2⟩
      go_wp2
      go_roundw
      case rel => exact ⟨i, j - i, _, hi0, by omega, hi, by omega, rfl, by go_num, R2, fun x => (rot_less g _ (by omega) hij (fun _ => rfl) x).trans (HG.out x)⟩
      case measure => simp [intOf]; omega
    · subst hij
      go_wp2_with fail
      refine (swaprange_c F G R (m - i) m i cap fv (by omega) (by omega)).mono ?_
      rintro e w2 ⟨rfl, R2⟩
      go_wp2
      go_end0
      exact ⟨rfl, R2.congr fun x _ => by rw [rot_eq g (by omega)]; exact (HG.out x).symm⟩
    · have hne : ¬ (i : Int) = (j : Int) := by omega
      go_wp2_with fail
      refine (swaprange_c F G R (m - i) m j cap fv (by omega) (by omega)).mono ?_
      rintro e w2 ⟨rfl, R2⟩
      go_wp2
      go_roundw
      case rel => exact ⟨i - j, j, _, by omega, hj0, by omega, hj, by go_num, rfl, R2, fun x => (rot_more g _ (by omega) hij (fun _ => rfl) x).trans (HG.out x)⟩
      case measure => simp [intOf]; omega

end Go.Proofs.Ytegabimiegdcjaa
