
/- The walks of package whole: Odd, Int, Power. -/
import Derived.Test.YtlkidhfjkgppoaaDoorW7
namespace Go.Proofs.YtlkidhfjkgppoaaDoor
open Go.RowKit Limb

theorem val_even {l : List Nat} (g : Digs B32 l) : val B32 l % 2 = dg l 0 % 2 := by
  have := val_digit (b := B32) (by decide) g 0
  rw [Nat.pow_zero, Nat.div_one] at this
  have h5 : dg l 0 = val B32 l % B32 := this.symm
  rw [h5]; unfold B32; omega

/-- A number as an int, if it is not beyond a bound. -/
def fitB (z : Int) (most : Nat) : Bool := decide (z.natAbs ≤ most)
def fitV (z : Int) (most : Nat) : Int := if z.natAbs ≤ most then z else 0

theorem val_len1 {l : List Nat} (h : l.length = 1) : val B32 l = dg l 0 := by
  match l, h with
  | [a], _ => simp [val, dg]
theorem val_len2 {l : List Nat} (h : l.length = 2) : val B32 l = dg l 0 + 4294967296 * dg l 1 := by
  match l, h with
  | [a, b], _ => simp [val, dg, B32]
theorem or_one (x : Nat) (h : x < 4294967296) : bits .or .u64 0 (x : Int) = (x : Int) := by
  have := u64_or_nat 0 x (by omega) (by omega)
  rw [Nat.zero_or] at this
  exact this
theorem or_two (x y : Nat) (h : x < 4294967296) (h2 : y < 4294967296) : bits .or .u64 (x : Int) ((y : Int) * 4294967296) = ((x + 4294967296 * y : Nat) : Int) := by
  have e : (y : Int) * 4294967296 = ((y * 4294967296 : Nat) : Int) := by rw [Int.natCast_mul]; rfl
  have h3 := u64_or_nat x (y * 4294967296) (by omega) (by omega)
  have h4 := Nat.two_pow_add_eq_or_of_lt (i := 32) (b := x) (by omega) y
  rw [Nat.or_comm] at h4
  have e2 : 2 ^ 32 * y = y * 4294967296 := by rw [Nat.mul_comm]
  rw [e2] at h4
  rw [e, h3, ← h4]
  congr 1
  omega

set_option maxHeartbeats 1000000 in
set_option maxRecDepth 100000 in
theorem int_c (w : World) {s : Bool} {A : Option Addr} {n c : Nat} {z : Int} (most : Nat) (h : Big .u32 92 B32 w s A n c z) (hm : most ≤ 4611686018427387904) :
    Calls Tryd.prog 46 #[.agg #[.bool s, .slice A n c], .int .i64 (most : Int)] w fun e w' => e = .returned (.tuple #[.int .i64 (fitV z most), .bool (fitB z most)]) ∧ Below w.heap.size w w' := by
  obtain ⟨l, hd, hnc, hcm, gl, nl, sl, rfl⟩ := h
  rcases Nat.lt_or_ge 2 n with h2 | h2
  · have hv : most < val B32 l := by
      have h1 := val_ge (b := B32) nl (by intro e; have := hd.1; rw [e] at this; simp at this; omega)
      have h3 : B32 ^ 2 ≤ B32 ^ (l.length - 1) := Nat.pow_le_pow_right (by decide) (by rw [hd.1]; omega)
      have h4 : B32 ^ 2 = 18446744073709551616 := by decide
      omega
    have e1 : fitV (sg s (val B32 l)) most = 0 := by unfold fitV; rw [sg_natAbs, if_neg (by omega)]
    have e2 : fitB (sg s (val B32 l)) most = false := by unfold fitB; rw [sg_natAbs]; simp; omega
    rw [e1, e2]
    clear e1 e2 hv
    go_enter Tryd.func46, Tryd.ntmps46
    go_wp2
    go_ret2
    exact ⟨rfl, by go_grown⟩
  · have hv : val B32 l < 18446744073709551616 := by
      have h1 := val_lt gl
      have h3 : B32 ^ l.length ≤ B32 ^ 2 := Nat.pow_le_pow_right (by decide) (by rw [hd.1]; omega)
      have h4 : B32 ^ 2 = 18446744073709551616 := by decide
      omega
    have b0 : dg l 0 < 4294967296 := dg_lt gl (by decide) _
    have b1 : dg l 1 < 4294967296 := dg_lt gl (by decide) _
    have hl := hd.1
    have h3 : n = 0 ∨ n = 1 ∨ n = 2 := by omega
    rcases h3 with rfl | rfl | rfl
    · have hl0 : l = [] := List.length_eq_zero_iff.1 hl
      subst hl0
      have hs : s = false := by cases s with | false => rfl | true => exact absurd rfl (sl rfl)
      subst hs
      have e1 : fitV (sg false (val B32 [])) most = 0 := by simp [fitV, sg, val]
      have e2 : fitB (sg false (val B32 [])) most = true := by simp [fitB, sg, val]
      rw [e1, e2]
      have hm0 : (0 : Int) ≤ (most : Int) := by omega
      clear e1 e2 hv sl
      go_enter Tryd.func46, Tryd.ntmps46
      go_wp2
      go_rounds 1
      go_ret2
      exact ⟨rfl, by go_grown⟩
    · obtain ⟨g, rfl, hg, hc1⟩ := hd.at_ (by omega)
      have hx := (World.cell?_alloc_lt (w := w) (o := .cells #[.bool s, .slice (some ⟨g, 0, none⟩) 1 c] 76) (a := ⟨g, 0, none⟩) hg).trans (hc1 0 (by omega))
      clear hc1
      have u1 : bits .or .u64 0 ((dg l 0 : Nat) : Int) = ((val B32 l : Nat) : Int) := by rw [val_len1 hl]; exact or_one _ b0
      clear hl
      rcases Nat.lt_or_ge most (val B32 l) with hcmp | hcmp
      · have e1 : fitV (sg s (val B32 l)) most = 0 := by unfold fitV; rw [sg_natAbs, if_neg (by omega)]
        have e2 : fitB (sg s (val B32 l)) most = false := by unfold fitB; rw [sg_natAbs]; simp; omega
        rw [e1, e2]
        clear e1 e2
        have hc' : (most : Int) < ((val B32 l : Nat) : Int) := by omega
        go_enter Tryd.func46, Tryd.ntmps46
        go_wp2
        go_rounds 2
        go_ret2
        exact ⟨rfl, by go_grown⟩
      · have e1 : fitV (sg s (val B32 l)) most = sg s (val B32 l) := by unfold fitV; rw [sg_natAbs, if_pos (by omega)]
        have e2 : fitB (sg s (val B32 l)) most = true := by unfold fitB; rw [sg_natAbs]; simp; omega
        rw [e1, e2]
        clear e1 e2
        have hc' : ¬ (most : Int) < ((val B32 l : Nat) : Int) := by omega
        cases s with
        | true =>
          go_enter Tryd.func46, Tryd.ntmps46
          go_wp2
          go_rounds 2
          go_ret2
          exact ⟨rfl, by go_grown⟩
        | false =>
          go_enter Tryd.func46, Tryd.ntmps46
          go_wp2
          go_rounds 2
          go_ret2
          exact ⟨rfl, by go_grown⟩
    · obtain ⟨g, rfl, hg, hc1⟩ := hd.at_ (by omega)
      have hx := (World.cell?_alloc_lt (w := w) (o := .cells #[.bool s, .slice (some ⟨g, 0, none⟩) 2 c] 76) (a := ⟨g, 0, none⟩) hg).trans (hc1 0 (by omega))
      have hx1 := (World.cell?_alloc_lt (w := w) (o := .cells #[.bool s, .slice (some ⟨g, 0, none⟩) 2 c] 76) (a := ⟨g, 1, none⟩) hg).trans (hc1 1 (by omega))
      clear hc1
      have u1 : bits .or .u64 0 ((dg l 0 : Nat) : Int) = ((dg l 0 : Nat) : Int) := or_one _ b0
      have u2 : bits .or .u64 ((dg l 0 : Nat) : Int) (((dg l 1 : Nat) : Int) * 4294967296) = ((val B32 l : Nat) : Int) := by rw [val_len2 hl]; exact or_two _ _ b0 b1
      clear hl
      rcases Nat.lt_or_ge most (val B32 l) with hcmp | hcmp
      · have e1 : fitV (sg s (val B32 l)) most = 0 := by unfold fitV; rw [sg_natAbs, if_neg (by omega)]
        have e2 : fitB (sg s (val B32 l)) most = false := by unfold fitB; rw [sg_natAbs]; simp; omega
        rw [e1, e2]
        clear e1 e2
        have hc' : (most : Int) < ((val B32 l : Nat) : Int) := by omega
        go_enter Tryd.func46, Tryd.ntmps46
        go_wp2
        go_rounds 3
        go_ret2
        exact ⟨rfl, by go_grown⟩
      · have e1 : fitV (sg s (val B32 l)) most = sg s (val B32 l) := by unfold fitV; rw [sg_natAbs, if_pos (by omega)]
        have e2 : fitB (sg s (val B32 l)) most = true := by unfold fitB; rw [sg_natAbs]; simp; omega
        rw [e1, e2]
        clear e1 e2
        have hc' : ¬ (most : Int) < ((val B32 l : Nat) : Int) := by omega
        cases s with
        | true =>
          go_enter Tryd.func46, Tryd.ntmps46
          go_wp2
          go_rounds 3
          go_ret2
          exact ⟨rfl, by go_grown⟩
        | false =>
          go_enter Tryd.func46, Tryd.ntmps46
          go_wp2
          go_rounds 3
          go_ret2
          exact ⟨rfl, by go_grown⟩

end Go.Proofs.YtlkidhfjkgppoaaDoor
