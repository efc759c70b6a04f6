
/- The walk of the reference's marks. -/
import Derived.Test.YtmeefinnefanpaaDoorT7
import Derived.Lib.Hide
namespace Go.Proofs.YtmeefinnefanpaaDoor
open Go.RowKit Limb
set_option linter.unusedVariables false
set_option linter.unusedSimpArgs false

def RetBt (b : Bool) (w : World) (e : Ending) (w' : World) : Prop := e = .returned (.bool b) ∧ Below w.heap.size w w'
theorem RetBt.of {b b' : Bool} {w w' : World} {e : Ending} (h : RetBt b w e w') (hb : b = b') : RetBt b' w e w' := by subst hb; exact h
theorem cls (b : Int) (h : 0 ≤ b ∧ b ≤ 255) : (wrongB b = true ∧ ((48 ≤ b ∧ b ≤ 57) ∨ b = 45 ∨ b < 32 ∨ 126 < b)) ∨ (wrongB b = false ∧ (b == 45) = false ∧ ¬ b < 32 ∧ ¬ 126 < b ∧ (b < 48 ∨ 57 < b)) := by
  by_cases hc : (48 ≤ b ∧ b ≤ 57) ∨ b = 45 ∨ b < 32 ∨ 126 < b
  · exact .inl ⟨decide_eq_true hc, hc⟩
  · exact .inr ⟨decide_eq_false hc, beq_eq_false_iff_ne.2 (by omega), by omega, by omega, by omega⟩
theorem marks_w {p g : Int} (h : wrongB p = true ∨ wrongB g = true) : marksF p g ≠ 0 := by
  unfold marksF
  rw [if_pos (by rcases h with h | h <;> simp [h])]
  decide
theorem marks_g {p g : Int} (h1 : wrongB p = false) (h2 : wrongB g = false) : (marksF p g = 0) ↔ p ≠ g := by
  unfold marksF
  rw [h1, h2]
  simp
set_option maxHeartbeats 2000000 in
set_option maxRecDepth 100000 in
theorem rmarks_c (p g : Int) (w : World) (h0 : 0 ≤ p ∧ p ≤ 255) (h1 : 0 ≤ g ∧ g ≤ 255) : Calls Tryd.prog 24 #[.int .u8 p, .int .u8 g] w (RetBt (decide (marksF p g = 0)) w) := by
  go_enter Tryd.func24, Tryd.ntmps24
  go_wp2_with fail
  have hB : Below w.heap.size w (w.alloc (.cells #[.int .u8 p, .int .u8 g] 5)) := by go_grown
  obtain ⟨c0, c1, -, -, -⟩ := box2 (heap_new w (.cells #[.int .u8 p, .int .u8 g] 5) rfl)
  generalize w.alloc (.cells #[.int .u8 p, .int .u8 g] 5) = W at hB c0 c1 ⊢
  go_loopw [11] (fun i wr => ∃ k : Nat, i = .int .i64 (k : Int) ∧ k ≤ 2 ∧ wr = W ∧ (1 ≤ k → wrongB p = false) ∧ (2 ≤ k → wrongB g = false)) (fun i _ => (2 - intOf i).toNat)
  case atStart => exact ⟨0, rfl, by omega, rfl, fun h => absurd h (by decide), fun h => absurd h (by decide)⟩
  case round =>
    obtain ⟨k, rfl, hk, rfl, hk1, hk2⟩ := hrel
    have hk3 : k = 0 ∨ k = 1 ∨ k = 2 := by omega
    rcases hk3 with rfl | rfl | rfl
    · -- the byte p
      rcases cls p (by omega) with ⟨hw, hcl⟩ | ⟨hw, n1, n2, n3, hcl⟩
      · have HW := Lib.hid (show marksF p g ≠ 0 from marks_w (by first | exact .inl hw | exact .inr hw))
        clear hw
        rcases hcl with ⟨q1, q2⟩ | q | q | q
        · have z1 : ¬ p < 48 := by omega
          have z2 : ¬ 57 < p := by omega
          go_wp2
          go_ret
          exact RetBt.of ⟨rfl, hB⟩ (decide_eq_false HW.out).symm
        · have z1 : p < 48 := by omega
          have z2 : (p == 45) = true := by simp [q]
          clear q
          go_wp2
          go_ret
          exact RetBt.of ⟨rfl, hB⟩ (decide_eq_false HW.out).symm
        · have z1 : p < 48 := by omega
          have z2 : (p == 45) = false := beq_eq_false_iff_ne.2 (by omega)
          go_wp2
          go_ret
          exact RetBt.of ⟨rfl, hB⟩ (decide_eq_false HW.out).symm
        · have z1 : ¬ p < 48 := by omega
          have z3 : 57 < p := by omega
          have z4 : ¬ p < 32 := by omega
          have z2 : (p == 45) = false := beq_eq_false_iff_ne.2 (by omega)
          go_wp2
          go_ret
          exact RetBt.of ⟨rfl, hB⟩ (decide_eq_false HW.out).symm
      · have HW := Lib.hid hw
        clear hw
        rcases hcl with q | q
        · go_wp2
          go_roundw
          case rel => exact ⟨1, rfl, by omega, trivial, fun _ => HW.out, fun h => absurd h (by decide)⟩
          case measure => simp [intOf]
        · have z1 : ¬ p < 48 := by omega
          have z2 : ¬ p ≤ 57 := by omega
          go_wp2
          go_roundw
          case rel => exact ⟨1, rfl, by omega, trivial, fun _ => HW.out, fun h => absurd h (by decide)⟩
          case measure => simp [intOf]
    · -- the byte g
      rcases cls g (by omega) with ⟨hw, hcl⟩ | ⟨hw, n1, n2, n3, hcl⟩
      · have HW := Lib.hid (show marksF p g ≠ 0 from marks_w (by first | exact .inl hw | exact .inr hw))
        clear hw
        rcases hcl with ⟨q1, q2⟩ | q | q | q
        · have z1 : ¬ g < 48 := by omega
          have z2 : ¬ 57 < g := by omega
          go_wp2
          go_ret
          exact RetBt.of ⟨rfl, hB⟩ (decide_eq_false HW.out).symm
        · have z1 : g < 48 := by omega
          have z2 : (g == 45) = true := by simp [q]
          clear q
          go_wp2
          go_ret
          exact RetBt.of ⟨rfl, hB⟩ (decide_eq_false HW.out).symm
        · have z1 : g < 48 := by omega
          have z2 : (g == 45) = false := beq_eq_false_iff_ne.2 (by omega)
          go_wp2
          go_ret
          exact RetBt.of ⟨rfl, hB⟩ (decide_eq_false HW.out).symm
        · have z1 : ¬ g < 48 := by omega
          have z3 : 57 < g := by omega
          have z4 : ¬ g < 32 := by omega
          have z2 : (g == 45) = false := beq_eq_false_iff_ne.2 (by omega)
          go_wp2
          go_ret
          exact RetBt.of ⟨rfl, hB⟩ (decide_eq_false HW.out).symm
      · have HW := Lib.hid hw
        clear hw
        rcases hcl with q | q
        · go_wp2
          go_roundw
          case rel => exact ⟨2, rfl, by omega, trivial, fun _ => hk1 (by decide), fun _ => HW.out⟩
          case measure => simp [intOf]
        · have z1 : ¬ g < 48 := by omega
          have z2 : ¬ g ≤ 57 := by omega
          go_wp2
          go_roundw
          case rel => exact ⟨2, rfl, by omega, trivial, fun _ => hk1 (by decide), fun _ => HW.out⟩
          case measure => simp [intOf]
    · have HG := Lib.hid (marks_g (hk1 (by decide)) (hk2 (by decide)))
      clear hk1 hk2
      by_cases he : p = g
      · have hb : (p == g) = true := by simp [he]
        have HE := Lib.hid (show decide (marksF p g = 0) = false from decide_eq_false (fun h => HG.out.1 h he))
        have HQ := Lib.hid he
        clear he
        go_wp2
        go_ret
        exact RetBt.of ⟨rfl, hB⟩ (by rw [HE.out]; simp; exact HQ.out)
      · have hb : (p == g) = false := beq_eq_false_iff_ne.2 he
        have HE := Lib.hid (show decide (marksF p g = 0) = true from decide_eq_true (HG.out.2 he))
        have HQ := Lib.hid he
        clear he
        go_wp2
        go_ret
        exact RetBt.of ⟨rfl, hB⟩ (by rw [HE.out]; simp; exact HQ.out)
end Go.Proofs.YtmeefinnefanpaaDoor
