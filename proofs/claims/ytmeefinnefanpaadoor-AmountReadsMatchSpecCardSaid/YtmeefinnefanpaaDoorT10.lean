
/- The walk of the reference's Grouped. -/
import Derived.Test.YtmeefinnefanpaaDoorT8
import Derived.Test.YtmeefinnefanpaaDoorT9
import Derived.Test.YtmeefinnefanpaaDoorA5
namespace Go.Proofs.YtmeefinnefanpaaDoor
open Go.RowKit Limb
set_option linter.unusedVariables false
set_option linter.unusedSimpArgs false

/-! ### Plain -/
theorem cutL_hit {c : UInt8} : ∀ {l r : List UInt8}, c ∉ l → cutL (l ++ c :: r) c = (l, r, true)
  | [], r, _ => by simp [cutL]
  | a :: l, r, h => by
    have h1 : a ≠ c := fun e => h (e ▸ List.mem_cons_self)
    have h2 : c ∉ l := fun e => h (List.mem_cons_of_mem _ e)
    rw [List.cons_append, cutL, cutL_hit h2]
    simp [h1]
theorem cutL_miss {c : UInt8} : ∀ {l : List UInt8}, c ∉ l → cutL l c = (l, [], false)
  | [], _ => by simp [cutL]
  | a :: l, h => by
    have h1 : a ≠ c := fun e => h (e ▸ List.mem_cons_self)
    have h2 : c ∉ l := fun e => h (List.mem_cons_of_mem _ e)
    rw [cutL, cutL_miss h2]
    simp [h1]
theorem padL_48 {u : Int} {q : Nat} : ∀ c ∈ padL (digL u) q, 48 ≤ c.toNat ∧ c.toNat ≤ 57 := by
  intro c hc
  unfold padL at hc
  rcases List.mem_append.1 hc with h | h
  · have := List.eq_of_mem_replicate h
    subst this
    decide
  · exact dec_48 _ c h
theorem bef_48 {u : Int} {q : Nat} : ∀ c ∈ befL u q, 48 ≤ c.toNat ∧ c.toNat ≤ 57 := fun c hc => padL_48 c (List.mem_of_mem_take hc)
theorem beh_48 {u : Int} {q : Nat} : ∀ c ∈ behL u q, 48 ≤ c.toNat ∧ c.toNat ≤ 57 := fun c hc => padL_48 c (List.mem_of_mem_drop hc)
theorem bef_pos {u : Int} {q : Nat} : 0 < (befL u q).length := by
  have h1 := padL_len (digL u) q
  unfold befL
  rw [List.length_take]
  omega
theorem bef_no46 {u : Int} {q : Nat} : (46 : UInt8) ∉ befL u q := fun h => by have := bef_48 _ h; revert this; decide
/-- The text without its sign, cut at the point. -/
theorem text_cut {u : Int} {q : Nat} : cutL (befL u q ++ (if q = 0 then [] else 46 :: behL u q)) 46 = (befL u q, (if q = 0 then [] else behL u q), decide (q ≠ 0)) := by
  by_cases h : q = 0
  · rw [if_pos h, if_pos h, List.append_nil, cutL_miss bef_no46]; simp [h]
  · rw [if_neg h, if_neg h, cutL_hit bef_no46]; simp [h]
theorem run_r8 {g : UInt8} (w : World) : (convert 5 21 (.int .u8 ((g.toNat : Nat) : Int))).run Tryd.prog w = .ok (.int .i32 ((g.toNat : Nat) : Int)) w := by
  have := g.toNat_lt
  go_simp
  exact IntWalk.i32_in _ (by omega)
theorem run_e8 {g : UInt8} (h : g.toNat < 128) (w : World) : (convert 21 9 (.int .i32 ((g.toNat : Nat) : Int))).run Tryd.prog w = .ok (.string (⟨#[g]⟩ : ByteArray)) w := by
  rw [run_convert_int_string _ _ _ _ _ (by kernel_rfl) (by kernel_rfl), enc_ascii h]
theorem text_head {u : Int} {q : Nat} : ((textL u q).head? == some 45) = decide (u < 0) ∧ (if decide (u < 0) = true then (textL u q).tail else textL u q) = befL u q ++ (if q = 0 then [] else 46 :: behL u q) := by
  unfold textL sgL
  by_cases h : u < 0
  · simp [h]
  · have hp := bef_pos (u := u) (q := q)
    rcases hb : befL u q with _ | ⟨c, l⟩
    · rw [hb] at hp; simp at hp
    · have h2 := bef_48 (u := u) (q := q) c (by rw [hb]; simp)
      have hc : c ≠ 45 := by rintro rfl; revert h2; decide
      simp [h, hc]
theorem text_len {u : Int} {q : Nat} (hq : q ≤ 9) (hu : u.natAbs < 10 ^ 30) : (textL u q).length ≤ 100 := by
  have h := bef_len (u := u) hq hu
  unfold textL
  simp only [List.length_append]
  have h1 : (sgL u).length ≤ 1 := by unfold sgL; split <;> simp
  split
  · simp; omega
  · simp; omega

end Go.Proofs.YtmeefinnefanpaaDoor
