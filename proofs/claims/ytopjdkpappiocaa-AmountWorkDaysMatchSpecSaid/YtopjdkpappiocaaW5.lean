
/- The walks of package whole: Sign, Minus, Abs, Less, Compare, Odd, Int. -/
import Derived.Test.YtopjdkpappiocaaW4
namespace Go.Proofs.Ytopjdkpappiocaa
open Go.RowKit Limb

theorem Big.sign {K : IntKind} {E : TypeId} {b : Nat} {w : World} {s : Bool} {A : Option Addr} {n c : Nat} {z : Int} (hb : 0 < b) (h : Big K E b w s A n c z) : (s = true ∧ z.sign = -1) ∨ (s = false ∧ n = 0 ∧ z.sign = 0) ∨ (s = false ∧ 0 < n ∧ z.sign = 1) := by
  obtain ⟨l, hd, _, _, _, nl, sl, rfl⟩ := h
  have hl := hd.1
  cases s with
  | true =>
    have := val_pos hb nl (sl rfl)
    exact .inl ⟨rfl, by simp only [sg, if_true]; exact Int.sign_eq_neg_one_of_neg (by omega)⟩
  | false =>
    rcases Nat.eq_zero_or_pos n with h0 | h0
    · subst h0
      rw [List.length_eq_zero_iff] at hl
      subst hl
      exact .inr (.inl ⟨rfl, rfl, by simp [sg, val]⟩)
    · have := val_pos hb nl (by intro e; subst e; simp at hl; omega)
      exact .inr (.inr ⟨rfl, h0, by simp only [sg]; exact Int.sign_eq_one_of_pos (by simpa using this)⟩)

theorem sign_c (w : World) {s : Bool} {A : Option Addr} {n c : Nat} {z : Int} (h : Big .u32 63 B32 w s A n c z) :
    Calls Try.prog 37 #[.agg #[.bool s, .slice A n c]] w fun e w' => e = .returned (.int .i64 z.sign) ∧ Below w.heap.size w w' := by
  rcases h.sign (by decide) with ⟨rfl, e⟩ | ⟨rfl, rfl, e⟩ | ⟨rfl, h0, e⟩
  · rw [e]
    go_enter Try.func37, Try.ntmps37
    go_wp2
    go_ret
    exact ⟨rfl, by go_grown⟩
  · rw [e]
    go_enter Try.func37, Try.ntmps37
    go_wp2
    go_ret
    exact ⟨rfl, by go_grown⟩
  · rw [e]
    go_enter Try.func37, Try.ntmps37
    go_wp2
    go_ret
    exact ⟨rfl, by go_grown⟩

theorem sg_not {s : Bool} {x : Nat} : sg (!s) x = - sg s x := by cases s <;> simp [sg]

set_option maxHeartbeats 1000000 in
theorem minus_c (w : World) {s : Bool} {A : Option Addr} {n c : Nat} {z : Int} (h : Big .u32 63 B32 w s A n c z) :
    Calls Try.prog 38 #[.agg #[.bool s, .slice A n c]] w (Makes .u32 63 B32 w (-z)) := by
  obtain ⟨l, hd, hnc, hcm, gl, nl, sl, rfl⟩ := h
  go_enter Try.func38, Try.ntmps38
  go_wp2_with fail
  refine (made_c l (!s) A n c _ ((hd.alloc _).alloc _) hnc hcm gl).mono ?_
  rintro e w1 ⟨s1, A1, n1, c1, rfl, hv, hb⟩
  have hB := heap_below (heap_new (w.alloc _) _ rfl) hb
  simp only [World.size_alloc] at hB
  obtain ⟨g0, g1, g2, g3, g4⟩ := box2 hB
  go_wp2
  refine bodyPost_ret (v := .agg #[.bool s1, .slice A1 n1 c1]) (by simp [results, Try.results38, go_sem, g0, g1]) rfl ⟨s1, A1, n1, c1, rfl, ?_, ?_⟩
  · rw [← sg_not]
    exact hv.box2 hB (by decide) _ _
  · go_grown
    exact below_then hb (by go_grown) (by simp only [World.size_alloc]; omega)

theorem natAbs_sg (s : Bool) (x : Nat) : ((sg s x).natAbs : Int) = sg false x := by rw [sg_natAbs]; rfl

theorem Small.neg {z : Int} (h : Small z) : Small (-z) := by unfold Small at *; omega

end Go.Proofs.Ytopjdkpappiocaa
