
/- The walks of package whole: Sign, Minus, Abs, Less, Compare, Odd, Int. -/
import Derived.Test.YtegobkaldedhhaaDoorW4
namespace Go.Proofs.YtegobkaldedhhaaDoor
open Go.RowKit Limb

theorem Big.sign {K : IntKind} {E : TypeId} {b : Nat} {w : World} {s : Bool} {A : Option Addr} {n c : Nat} {z : Int} (hb : 0 < b) (h : Big K E b w s A n c z) : (s = true ∧ z.sign = -1) ∨ (s = false ∧ n = 0 ∧ z.sign = 0) ∨ (s = false ∧ 0 < n ∧ z.sign = 1) := by
  obtain ⟨l, hd, _, _, _, nl, sl, rfl⟩ := h
  have hl := hd.1
  cases s with
  | true =>
    have := val_pos hb nl (sl rfl)
    exact .inl ⟨rfl, by simp only [sg, if_true]; exact Int.sign_eq_neg_one_of_neg (by omega)⟩
  | false =>
    rcases Nat.eq_zero_or_pos n with h0 | h0
    · subst h0
      rw [List.length_eq_zero_iff] at hl
      subst hl
      exact .inr (.inl ⟨rfl, rfl, by simp [sg, val]⟩)
    · have := val_pos hb nl (by intro e; subst e; simp at hl; omega)
      exact .inr (.inr ⟨rfl, h0, by simp only [sg]; exact Int.sign_eq_one_of_pos (by simpa using this)⟩)

theorem sign_c (w : World) {s : Bool} {A : Option Addr} {n c : Nat} {z : Int} (h : Big .u32 118 B32 w s A n c z) :
    Calls Tryd.prog 78 #[.agg #[.bool s, .slice A n c]] w fun e w' => e = .returned (.int .i64 z.sign) ∧ Below w.heap.size w w' := by
  rcases h.sign (by decide) with ⟨rfl, e⟩ | ⟨rfl, rfl, e⟩ | ⟨rfl, h0, e⟩
  · rw [e]
    go_enter Tryd.func78, Tryd.ntmps78
    go_wp2
    go_ret
    exact ⟨rfl, by go_grown⟩
  · rw [e]
    go_enter Tryd.func78, Tryd.ntmps78
    go_wp2
    go_ret
    exact ⟨rfl, by go_grown⟩
  · rw [e]
    go_enter Tryd.func78, Tryd.ntmps78
    go_wp2
    go_ret
    exact ⟨rfl, by go_grown⟩

theorem sg_not {s : Bool} {x : Nat} : sg (!s) x = - sg s x := by cases s <;> simp [sg]

set_option maxHeartbeats 1000000 in
theorem minus_c (w : World) {s : Bool} {A : Option Addr} {n c : Nat} {z : Int} (h : Big .u32 118 B32 w s A n c z) :
    Calls Tryd.prog 119 #[.agg #[.bool s, .slice A n c]] w (Makes .u32 118 B32 w (-z)) := by
  obtain ⟨l, hd, hnc, hcm, gl, nl, sl, rfl⟩ := h
  go_enter Tryd.func119, Tryd.ntmps119
  go_wp2_with fail
  refine (made_c l (!s) A n c _ ((hd.alloc _).alloc _) hnc hcm gl).mono ?_
  rintro e w1 ⟨s1, A1, n1, c1, rfl, hv, hb⟩
  have hB := heap_below (heap_new (w.alloc _) _ rfl) hb
  simp only [World.size_alloc] at hB
  obtain ⟨g0, g1, g2, g3, g4⟩ := box2 hB
  go_wp2
  refine bodyPost_ret (v := .agg #[.bool s1, .slice A1 n1 c1]) (by simp [results, Tryd.results119, go_sem, g0, g1]) rfl ⟨s1, A1, n1, c1, rfl, ?_, ?_⟩
  · rw [← sg_not]
    exact hv.box2 hB (by decide) _ _
  · go_grown
    exact below_then hb (by go_grown) (by simp only [World.size_alloc]; omega)

theorem natAbs_sg (s : Bool) (x : Nat) : ((sg s x).natAbs : Int) = sg false x := by rw [sg_natAbs]; rfl

set_option maxHeartbeats 1000000 in
theorem abs_c (w : World) {s : Bool} {A : Option Addr} {n c : Nat} {z : Int} (h : Big .u32 118 B32 w s A n c z) :
    Calls Tryd.prog 64 #[.agg #[.bool s, .slice A n c]] w (Makes .u32 118 B32 w (z.natAbs : Int)) := by
  obtain ⟨l, hd, hnc, hcm, gl, nl, sl, rfl⟩ := h
  go_enter Tryd.func64, Tryd.ntmps64
  go_wp2_with fail
  refine (made_c l false A n c _ ((hd.alloc _).alloc _) hnc hcm gl).mono ?_
  rintro e w1 ⟨s1, A1, n1, c1, rfl, hv, hb⟩
  have hB := heap_below (heap_new (w.alloc _) _ rfl) hb
  simp only [World.size_alloc] at hB
  obtain ⟨g0, g1, g2, g3, g4⟩ := box2 hB
  go_wp2
  refine bodyPost_ret (v := .agg #[.bool s1, .slice A1 n1 c1]) (by simp [results, Tryd.results64, go_sem, g0, g1]) rfl ⟨s1, A1, n1, c1, rfl, ?_, ?_⟩
  · rw [natAbs_sg]
    exact hv.box2 hB (by decide) _ _
  · go_grown
    exact below_then hb (by go_grown) (by simp only [World.size_alloc]; omega)

theorem Small.neg {z : Int} (h : Small z) : Small (-z) := by unfold Small at *; omega

set_option maxHeartbeats 2000000 in
set_option maxRecDepth 100000 in
theorem lessI_c (w : World) {s t : Bool} {A B : Option Addr} {n c k d : Nat} {x y : Int} (ha : Big .u32 118 B32 w s A n c x) (hb : Big .u32 118 B32 w t B k d y) (sx : Small x) (sy : Small y) :
    Calls Tryd.prog 133 #[.agg #[.bool s, .slice A n c], .agg #[.bool t, .slice B k d]] w (Makes .u32 118 B32 w (x - y)) := by
  go_enter Tryd.func133, Tryd.ntmps133
  go_wp2_with fail
  have HW := boxes3 w (.bool s) (.slice A n c) (.bool t) (.slice B k d) (.bool false) (.slice none 0 0) 65 65 65
  generalize ((w.alloc (.cells #[.bool s, .slice A n c] 65)).alloc (.cells #[.bool t, .slice B k d] 65)).alloc (.cells #[.bool false, .slice none 0 0] 65) = w3 at HW ⊢
  obtain ⟨hB1, hB2, hB3, hbel⟩ := HW _ rfl
  clear HW
  have hz3 := hbel.size
  have ha3 := ha.below hbel
  have hb3 := hb.below hbel
  obtain ⟨c10, c11, -, -, -⟩ := box2 hB1
  obtain ⟨c20, c21, -, -, -⟩ := box2 hB2
  go_region_held3 (fun w' => w'.cell? ⟨w.heap.size, 0, none⟩ = some (.bool s) ∧ w'.cell? ⟨w.heap.size, 1, none⟩ = some (.slice A n c) ∧ w'.cell? ⟨w.heap.size + 1, 0, none⟩ = some (.bool t) ∧ w'.cell? ⟨w.heap.size + 1, 1, none⟩ = some (.slice B k d))
    (first | (go_keep; done) | (refine ⟨cell_past2 r10 ?_, cell_past2 r11 ?_, cell_past2 r20 ?_, cell_past2 r21 ?_⟩ <;> omega))
    (first
      | (go_at_call 119; refine (minus_c _ hb3.drew).mono ?_; rintro e w4 ⟨s4, A4, n4, c4, rfl, hv4, hb4⟩; (have q1 := box2 (heap_below (w := w3.drew) hB1 hb4)); (have q2 := box2 (heap_below (w := w3.drew) hB2 hb4)); obtain ⟨r10, r11, -, -, -⟩ := q1; obtain ⟨r20, r21, -, -, -⟩ := q2)
      | (go_at_call 118; refine (plus_c _ (ha3.drew.below hb4) hv4 sx sy.neg).mono ?_; rintro e w5 ⟨s5, A5, n5, c5, rfl, hv5, hb5⟩; (have hB5 := heap_below (heap_below (w := w3.drew) hB3 hb4) hb5); obtain ⟨g0, g1, g2, g3, g4⟩ := box2 hB5; (have q1 := box2 (heap_below (heap_below (w := w3.drew) hB1 hb4) hb5)); (have q2 := box2 (heap_below (heap_below (w := w3.drew) hB2 hb4) hb5)); obtain ⟨r10, r11, -, -, -⟩ := q1; obtain ⟨r20, r21, -, -, -⟩ := q2))
  go_wp2
  refine bodyPost_ret (v := .agg #[.bool s5, .slice A5 n5 c5]) (by simp [results, Tryd.results133, go_sem, g0, g1]) rfl ⟨s5, A5, n5, c5, rfl, hv5.box2 hB5 (by decide) _ _, ?_⟩
  go_grown
  exact below_then hb5 (below_then hb4 (w := w) (B := w.heap.size) hbel.drew (by simp; omega)) (by have := hb4.size; simp at this; omega)

set_option maxHeartbeats 2000000 in
set_option maxRecDepth 100000 in
theorem compareI_c (w : World) {s t : Bool} {A B : Option Addr} {n c k d : Nat} {x y : Int} (ha : Big .u32 118 B32 w s A n c x) (hb : Big .u32 118 B32 w t B k d y) (sx : Small x) (sy : Small y) :
    Calls Tryd.prog 81 #[.agg #[.bool s, .slice A n c], .agg #[.bool t, .slice B k d]] w fun e w' => e = .returned (.int .i64 (x - y).sign) ∧ Below w.heap.size w w' := by
  go_enter Tryd.func81, Tryd.ntmps81
  go_wp2_with fail
  refine (lessI_c _ ((ha.alloc _).alloc _) ((hb.alloc _).alloc _) sx sy).mono ?_
  rintro e w4 ⟨s4, A4, n4, c4, rfl, hv4, hb4⟩
  go_wp2_with fail
  refine (sign_c _ hv4).mono ?_
  rintro e w5 ⟨rfl, hb5⟩
  go_wp2
  go_ret
  refine ⟨rfl, ?_⟩
  have h4 : Below w.heap.size w w4 := below_then hb4 (by go_grown) (by simp only [World.size_alloc]; omega)
  exact below_then hb5 h4 h4.size

end Go.Proofs.YtegobkaldedhhaaDoor
