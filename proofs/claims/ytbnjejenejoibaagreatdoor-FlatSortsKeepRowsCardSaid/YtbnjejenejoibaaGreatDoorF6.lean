/- The walks of package whole: Plus and what stands on it. The walks of package whole: Sign, Minus, Abs, Less, Compare, Odd, Int. -/
import Derived.Test.YtbnjejenejoibaaGreatDoorU2
import Derived.Deep.RegionHeld3
import Derived.Test.YtbnjejenejoibaaGreatDoorRH
import Derived.Test.YtbnjejenejoibaaGreatDoorM0
-- merged: W4 W5 F6
namespace Go.Proofs.YtbnjejenejoibaaGreatDoor
open Go.RowKit Limb
theorem plus_same {s : Bool} {x y : Nat} : sg s (x + y) = sg s x + sg s y := by unfold sg; split <;> omega
theorem Row.slice {E : TypeId} {B : Nat} {w : World} {v : Value} {os : List Nat} (h : Row E B w v os) : ∃ A c, v = .slice A os.length c := own_slice h
theorem sg_less {s t : Bool} {x y : Nat} (h : s ≠ t) (hle : y <= x) : sg s (x - y) = sg s x + sg t y := by cases s <;> cases t <;> simp_all [sg] <;> omega
theorem sg_less' {s t : Bool} {x y : Nat} (h : s ≠ t) (hle : x <= y) : sg t (y - x) = sg s x + sg t y := by cases s <;> cases t <;> simp_all [sg] <;> omega
theorem len_of_val {b : Nat} (hb : 1 < b) {l m : List Nat} (gl : Digs b l) (nm : Norm m) (h : val b m <= val b l) : m.length <= l.length := by
 rcases Nat.lt_or_ge l.length m.length with k | k
 ·have := val_lt_of_len hb gl nm k; omega
 ·exact k
set_option maxHeartbeats 4000000 in
set_option maxRecDepth 100000 in
theorem plus_c (w : World) {s t : Bool} {A B : Option Addr} {n c k d : Nat} {x y : Int} (ha : Big .u32 196 B32 w s A n c x) (hb : Big .u32 196 B32 w t B k d y) (sx : Small x) (sy : Small y) :
  Calls Tryz.prog 134 #[.agg #[.bool s, .slice A n c], .agg #[.bool t, .slice B k d]] w (Makes .u32 196 B32 w (x + y)) := by
 obtain ⟨l, hd, hnc, hcm, gl, nl, sl, hx⟩ := ha
 obtain ⟨m, he, hkd, hdm, gm, nm, sm, hy⟩ := hb
 have hn : n <= 1000 := by rw [<- hd.1]; rw [hx] at sx; have := small_len32 nl sx; omega
 have hk : k <= 1000 := by rw [<- he.1]; rw [hy] at sy; have := small_len32 nm sy; omega
 have HX := Lib.hid hx; have HY := Lib.hid hy; clear hx hy
 have HL := Lib.hid hd.1; have HM := Lib.hid he.1
 clear sx sy
 by_cases hst : s = t
 ·subst hst
  have hs : (s == s) = true := by simp
  go_enter Tryz.func134, Tryz.ntmps134
  go_wp2_with fail
  generalize hw : ((w.alloc (.cells #[.bool s, .slice A n c] 111)).alloc (.cells #[.bool s, .slice B k d] 111)).alloc (.cells #[.bool false, .slice none 0 0] 111) = w3
  have hB1 : w3.heap[w.heap.size]? = some (.cells #[.bool s, .slice A n c] 111 (0, 0)) := by rw [<- hw]; exact heap_old (heap_old (heap_new _ _ rfl) _) _
  have hB2 : w3.heap[w.heap.size + 1]? = some (.cells #[.bool s, .slice B k d] 111 (0, 0)) := by rw [<- hw]; exact heap_old (heap_new _ _ (by simp)) _
  have hB3 : w3.heap[w.heap.size + 1 + 1]? = some (.cells #[.bool false, .slice none 0 0] 111 (0, 0)) := by rw [<- hw]; exact heap_new _ _ (by simp)
  have hbel : Below w.heap.size w w3 := by rw [<- hw]; go_grown
  have hd3 : Dig w3 .u32 196 A n l := by rw [<- hw]; exact ((hd.alloc _).alloc _).alloc _
  have he3 : Dig w3 .u32 196 B k m := by rw [<- hw]; exact ((he.alloc _).alloc _).alloc _
  clear hw hd he
  obtain ⟨c10, c11, f10, f11, z1⟩ := box2 hB1
  obtain ⟨c20, c21, f20, f21, z2⟩ := box2 hB2
  obtain ⟨c30, c31, f30, f31, z3⟩ := box2 hB3
  go_region_held3 (fun w' => w'.cell? ⟨w.heap.size, 0, none⟩ = some (.bool s) /\ w'.cell? ⟨w.heap.size, 1, none⟩ = some (.slice A n c) /\ w'.cell? ⟨w.heap.size + 1, 1, none⟩ = some (.slice B k d)) (first | (go_keep; done) | (refine ⟨cell_past2 r10 ?_, cell_past2 r11 ?_, cell_past2 r21 ?_⟩ <;> omega))
   (first
    | (go_at_call 190; refine (sum_c l m A B n c k d _ hd3.drew he3.drew gl gm hn hk).mono ?_; rintro e w4 ⟨v, os, rfl, hrow, _, _, gos, hval, hb4⟩; (have HV := Lib.hid hval); clear hval; obtain ⟨A1, d1, rfl⟩ := hrow.slice; (have q1 := box2 (heap_below (w := w3.drew) hB1 hb4)); (have q2 := box2 (heap_below (w := w3.drew) hB2 hb4)); obtain ⟨r10, r11, -, -, -⟩ := q1; obtain ⟨r20, r21, -, -, -⟩ := q2)
    | (go_at_call 189; refine (made_c os s A1 os.length d1 _ (Dig.of_own hrow) (own_cap hrow).1 (own_cap hrow).2 gos).mono ?_; rintro e w5 ⟨s5, A5, n5, c5, rfl, hv5, hb5⟩; (have hB5 := heap_below (heap_below (w := w3.drew) hB3 hb4) hb5); obtain ⟨g0, g1, g2, g3, g4⟩ := box2 hB5; (have q1 := box2 (heap_below (heap_below (w := w3.drew) hB1 hb4) hb5)); (have q2 := box2 (heap_below (heap_below (w := w3.drew) hB2 hb4) hb5)); obtain ⟨r10, r11, -, -, -⟩ := q1; obtain ⟨r20, r21, -, -, -⟩ := q2))
  go_wp2
  refine bodyPost_ret (v := .agg #[.bool s5, .slice A5 n5 c5]) (by simp [results, Tryz.results134, go_sem, g0, g1]) rfl ⟨s5, A5, n5, c5, rfl, ?_, ?_⟩
  ·have e : sg s (val B32 os) = x + y := by have hx := HX.out; have hy := HY.out; have hv := HV.out; rw [hv, hx, hy, plus_same]
   rw [e] at hv5
   exact hv5.box2 hB5 (by decide) _ _
  ·go_grown
   exact below_then hb5 (below_then hb4 (w := w) (B := w.heap.size) (hbel.drew) (by simp; omega)) (by have := hb4.size; simp at this; omega)
 ·have hs : (s == t) = false := by simp [hst]
  go_enter Tryz.func134, Tryz.ntmps134
  go_wp2_with fail
  generalize hw : ((w.alloc (.cells #[.bool s, .slice A n c] 111)).alloc (.cells #[.bool t, .slice B k d] 111)).alloc (.cells #[.bool false, .slice none 0 0] 111) = w3
  have hB1 : w3.heap[w.heap.size]? = some (.cells #[.bool s, .slice A n c] 111 (0, 0)) := by rw [<- hw]; exact heap_old (heap_old (heap_new _ _ rfl) _) _
  have hB2 : w3.heap[w.heap.size + 1]? = some (.cells #[.bool t, .slice B k d] 111 (0, 0)) := by rw [<- hw]; exact heap_old (heap_new _ _ (by simp)) _
  have hB3 : w3.heap[w.heap.size + 1 + 1]? = some (.cells #[.bool false, .slice none 0 0] 111 (0, 0)) := by rw [<- hw]; exact heap_new _ _ (by simp)
  have hbel : Below w.heap.size w w3 := by rw [<- hw]; go_grown
  have hd3 : Dig w3 .u32 196 A n l := by rw [<- hw]; exact ((hd.alloc _).alloc _).alloc _
  have he3 : Dig w3 .u32 196 B k m := by rw [<- hw]; exact ((he.alloc _).alloc _).alloc _
  clear hw hd he
  obtain ⟨c10, c11, f10, f11, z1⟩ := box2 hB1
  obtain ⟨c20, c21, f20, f21, z2⟩ := box2 hB2
  obtain ⟨c30, c31, f30, f31, z3⟩ := box2 hB3
  refine (compare_c l m A B n c k d _ hd3 hnc hcm he3 hkd hdm gl gm nl nm).mono ?_
  rintro e w4 ⟨r, rfl, hr, q, rfl⟩
  rcases Nat.lt_or_ge (val B32 l) (val B32 m) with hlt | hge
  ·have hr0 : r < 0 := hr.1.2 hlt
   have hkn : n <= k := by have := len_of_val (b := B32) (by decide) gm nl (by omega : val B32 l <= val B32 m); rw [HL.out, HM.out] at this; exact this
   clear hr
   have HLT := Lib.hid hlt; clear hlt
   go_wp2_with fail
   go_region_held3 (fun w' => w'.cell? ⟨w.heap.size + 1, 0, none⟩ = some (.bool t) /\ w'.cell? ⟨w.heap.size, 1, none⟩ = some (.slice A n c) /\ w'.cell? ⟨w.heap.size + 1, 1, none⟩ = some (.slice B k d)) (first | (go_keep; done) | (refine ⟨cell_past2 r20 ?_, cell_past2 r11 ?_, cell_past2 r21 ?_⟩ <;> omega))
    (first
     | (go_at_call 192; refine (less_c m l B A k d n c _ (by exact he3) (by exact hd3) gm gl (by omega) hkn (Nat.le_of_lt HLT.out)).mono ?_; rintro e w4 ⟨v, os, rfl, hrow, gos, _, hval, hb4⟩; (have HV := Lib.hid hval); clear hval; obtain ⟨A1, d1, rfl⟩ := hrow.slice; (have q1 := box2 (heap_below (w := (w3.drewN q).drew) hB1 hb4)); (have q2 := box2 (heap_below (w := (w3.drewN q).drew) hB2 hb4)); obtain ⟨r10, r11, -, -, -⟩ := q1; obtain ⟨r20, r21, -, -, -⟩ := q2)
     | (go_at_call 189; refine (made_c os t A1 os.length d1 _ (Dig.of_own hrow) (own_cap hrow).1 (own_cap hrow).2 gos).mono ?_; rintro e w5 ⟨s5, A5, n5, c5, rfl, hv5, hb5⟩; (have hB5 := heap_below (heap_below (w := (w3.drewN q).drew) hB3 hb4) hb5); obtain ⟨g0, g1, g2, g3, g4⟩ := box2 hB5; (have q1 := box2 (heap_below (heap_below (w := (w3.drewN q).drew) hB1 hb4) hb5)); (have q2 := box2 (heap_below (heap_below (w := (w3.drewN q).drew) hB2 hb4) hb5)); obtain ⟨r10, r11, -, -, -⟩ := q1; obtain ⟨r20, r21, -, -, -⟩ := q2))
   go_wp2
   refine bodyPost_ret (v := .agg #[.bool s5, .slice A5 n5 c5]) (by simp [results, Tryz.results134, go_sem, g0, g1]) rfl ⟨s5, A5, n5, c5, rfl, ?_, ?_⟩
   ·have e : sg t (val B32 os) = x + y := by have hx := HX.out; have hy := HY.out; have hv := HV.out; rw [hv, hx, hy]; exact sg_less' hst (Nat.le_of_lt HLT.out)
    rw [e] at hv5
    exact hv5.box2 hB5 (by decide) _ _
   ·go_grown
    exact below_then hb5 (below_then hb4 (w := w) (B := w.heap.size) ((below_drewN hbel q).drew) (by simp; omega)) (by have := hb4.size; simp at this; omega)
  ·have hr0 : 0 ≤ r := by have h := hr.1; have h2 : ¬ r < 0 := fun h3 => by have := h.1 h3; omega
                          omega
   have hkn : k <= n := by have := len_of_val (b := B32) (by decide) gl nm hge; rw [HL.out, HM.out] at this; exact this
   clear hr
   have HLT := Lib.hid hge; clear hge
   go_wp2_with fail
   go_region_held3 (fun w' => w'.cell? ⟨w.heap.size, 0, none⟩ = some (.bool s) /\ w'.cell? ⟨w.heap.size, 1, none⟩ = some (.slice A n c) /\ w'.cell? ⟨w.heap.size + 1, 1, none⟩ = some (.slice B k d)) (first | (go_keep; done) | (refine ⟨cell_past2 r10 ?_, cell_past2 r11 ?_, cell_past2 r21 ?_⟩ <;> omega))
    (first
     | (go_at_call 192; refine (less_c l m A B n c k d _ (by exact hd3) (by exact he3) gl gm (by omega) hkn HLT.out).mono ?_; rintro e w4 ⟨v, os, rfl, hrow, gos, _, hval, hb4⟩; (have HV := Lib.hid hval); clear hval; obtain ⟨A1, d1, rfl⟩ := hrow.slice; (have q1 := box2 (heap_below (w := (w3.drewN q).drew) hB1 hb4)); (have q2 := box2 (heap_below (w := (w3.drewN q).drew) hB2 hb4)); obtain ⟨r10, r11, -, -, -⟩ := q1; obtain ⟨r20, r21, -, -, -⟩ := q2)
     | (go_at_call 189; refine (made_c os s A1 os.length d1 _ (Dig.of_own hrow) (own_cap hrow).1 (own_cap hrow).2 gos).mono ?_; rintro e w5 ⟨s5, A5, n5, c5, rfl, hv5, hb5⟩; (have hB5 := heap_below (heap_below (w := (w3.drewN q).drew) hB3 hb4) hb5); obtain ⟨g0, g1, g2, g3, g4⟩ := box2 hB5; (have q1 := box2 (heap_below (heap_below (w := (w3.drewN q).drew) hB1 hb4) hb5)); (have q2 := box2 (heap_below (heap_below (w := (w3.drewN q).drew) hB2 hb4) hb5)); obtain ⟨r10, r11, -, -, -⟩ := q1; obtain ⟨r20, r21, -, -, -⟩ := q2))
   go_wp2
   refine bodyPost_ret (v := .agg #[.bool s5, .slice A5 n5 c5]) (by simp [results, Tryz.results134, go_sem, g0, g1]) rfl ⟨s5, A5, n5, c5, rfl, ?_, ?_⟩
   ·have e : sg s (val B32 os) = x + y := by have hx := HX.out; have hy := HY.out; have hv := HV.out; rw [hv, hx, hy]; exact sg_less hst HLT.out
    rw [e] at hv5
    exact hv5.box2 hB5 (by decide) _ _
   ·go_grown
    exact below_then hb5 (below_then hb4 (w := w) (B := w.heap.size) ((below_drewN hbel q).drew) (by simp; omega)) (by have := hb4.size; simp at this; omega)
theorem Big.sign {K : IntKind} {E : TypeId} {b : Nat} {w : World} {s : Bool} {A : Option Addr} {n c : Nat} {z : Int} (hb : 0 < b) (h : Big K E b w s A n c z) : (s = true /\ z.sign = -1) ∨ (s = false /\ n = 0 /\ z.sign = 0) ∨ (s = false /\ 0 < n /\ z.sign = 1) := by
 obtain ⟨l, hd, _, _, _, nl, sl, rfl⟩ := h
 have hl := hd.1
 cases s with
 | true =>
  have := val_pos hb nl (sl rfl)
  exact .inl ⟨rfl, by simp only [sg, if_true]; exact Int.sign_eq_neg_one_of_neg (by omega)⟩
 | false =>
  rcases Nat.eq_zero_or_pos n with h0 | h0
  ·subst h0
   rw [List.length_eq_zero_iff] at hl
   subst hl
   exact .inr (.inl ⟨rfl, rfl, by simp [sg, val]⟩)
  ·have := val_pos hb nl (by intro e; subst e; simp at hl; omega)
   exact .inr (.inr ⟨rfl, h0, by simp only [sg]; exact Int.sign_eq_one_of_pos (by simpa using this)⟩)
theorem sign_c (w : World) {s : Bool} {A : Option Addr} {n c : Nat} {z : Int} (h : Big .u32 196 B32 w s A n c z) :
  Calls Tryz.prog 89 #[.agg #[.bool s, .slice A n c]] w fun e w' => e = .returned (.int .i64 z.sign) /\ Below w.heap.size w w' := by
 rcases h.sign (by decide) with ⟨rfl, e⟩ | ⟨rfl, rfl, e⟩ | ⟨rfl, h0, e⟩
 ·rw [e]
  go_enter Tryz.func89, Tryz.ntmps89
  go_wp2
  go_ret
  exact ⟨rfl, by go_grown⟩
 ·rw [e]
  go_enter Tryz.func89, Tryz.ntmps89
  go_wp2
  go_ret
  exact ⟨rfl, by go_grown⟩
 ·rw [e]
  go_enter Tryz.func89, Tryz.ntmps89
  go_wp2
  go_ret
  exact ⟨rfl, by go_grown⟩
theorem sg_not {s : Bool} {x : Nat} : sg (!s) x = - sg s x := by cases s <;> simp [sg]
set_option maxHeartbeats 1000000 in
theorem minus_c (w : World) {s : Bool} {A : Option Addr} {n c : Nat} {z : Int} (h : Big .u32 196 B32 w s A n c z) :
  Calls Tryz.prog 135 #[.agg #[.bool s, .slice A n c]] w (Makes .u32 196 B32 w (-z)) := by
 obtain ⟨l, hd, hnc, hcm, gl, nl, sl, rfl⟩ := h
 go_enter Tryz.func135, Tryz.ntmps135
 go_wp2_with fail
 refine (made_c l (!s) A n c _ ((hd.alloc _).alloc _) hnc hcm gl).mono ?_
 rintro e w1 ⟨s1, A1, n1, c1, rfl, hv, hb⟩
 have hB := heap_below (heap_new (w.alloc _) _ rfl) hb
 simp only [World.size_alloc] at hB
 obtain ⟨g0, g1, g2, g3, g4⟩ := box2 hB
 go_wp2
 refine bodyPost_ret (v := .agg #[.bool s1, .slice A1 n1 c1]) (by simp [results, Tryz.results135, go_sem, g0, g1]) rfl ⟨s1, A1, n1, c1, rfl, ?_, ?_⟩
 ·rw [<- sg_not]
  exact hv.box2 hB (by decide) _ _
 ·go_grown
  exact below_then hb (by go_grown) (by simp only [World.size_alloc]; omega)
theorem Small.neg {z : Int} (h : Small z) : Small (-z) := by unfold Small at *; omega
set_option maxHeartbeats 2000000 in
set_option maxRecDepth 100000 in
theorem lessI_c (w : World) {s t : Bool} {A B : Option Addr} {n c k d : Nat} {x y : Int} (ha : Big .u32 196 B32 w s A n c x) (hb : Big .u32 196 B32 w t B k d y) (sx : Small x) (sy : Small y) :
  Calls Tryz.prog 88 #[.agg #[.bool s, .slice A n c], .agg #[.bool t, .slice B k d]] w (Makes .u32 196 B32 w (x - y)) := by
 go_enter Tryz.func88, Tryz.ntmps88
 go_wp2_with fail
 have HW := boxes3 w (.bool s) (.slice A n c) (.bool t) (.slice B k d) (.bool false) (.slice none 0 0) 111 111 111
 generalize ((w.alloc (.cells #[.bool s, .slice A n c] 111)).alloc (.cells #[.bool t, .slice B k d] 111)).alloc (.cells #[.bool false, .slice none 0 0] 111) = w3 at HW ⊢
 obtain ⟨hB1, hB2, hB3, hbel⟩ := HW _ rfl
 clear HW
 have hz3 := hbel.size
 have ha3 := ha.below hbel
 have hb3 := hb.below hbel
 obtain ⟨c10, c11, -, -, -⟩ := box2 hB1
 obtain ⟨c20, c21, -, -, -⟩ := box2 hB2
 go_region_held3 (fun w' => w'.cell? ⟨w.heap.size, 0, none⟩ = some (.bool s) /\ w'.cell? ⟨w.heap.size, 1, none⟩ = some (.slice A n c) /\ w'.cell? ⟨w.heap.size + 1, 0, none⟩ = some (.bool t) /\ w'.cell? ⟨w.heap.size + 1, 1, none⟩ = some (.slice B k d))
  (first | (go_keep; done) | (refine ⟨cell_past2 r10 ?_, cell_past2 r11 ?_, cell_past2 r20 ?_, cell_past2 r21 ?_⟩ <;> omega))
  (first
   | (go_at_call 135; refine (minus_c _ hb3.drew).mono ?_; rintro e w4 ⟨s4, A4, n4, c4, rfl, hv4, hb4⟩; (have q1 := box2 (heap_below (w := w3.drew) hB1 hb4)); (have q2 := box2 (heap_below (w := w3.drew) hB2 hb4)); obtain ⟨r10, r11, -, -, -⟩ := q1; obtain ⟨r20, r21, -, -, -⟩ := q2)
   | (go_at_call 134; refine (plus_c _ (ha3.drew.below hb4) hv4 sx sy.neg).mono ?_; rintro e w5 ⟨s5, A5, n5, c5, rfl, hv5, hb5⟩; (have hB5 := heap_below (heap_below (w := w3.drew) hB3 hb4) hb5); obtain ⟨g0, g1, g2, g3, g4⟩ := box2 hB5; (have q1 := box2 (heap_below (heap_below (w := w3.drew) hB1 hb4) hb5)); (have q2 := box2 (heap_below (heap_below (w := w3.drew) hB2 hb4) hb5)); obtain ⟨r10, r11, -, -, -⟩ := q1; obtain ⟨r20, r21, -, -, -⟩ := q2))
 go_wp2
 refine bodyPost_ret (v := .agg #[.bool s5, .slice A5 n5 c5]) (by simp [results, Tryz.results88, go_sem, g0, g1]) rfl ⟨s5, A5, n5, c5, rfl, hv5.box2 hB5 (by decide) _ _, ?_⟩
 go_grown
 exact below_then hb5 (below_then hb4 (w := w) (B := w.heap.size) hbel.drew (by simp; omega)) (by have := hb4.size; simp at this; omega)
set_option maxHeartbeats 2000000 in
set_option maxRecDepth 100000 in
theorem compareI_c (w : World) {s t : Bool} {A B : Option Addr} {n c k d : Nat} {x y : Int} (ha : Big .u32 196 B32 w s A n c x) (hb : Big .u32 196 B32 w t B k d y) (sx : Small x) (sy : Small y) :
  Calls Tryz.prog 56 #[.agg #[.bool s, .slice A n c], .agg #[.bool t, .slice B k d]] w fun e w' => e = .returned (.int .i64 (x - y).sign) /\ Below w.heap.size w w' := by
 go_enter Tryz.func56, Tryz.ntmps56
 go_wp2_with fail
 refine (lessI_c _ ((ha.alloc _).alloc _) ((hb.alloc _).alloc _) sx sy).mono ?_
 rintro e w4 ⟨s4, A4, n4, c4, rfl, hv4, hb4⟩
 go_wp2_with fail
 refine (sign_c _ hv4).mono ?_
 rintro e w5 ⟨rfl, hb5⟩
 go_wp2
 go_ret
 refine ⟨rfl, ?_⟩
 have h4 : Below w.heap.size w w4 := below_then hb4 (by go_grown) (by simp only [World.size_alloc]; omega)
 exact below_then hb5 h4 h4.size
end Go.Proofs.YtbnjejenejoibaaGreatDoor
namespace Go.Proofs.YtbnjejenejoibaaGreatDoor
open Nmb Work
set_option linter.unusedVariables false
set_option linter.unusedSimpArgs false
def bs (l : List UInt8) : ByteArray := ⟨l.toArray⟩
def eS : ByteArray := ⟨#[]⟩
def wrdS (s : ByteArray) : List ByteArray := (pcs 32 s.data.toList).map bs
def wd (L : List ByteArray) (i : Nat) : ByteArray := L.getD i eS
def nOk (s : ByteArray) : Bool := decide (s.size <= 4) && digs s.data.toList && !(decide (1 < s.size) && decide (byA s.data.toList 0 = 48))
def nVal (s : ByteArray) : Int := if nOk s = true then ((dv s.data.toList : Nat) : Int) else 0
def yOk (s : ByteArray) : Bool := nOk s && decide (nVal s <= 255)
def undS (s : ByteArray) : ByteArray := if s = ⟨#[45]⟩ then eS else s
def wFixed : ByteArray := ⟨#[102, 105, 120, 101, 100]⟩
def wMarked : ByteArray := ⟨#[109, 97, 114, 107, 101, 100]⟩
def wKind : ByteArray := ⟨#[107, 105, 110, 100]⟩
def wEnds : ByteArray := ⟨#[101, 110, 100, 115]⟩
def wText : ByteArray := ⟨#[116, 101, 120, 116]⟩
def wNumber : ByteArray := ⟨#[110, 117, 109, 98, 101, 114]⟩
def wDay : ByteArray := ⟨#[100, 97, 121]⟩
def wLeft : ByteArray := ⟨#[108, 101, 102, 116]⟩
def wRight : ByteArray := ⟨#[114, 105, 103, 104, 116]⟩
def wNeed : ByteArray := ⟨#[110, 101, 101, 100]⟩
structure FSt where
 f : Fmt
 begun : Bool
 ended : Bool
def fmt0 : Fmt := ⟨0, 0, [], eS, eS, eS, eS⟩
def st0 : FSt := ⟨fmt0, false, false⟩
def pK (kind : Int) : Nat := if kind = 2 ∨ kind = 3 then 1 else 0
def sK (mark kind : Int) : Nat := if mark = 0 /\ kind ≠ 3 then 2 else 0
def needB (L : List ByteArray) (b : Nat) : Bool := decide (L.length = b + 1) && decide (wd L b = wNeed)
def colOk (mark kind : Int) (L : List ByteArray) : Bool :=
 (decide (L.length = 2 + pK kind + sK mark kind) || needB L (2 + pK kind + sK mark kind)) && nOk (wd L 1) && (decide (pK kind = 0) || nOk (wd L 2)) &&
  (decide (sK mark kind = 0) || (decide (wd L (2 + pK kind) = wLeft) || decide (wd L (2 + pK kind) = wRight)) && yOk (wd L (3 + pK kind)))
def colW (mark kind : Int) (L : List ByteArray) : Col :=
 ⟨wd L 0, kind, nVal (wd L 1), if kind = 2 then nVal (wd L 2) else 0, if kind = 3 then nVal (wd L 2) else 0,
  decide (sK mark kind ≠ 0) && decide (wd L (2 + pK kind) = wRight), if sK mark kind ≠ 0 then nVal (wd L (3 + pK kind)) % 256 else 0, needB L (2 + pK kind + sK mark kind)⟩
def addCol : List RKd -> Col -> List RKd
 | [], _ => []
 | [k], c => [{ k with fields := k.fields ++ [c] }]
 | k :: x :: r, c => k :: addCol (x :: r) c
def kindW (s : ByteArray) : Int := if s = wText then 1 else if s = wNumber then 2 else if s = wDay then 3 else 0
def frstF (st : FSt) (h : ByteArray) (L : List ByteArray) : Option FSt :=
 if h = wFixed then if L.length = 0 then some { st with begun := true } else none
 else if h = wMarked then
  if L.length = 2 /\ yOk (wd L 0) = true /\ yOk (wd L 1) = true /\ nVal (wd L 0) ≠ 0 then some ⟨{ st.f with mark := nVal (wd L 0), quote := nVal (wd L 1) }, true, st.ended⟩ else none
 else none
def wordsF (st : FSt) (h : ByteArray) (L : List ByteArray) : Option FSt :=
 if st.begun = false then frstF st h L
 else if h = wKind then
  if L.length = 3 /\ nOk (wd L 1) = true then some { st with f := { st.f with kinds := st.f.kinds ++ [⟨wd L 0, [], nVal (wd L 1), undS (wd L 2)⟩] } } else none
 else if h = wEnds then
  if L.length = 4 then some ⟨{ st.f with head := undS (wd L 0), tail := undS (wd L 1), count := undS (wd L 2), sum := undS (wd L 3) }, st.begun, true⟩ else none
 else if kindW h ≠ 0 /\ st.f.kinds ≠ [] /\ colOk st.f.mark (kindW h) L = true then some { st with f := { st.f with kinds := addCol st.f.kinds (colW st.f.mark (kindW h) L) } }
 else none
def lineF (st : FSt) (s : ByteArray) : Option FSt :=
 if (wrdS s).any (fun w => decide (w = eS)) = true ∨ st.ended = true then none else wordsF st (wd (wrdS s) 0) (wrdS s).tail
def lnsE (t : List UInt8) : Bool := decide (t = []) || decide (t.getLast? = some 10)
def lnsL (t : List UInt8) : List (List UInt8) := if t = [] then [] else if t.getLast? = some 10 then pcs 10 t.dropLast else pcs 10 t
def linesF (e : Bool) : FSt -> Int -> List (List UInt8) -> FSt ⊕ Int
 | st, _, [] => .inl st
 | st, i, s :: r => match lineF st (bs s) with
  | none => .inr (i + 1)
  | some st' => if e = false /\ r = [] then .inr (i + 1) else linesF e st' (i + 1) r
def readF (t : ByteArray) : Fmt × Int × Int :=
 if 500000 < t.size then (fmt0, 0, 2)
 else match linesF (lnsE t.data.toList) st0 0 (lnsL t.data.toList) with
  | .inr n => (fmt0, n, 10)
  | .inl st => if st.ended = false then (fmt0, (lnsL t.data.toList).length + 1, 10) else if checkF st.f ≠ 0 then (fmt0, 0, checkF st.f) else (st.f, 0, 0)
theorem wrd_len (s : ByteArray) : 0 < (wrdS s).length := by
 unfold wrdS
 rw [List.length_map]
 exact List.length_pos_iff.2 (pcs_ne _ _)
theorem wd_sz {L : List ByteArray} {B : Nat} (h : ∀ s ∈ L, s.size <= B) (i : Nat) : (wd L i).size <= B := by
 unfold wd
 rw [List.getD_eq_getElem?_getD]
 cases e : L[i]? with
 | none => show (0 : Nat) <= B; omega
 | some x => exact h x (List.mem_of_getElem? e)
theorem bs_toList (l : List UInt8) : (bs l).data.toList = l := by simp [bs]
theorem bs_size (l : List UInt8) : (bs l).size = l.length := by simp [bs, ByteArray.size]
theorem bs_self (s : ByteArray) : bs s.data.toList = s := by cases s; simp [bs]
theorem wrd_sz (s : ByteArray) : ∀ w ∈ wrdS s, w.size <= s.size := by
 intro w hw
 unfold wrdS at hw
 obtain ⟨l, hl, rfl⟩ := List.mem_map.1 hw
 have := pcs_sum 32 _ l hl
 rw [bs_size]
 simpa using this
theorem nOk_bd {s : ByteArray} (h : nOk s = true) : s.size <= 4 /\ digs s.data.toList = true /\ ¬ (1 < s.size /\ byA s.data.toList 0 = 48) := by
 unfold nOk at h
 simp only [Bool.and_eq_true, Bool.not_eq_true', decide_eq_true_eq, Bool.and_eq_false_iff, decide_eq_false_iff_not] at h
 obtain ⟨⟨h1, h2⟩, h3⟩ := h
 exact ⟨h1, h2, fun k => by rcases h3 with h3 | h3; exact h3 k.1; exact h3 k.2⟩
theorem nVal_bd (s : ByteArray) : 0 <= nVal s /\ nVal s <= 9999 := by
 unfold nVal
 split
 next h =>
  obtain ⟨h1, h2, -⟩ := nOk_bd h
  have h3 := dvF_lt s.data.toList 0 (digs_mem h2)
  have h4 : s.data.toList.length = s.size := by simp
  rw [h4, Nat.zero_add, Nat.one_mul] at h3
  have h5 : 10 ^ s.size <= 10 ^ 4 := Nat.pow_le_pow_right (by decide) h1
  have h6 : dv s.data.toList = dvF s.data.toList 0 := rfl
  omega
 next => omega
theorem addCol_len : ∀ (ks : List RKd) (c : Col), (addCol ks c).length = ks.length
 | [], _ => rfl
 | [k], _ => rfl
 | k :: x :: r, c => by
  have := addCol_len (x :: r) c
  show (addCol (x :: r) c).length + 1 = _
  rw [this]; rfl
theorem addCol_at : ∀ {ks : List RKd} {c : Col} {j : Nat}, j + 1 < ks.length -> kA (addCol ks c) j = kA ks j
 | [], _, _, h => by simp at h
 | [k], _, _, h => by simp at h
 | k :: x :: r, c, 0, h => rfl
 | k :: x :: r, c, j + 1, h => by
  have := addCol_at (ks := x :: r) (c := c) (j := j) (by simpa using h)
  show kA (addCol (x :: r) c) j = kA (x :: r) j
  exact this
theorem addCol_last : ∀ {ks : List RKd} {c : Col}, ks ≠ [] -> kA (addCol ks c) (ks.length - 1) = { kA ks (ks.length - 1) with fields := (kA ks (ks.length - 1)).fields ++ [c] }
 | [], _, h => absurd rfl h
 | [k], _, _ => rfl
 | k :: x :: r, c, h => by
  have := addCol_last (ks := x :: r) (c := c) (by simp)
  simp only [List.length_cons, Nat.add_sub_cancel] at this ⊢
  show kA (addCol (x :: r) c) r.length = _
  rw [this]
  rfl
end Go.Proofs.YtbnjejenejoibaaGreatDoor
