
/- The walks of package whole: Plus and what stands on it. -/
import Derived.Test.YtlkidhfjkgppoaaDoorW3
import Derived.Deep.RegionHeld3
namespace Go.Proofs.YtlkidhfjkgppoaaDoor
open Go.RowKit Limb

theorem plus_same {s : Bool} {x y : Nat} : sg s (x + y) = sg s x + sg s y := by unfold sg; split <;> omega
theorem Row.slice {E : TypeId} {B : Nat} {w : World} {v : Value} {os : List Nat} (h : Row E B w v os) : ∃ A c, v = .slice A os.length c := own_slice h

theorem sg_less {s t : Bool} {x y : Nat} (h : s ≠ t) (hle : y ≤ x) : sg s (x - y) = sg s x + sg t y := by cases s <;> cases t <;> simp_all [sg] <;> omega
theorem sg_less' {s t : Bool} {x y : Nat} (h : s ≠ t) (hle : x ≤ y) : sg t (y - x) = sg s x + sg t y := by cases s <;> cases t <;> simp_all [sg] <;> omega
theorem len_of_val {b : Nat} (hb : 1 < b) {l m : List Nat} (gl : Digs b l) (nm : Norm m) (h : val b m ≤ val b l) : m.length ≤ l.length := by
  rcases Nat.lt_or_ge l.length m.length with k | k
  · have := val_lt_of_len hb gl nm k; omega
  · exact k

set_option maxHeartbeats 4000000 in
set_option maxRecDepth 100000 in
theorem plus_c (w : World) {s t : Bool} {A B : Option Addr} {n c k d : Nat} {x y : Int} (ha : Big .u32 92 B32 w s A n c x) (hb : Big .u32 92 B32 w t B k d y) (sx : Small x) (sy : Small y) :
    Calls Tryd.prog 30 #[.agg #[.bool s, .slice A n c], .agg #[.bool t, .slice B k d]] w (Makes .u32 92 B32 w (x + y)) := by
  obtain ⟨l, hd, hnc, hcm, gl, nl, sl, hx⟩ := ha
  obtain ⟨m, he, hkd, hdm, gm, nm, sm, hy⟩ := hb
  have hn : n ≤ 1000 := by rw [← hd.1]; rw [hx] at sx; have := small_len32 nl sx; omega
  have hk : k ≤ 1000 := by rw [← he.1]; rw [hy] at sy; have := small_len32 nm sy; omega
  have HX := Lib.hid hx; have HY := Lib.hid hy; clear hx hy
  have HL := Lib.hid hd.1; have HM := Lib.hid he.1
  clear sx sy
  by_cases hst : s = t
  · subst hst
    have hs : (s == s) = true := by simp
    go_enter Tryd.func30, Tryd.ntmps30
    go_wp2_with fail
    generalize hw : ((w.alloc (.cells #[.bool s, .slice A n c] 76)).alloc (.cells #[.bool s, .slice B k d] 76)).alloc (.cells #[.bool false, .slice none 0 0] 76) = w3
    have hB1 : w3.heap[w.heap.size]? = some (.cells #[.bool s, .slice A n c] 76 (0, 0)) := by rw [← hw]; exact heap_old (heap_old (heap_new _ _ rfl) _) _
    have hB2 : w3.heap[w.heap.size + 1]? = some (.cells #[.bool s, .slice B k d] 76 (0, 0)) := by rw [← hw]; exact heap_old (heap_new _ _ (by simp)) _
    have hB3 : w3.heap[w.heap.size + 1 + 1]? = some (.cells #[.bool false, .slice none 0 0] 76 (0, 0)) := by rw [← hw]; exact heap_new _ _ (by simp)
    have hbel : Below w.heap.size w w3 := by rw [← hw]; go_grown
    have hd3 : Dig w3 .u32 92 A n l := by rw [← hw]; exact ((hd.alloc _).alloc _).alloc _
    have he3 : Dig w3 .u32 92 B k m := by rw [← hw]; exact ((he.alloc _).alloc _).alloc _
    clear hw hd he
    obtain ⟨c10, c11, f10, f11, z1⟩ := box2 hB1
    obtain ⟨c20, c21, f20, f21, z2⟩ := box2 hB2
    obtain ⟨c30, c31, f30, f31, z3⟩ := box2 hB3
    go_region_held3 (fun w' => w'.cell? ⟨w.heap.size, 0, none⟩ = some (.bool s) ∧ w'.cell? ⟨w.heap.size, 1, none⟩ = some (.slice A n c) ∧ w'.cell? ⟨w.heap.size + 1, 1, none⟩ = some (.slice B k d)) (first | (go_keep; done) | (refine ⟨cell_past2 r10 ?_, cell_past2 r11 ?_, cell_past2 r21 ?_⟩ <;> omega))
      (first
        | (go_at_call 41; refine (sum_c l m A B n c k d _ hd3.drew he3.drew gl gm hn hk).mono ?_; rintro e w4 ⟨v, os, rfl, hrow, _, _, gos, hval, hb4⟩; (have HV := Lib.hid hval); clear hval; obtain ⟨A1, d1, rfl⟩ := hrow.slice; (have q1 := box2 (heap_below (w := w3.drew) hB1 hb4)); (have q2 := box2 (heap_below (w := w3.drew) hB2 hb4)); obtain ⟨r10, r11, -, -, -⟩ := q1; obtain ⟨r20, r21, -, -, -⟩ := q2)
        | (go_at_call 40; refine (made_c os s A1 os.length d1 _ (Dig.of_own hrow) (own_cap hrow).1 (own_cap hrow).2 gos).mono ?_; rintro e w5 ⟨s5, A5, n5, c5, rfl, hv5, hb5⟩; (have hB5 := heap_below (heap_below (w := w3.drew) hB3 hb4) hb5); obtain ⟨g0, g1, g2, g3, g4⟩ := box2 hB5; (have q1 := box2 (heap_below (heap_below (w := w3.drew) hB1 hb4) hb5)); (have q2 := box2 (heap_below (heap_below (w := w3.drew) hB2 hb4) hb5)); obtain ⟨r10, r11, -, -, -⟩ := q1; obtain ⟨r20, r21, -, -, -⟩ := q2))
    go_wp2
    refine bodyPost_ret (v := .agg #[.bool s5, .slice A5 n5 c5]) (by simp [results, Tryd.results30, go_sem, g0, g1]) rfl ⟨s5, A5, n5, c5, rfl, ?_, ?_⟩
    · have e : sg s (val B32 os) = x + y := by have hx := HX.out; have hy := HY.out; have hv := HV.out; rw [hv, hx, hy, plus_same]
      rw [e] at hv5
      exact hv5.box2 hB5 (by decide) _ _
    · go_grown
      exact below_then hb5 (below_then hb4 (w := w) (B := w.heap.size) (hbel.drew) (by simp; omega)) (by have := hb4.size; simp at this; omega)
  · have hs : (s == t) = false := by simp [hst]
    go_enter Tryd.func30, Tryd.ntmps30
    go_wp2_with fail
    generalize hw : ((w.alloc (.cells #[.bool s, .slice A n c] 76)).alloc (.cells #[.bool t, .slice B k d] 76)).alloc (.cells #[.bool false, .slice none 0 0] 76) = w3
    have hB1 : w3.heap[w.heap.size]? = some (.cells #[.bool s, .slice A n c] 76 (0, 0)) := by rw [← hw]; exact heap_old (heap_old (heap_new _ _ rfl) _) _
    have hB2 : w3.heap[w.heap.size + 1]? = some (.cells #[.bool t, .slice B k d] 76 (0, 0)) := by rw [← hw]; exact heap_old (heap_new _ _ (by simp)) _
    have hB3 : w3.heap[w.heap.size + 1 + 1]? = some (.cells #[.bool false, .slice none 0 0] 76 (0, 0)) := by rw [← hw]; exact heap_new _ _ (by simp)
    have hbel : Below w.heap.size w w3 := by rw [← hw]; go_grown
    have hd3 : Dig w3 .u32 92 A n l := by rw [← hw]; exact ((hd.alloc _).alloc _).alloc _
    have he3 : Dig w3 .u32 92 B k m := by rw [← hw]; exact ((he.alloc _).alloc _).alloc _
    clear hw hd he
    obtain ⟨c10, c11, f10, f11, z1⟩ := box2 hB1
    obtain ⟨c20, c21, f20, f21, z2⟩ := box2 hB2
    obtain ⟨c30, c31, f30, f31, z3⟩ := box2 hB3
    refine (compare_c l m A B n c k d _ hd3 hnc hcm he3 hkd hdm gl gm nl nm).mono ?_
    rintro e w4 ⟨r, rfl, hr, q, rfl⟩
    rcases Nat.lt_or_ge (val B32 l) (val B32 m) with hlt | hge
    · have hr0 : r < 0 := hr.1.2 hlt
      have hkn : n ≤ k := by have := len_of_val (b := B32) (by decide) gm nl (by omega : val B32 l ≤ val B32 m); rw [HL.out, HM.out] at this; exact this
      clear hr
      have HLT := Lib.hid hlt; clear hlt
      go_wp2_with fail
      go_region_held3 (fun w' => w'.cell? ⟨w.heap.size + 1, 0, none⟩ = some (.bool t) ∧ w'.cell? ⟨w.heap.size, 1, none⟩ = some (.slice A n c) ∧ w'.cell? ⟨w.heap.size + 1, 1, none⟩ = some (.slice B k d)) (first | (go_keep; done) | (refine ⟨cell_past2 r20 ?_, cell_past2 r11 ?_, cell_past2 r21 ?_⟩ <;> omega))
        (first
          | (go_at_call 43; refine (less_c m l B A k d n c _ (by exact he3) (by exact hd3) gm gl (by omega) hkn (Nat.le_of_lt HLT.out)).mono ?_; rintro e w4 ⟨v, os, rfl, hrow, gos, _, hval, hb4⟩; (have HV := Lib.hid hval); clear hval; obtain ⟨A1, d1, rfl⟩ := hrow.slice; (have q1 := box2 (heap_below (w := (w3.drewN q).drew) hB1 hb4)); (have q2 := box2 (heap_below (w := (w3.drewN q).drew) hB2 hb4)); obtain ⟨r10, r11, -, -, -⟩ := q1; obtain ⟨r20, r21, -, -, -⟩ := q2)
          | (go_at_call 40; refine (made_c os t A1 os.length d1 _ (Dig.of_own hrow) (own_cap hrow).1 (own_cap hrow).2 gos).mono ?_; rintro e w5 ⟨s5, A5, n5, c5, rfl, hv5, hb5⟩; (have hB5 := heap_below (heap_below (w := (w3.drewN q).drew) hB3 hb4) hb5); obtain ⟨g0, g1, g2, g3, g4⟩ := box2 hB5; (have q1 := box2 (heap_below (heap_below (w := (w3.drewN q).drew) hB1 hb4) hb5)); (have q2 := box2 (heap_below (heap_below (w := (w3.drewN q).drew) hB2 hb4) hb5)); obtain ⟨r10, r11, -, -, -⟩ := q1; obtain ⟨r20, r21, -, -, -⟩ := q2))
      go_wp2
      refine bodyPost_ret (v := .agg #[.bool s5, .slice A5 n5 c5]) (by simp [results, Tryd.results30, go_sem, g0, g1]) rfl ⟨s5, A5, n5, c5, rfl, ?_, ?_⟩
      · have e : sg t (val B32 os) = x + y := by have hx := HX.out; have hy := HY.out; have hv := HV.out; rw [hv, hx, hy]; exact sg_less' hst (Nat.le_of_lt HLT.out)
        rw [e] at hv5
        exact hv5.box2 hB5 (by decide) _ _
      · go_grown
        exact below_then hb5 (below_then hb4 (w := w) (B := w.heap.size) ((below_drewN hbel q).drew) (by simp; omega)) (by have := hb4.size; simp at this; omega)
    · have hr0 : 0 ≤ r := by have h := hr.1; have h2 : ¬ r < 0 := fun h3 => by have := h.1 h3; omega
                             omega
      have hkn : k ≤ n := by have := len_of_val (b := B32) (by decide) gl nm hge; rw [HL.out, HM.out] at this; exact this
      clear hr
      have HLT := Lib.hid hge; clear hge
      go_wp2_with fail
      go_region_held3 (fun w' => w'.cell? ⟨w.heap.size, 0, none⟩ = some (.bool s) ∧ w'.cell? ⟨w.heap.size, 1, none⟩ = some (.slice A n c) ∧ w'.cell? ⟨w.heap.size + 1, 1, none⟩ = some (.slice B k d)) (first | (go_keep; done) | (refine ⟨cell_past2 r10 ?_, cell_past2 r11 ?_, cell_past2 r21 ?_⟩ <;> omega))
        (first
          | (go_at_call 43; refine (less_c l m A B n c k d _ (by exact hd3) (by exact he3) gl gm (by omega) hkn HLT.out).mono ?_; rintro e w4 ⟨v, os, rfl, hrow, gos, _, hval, hb4⟩; (have HV := Lib.hid hval); clear hval; obtain ⟨A1, d1, rfl⟩ := hrow.slice; (have q1 := box2 (heap_below (w := (w3.drewN q).drew) hB1 hb4)); (have q2 := box2 (heap_below (w := (w3.drewN q).drew) hB2 hb4)); obtain ⟨r10, r11, -, -, -⟩ := q1; obtain ⟨r20, r21, -, -, -⟩ := q2)
          | (go_at_call 40; refine (made_c os s A1 os.length d1 _ (Dig.of_own hrow) (own_cap hrow).1 (own_cap hrow).2 gos).mono ?_; rintro e w5 ⟨s5, A5, n5, c5, rfl, hv5, hb5⟩; (have hB5 := heap_below (heap_below (w := (w3.drewN q).drew) hB3 hb4) hb5); obtain ⟨g0, g1, g2, g3, g4⟩ := box2 hB5; (have q1 := box2 (heap_below (heap_below (w := (w3.drewN q).drew) hB1 hb4) hb5)); (have q2 := box2 (heap_below (heap_below (w := (w3.drewN q).drew) hB2 hb4) hb5)); obtain ⟨r10, r11, -, -, -⟩ := q1; obtain ⟨r20, r21, -, -, -⟩ := q2))
      go_wp2
      refine bodyPost_ret (v := .agg #[.bool s5, .slice A5 n5 c5]) (by simp [results, Tryd.results30, go_sem, g0, g1]) rfl ⟨s5, A5, n5, c5, rfl, ?_, ?_⟩
      · have e : sg s (val B32 os) = x + y := by have hx := HX.out; have hy := HY.out; have hv := HV.out; rw [hv, hx, hy]; exact sg_less hst HLT.out
        rw [e] at hv5
        exact hv5.box2 hB5 (by decide) _ _
      · go_grown
        exact below_then hb5 (below_then hb4 (w := w) (B := w.heap.size) ((below_drewN hbel q).drew) (by simp; omega)) (by have := hb4.size; simp at this; omega)

end Go.Proofs.YtlkidhfjkgppoaaDoor
