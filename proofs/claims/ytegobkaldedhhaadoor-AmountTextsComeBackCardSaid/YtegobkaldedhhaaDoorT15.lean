
/- The law AmountTextsComeBack is walked. -/
import Derived.Test.YtegobkaldedhhaaDoorT14
namespace Go.Proofs.YtegobkaldedhhaaDoor
open Go.RowKit Limb
set_option linter.unusedVariables false
set_option linter.unusedSimpArgs false

theorem retd_any {r : Int × Int × Int} {w w' : World} {e : Ending} (h : RetD r w e w') : ∃ x y f, r = (x, y, f) ∧ e = .returned (.tuple #[.agg #[.int .i64 x, .int .i64 y], .int .i64 f]) ∧ Below w.heap.size w w' := ⟨r.1, r.2.1, r.2.2, rfl, h.1, h.2⟩
set_option maxHeartbeats 4000000 in
set_option maxRecDepth 100000 in
theorem law_back (u p a b : Int) (pt gr : UInt8) (w : World) (ha : -9223372036854775808 ≤ a ∧ a ≤ 9223372036854775807) (hb : -9223372036854775808 ≤ b ∧ b ≤ 9223372036854775807) :
    Calls Tryd.prog 5 #[.agg #[.int .i64 u, .int .i64 p], .int .i64 a, .int .i64 b, .int .u8 (pt.toNat : Int), .int .u8 (gr.toNat : Int)] w fun e w' => e = .returned (.bool true) ∧ Below w.heap.size w w' := by
  have H1 := Lib.hid (fun w => wtext_c u p w)
  have H3 := Lib.hid (fun w => wimplied_c u p a b w ha hb)
  have H5 := Lib.hid (fun w => wgrouped_c u p pt gr w)
  cases hd : decB u p with
  | false =>
    rw [show textR u p = [] from if_neg (by rw [hd]; decide), show decF u p = 1 from if_neg (by rw [hd]; decide)] at H1
    clear hd ha hb
    go_enter Tryd.func5, Tryd.ntmps5
    go_wp2_with fail
    refine (H1.out _).mono ?_
    rintro e w1 ⟨s1, rfl, hs1, c1⟩
    have b1 := below_then c1 (by go_grown : Below w.heap.size w _) (by simp only [World.size_alloc]; omega)
    obtain rfl : s1 = ⟨#[]⟩ := by apply ByteArray.ext; apply Array.ext'; rw [hs1]
    clear hs1 c1
    go_wp2_with fail
    refine (awake_c _).mono ?_
    rintro e w9 ⟨rfl, c9⟩
    have b9 := below_then c9 b1 b1.size
    go_wp2
    go_ret
    exact ⟨rfl, b9⟩
  | true =>
    have hdb := decB_out hd
    obtain ⟨q, rfl⟩ : ∃ q : Nat, p = (q : Int) := ⟨p.toNat, by omega⟩
    have hu : -1000000000000000 ≤ u ∧ u ≤ 1000000000000000 := by omega
    have hq : q ≤ 9 := by omega
    rw [show textR u (q : Int) = textL u q from if_pos hd, show decF u (q : Int) = 0 from if_pos hd] at H1
    have hm200 := nat_pow200 hu
    have HLEN := Lib.hid (text_len (u := u) hq hm200.2)
    have HRT := Lib.hid (readText_back hu hq)
    have HRG := Lib.hid (fun h => readGrp_back (pt := pt) (gr := gr) hu hq h)
    have HGF := Lib.hid (show grpdF u (q : Int) pt gr = marksF (pt.toNat : Int) (gr.toNat : Int) from if_pos hd)
    have HDB := Lib.hid hd
    have HIB := Lib.hid (fun h => readImp_back (u := u) (p := (q : Int)) (a := a) (b := b) h)
    have HBF := Lib.hid (bef_len (u := u) hq hm200.2)
    obtain ⟨fi, hfi⟩ : ∃ f, impF u (q : Int) a b = f := ⟨_, rfl⟩
    have HFI := Lib.hid hfi
    have hbb : fi = 0 → 1 ≤ b ∧ b ≤ 30 := by
      intro h
      rw [h] at hfi
      unfold impF at hfi
      split at hfi
      · cases hfi
      · next h0 =>
        have h0 : decB u (q : Int) = true ∧ 0 ≤ a ∧ a ≤ 9 ∧ 1 ≤ b ∧ b ≤ 30 := Classical.byContradiction h0
        exact h0.2.2.2
    have HBB := Lib.hid hbb
    rw [hfi] at H3
    clear hd ha hb hdb hfi hm200 hbb
    go_enter Tryd.func5, Tryd.ntmps5
    go_wp2_with fail
    refine (H1.out _).mono ?_
    rintro e w1 ⟨s1, rfl, hs1, c1⟩
    have b1 := below_then c1 (by go_grown : Below w.heap.size w _) (by simp only [World.size_alloc]; omega)
    have hX := heap_below (heap_new w (.cells #[.int .i64 u, .int .i64 (q : Int)] 40) rfl) c1
    obtain ⟨y10, y11, -, -, -⟩ := box2 hX
    have hs1s : s1.size ≤ 100 := by have h1 : s1.data.toList.length = s1.size := by simp
                                    rw [← h1, hs1]; exact HLEN.out
    have HR1 := Lib.hid (fun w => readtext_c s1 w (by omega))
    rw [hs1, HRT.out] at HR1
    clear hs1 c1
    go_wp2_with fail
    refine (HR1.out _).mono ?_
    rintro e w2 ⟨rfl, c2⟩
    have b2 := below_then c2 b1 b1.size
    have hX2 := heap_below hX c2
    clear hX c2 y10 y11
    obtain ⟨y10, y11, -, -, y14⟩ := box2 hX2
    go_wp2_with fail
    -- REST
    have hY2 := heap_new w2 (.cells #[.int .i64 u, .int .i64 (q : Int)] 40) rfl
    have hX2' := heap_old hX2 (.cells #[.int .i64 u, .int .i64 (q : Int)] 40)
    have bN : Below w.heap.size w (w2.alloc (.cells #[.int .i64 u, .int .i64 (q : Int)] 40)) := below_then (by go_grown : Below w2.heap.size w2 _) b2 b2.size
    have hMw : w.heap.size ≤ w2.heap.size := b2.size
    have hlt2 : w.heap.size < w2.heap.size := y14
    clear hX2 b2 b1 y10 y11 y14
    obtain ⟨M, hM⟩ : ∃ M, w2.heap.size = M := ⟨_, rfl⟩
    rw [hM] at hY2 hMw hlt2 ⊢
    generalize w2.alloc (.cells #[.int .i64 u, .int .i64 (q : Int)] 40) = w3 at hY2 hX2' bN ⊢
    refine (awake_c _).mono ?_
    rintro e w4 ⟨rfl, c4⟩
    have b4 := below_then c4 bN bN.size
    have hX4 := heap_below hX2' c4
    have hY4 := heap_below hY2 c4
    clear c4 bN hX2' hY2
    obtain ⟨y10, y11, -, -, -⟩ := box2 hX4
    obtain ⟨y20, y21, y22, y23, y24⟩ := box2 hY4
    go_wp2_with fail
    refine (H5.out _).mono ?_
    rintro e w5 ⟨s5, rfl, hs5, c5⟩
    have b5 := below_then c5 b4 b4.size
    have hX5 := heap_below hX4 c5
    have hY5 := heap_below hY4 c5
    clear c5 b4 hX4 hY4 y10 y11 y20 y21 y22 y23 y24
    obtain ⟨y10, y11, -, -, -⟩ := box2 hX5
    obtain ⟨y20, y21, y22, y23, y24⟩ := box2 hY5
    rw [HGF.out]
    rcases marks_two (p := (pt.toNat : Int)) (g := (gr.toNat : Int)) with hm | hm
    case inr =>
      rw [hm]
      clear hm hs5
      go_wp2_with fail
      refine (H3.out _).mono ?_
      rintro e w6 ⟨s6, rfl, hs6, c6⟩
      have b6 := below_then c6 b5 b5.size
      have hX6 := heap_below hX5 c6
      have hY6 := heap_below hY5 c6
      clear c6 y10 y11 y20 y21 y22 y23 y24
      obtain ⟨y10, y11, -, -, -⟩ := box2 hX6
      obtain ⟨y20, y21, y22, y23, y24⟩ := box2 hY6
      by_cases hf : fi = 0
      case neg =>
        have hf' : (fi == 0) = false := beq_eq_false_iff_ne.2 hf
        clear hs6
        go_wp2
        go_ret
        exact ⟨rfl, by first | exact b6 | go_grown⟩
      have hbb := HBB.out hf
      have hfi := HFI.out
      subst hf
      rw [show impR u (q : Int) a b = impS u (q : Int) a b from if_pos hfi] at hs6
      obtain ⟨hlen, x, hx⟩ := HIB.out hfi
      rw [← hs6] at hlen hx
      have hl6 : s6.data.toList.length = s6.size := by simp
      rw [hl6] at hlen
      have HRI := Lib.hid (fun w => wreadimp_c s6 a w (by omega))
      clear hs6 hfi hl6
      rcases hx with hx | ⟨hx, hdx, hdu, hsc⟩
      · rw [hx] at HRI
        clear hx
        go_wp2_with fail
        refine (HRI.out _).mono ?_
        rintro e w7 ⟨rfl, c7⟩
        have b7 := below_then c7 b6 b6.size
        have hY7 := heap_below hY6 c7
        clear c7 y20 y21 y22 y23 y24 y10 y11
        obtain ⟨y20, y21, y22, y23, y24⟩ := box2 hY7
        go_wp2
        go_ret
        exact ⟨rfl, by go_grown⟩
      · rw [hx] at HRI
        have HCM := Lib.hid (fun w => cmp_ok x a u (q : Int) w hdx hdu)
        rw [hsc] at HCM
        clear hx hdx hdu hsc
        go_wp2_with fail
        refine (HRI.out _).mono ?_
        rintro e w7 ⟨rfl, c7⟩
        have b7 := below_then c7 b6 b6.size
        have hX7 := heap_below hX6 c7
        have hY7 := heap_below hY6 c7
        clear c7 y20 y21 y22 y23 y24 y10 y11
        obtain ⟨y10, y11, -, -, -⟩ := box2 hX7
        obtain ⟨y20, y21, y22, y23, y24⟩ := box2 hY7
        have hXs := heap_far (heap_far hX7 (p := ⟨M, 0, none⟩) (by show w.heap.size ≠ M; omega) (.int .i64 x)) (p := ⟨M, 1, none⟩) (by show w.heap.size ≠ M; omega) (.int .i64 a)
        obtain ⟨z0, z1, -, -, -⟩ := box2 hXs
        have hb8 : Below w.heap.size w ((w7.setCell ⟨M, 0, none⟩ (.int .i64 x)).setCell ⟨M, 1, none⟩ (.int .i64 a)) := (b7.setCell (p := ⟨M, 0, none⟩) hMw _).setCell (p := ⟨M, 1, none⟩) hMw _
        go_wp2_with fail
        refine (HCM.out _).mono ?_
        rintro e w8 ⟨rfl, c8⟩
        have b9 := below_then c8 hb8 hb8.size
        have hbz : b = (s6.size : Int) := hlen.symm
        subst hbz
        go_wp2
        go_ret
        exact ⟨by simp, by first | exact b9 | go_grown⟩
    case inl =>
      have hgd : grpdR u (q : Int) pt gr = grpdL u q pt gr := if_pos (by rw [HGF.out, hm])
      rw [hgd] at hs5
      have hs5s : s5.size ≤ 1000 := by
        have h1 : s5.data.toList.length = s5.size := by simp
        rw [← h1, hs5]
        unfold grpdL
        simp only [List.length_append]
        have h2 : (sgL u).length ≤ 1 := by unfold sgL; split <;> simp
        have h3 := grp_len gr (befL u q)
        have h4 := HBF.out
        split
        · simp; omega
        · simp; omega
      have HRR := Lib.hid (fun w => wreadgrp_c s5 pt gr w (by omega))
      rw [show readGrpM s5.data.toList pt gr = (u, (q : Int), 0) by unfold readGrpM; rw [if_pos hm, hs5]; exact HRG.out hm] at HRR
      rw [hm]
      clear hm hs5 hgd
      go_wp2_with fail
      refine (HRR.out _).mono ?_
      rintro e w5b ⟨rfl, c5⟩
      have b5b := below_then c5 b5 b5.size
      have hX5b := heap_below hX5 c5
      have hY5b := heap_below hY5 c5
      clear c5 y10 y11 y20 y21 y22 y23 y24 b5
      have hX5c := heap_old hX5b (.cells #[.int .i64 u, .int .i64 (q : Int)] 40)
      have hY5c := heap_old hY5b (.cells #[.int .i64 u, .int .i64 (q : Int)] 40)
      have hN5c := heap_new w5b (.cells #[.int .i64 u, .int .i64 (q : Int)] 40) rfl
      have b5c : Below w.heap.size w (w5b.alloc (.cells #[.int .i64 u, .int .i64 (q : Int)] 40)) := below_then (by go_grown : Below w5b.heap.size w5b _) b5b b5b.size
      obtain ⟨y10, y11, -, -, -⟩ := box2 hX5c
      obtain ⟨y20, y21, y22, y23, y24⟩ := box2 hY5c
      obtain ⟨n0, n1, -, -, -⟩ := box2 hN5c
      go_wp2_with fail
      refine (H3.out _).mono ?_
      rintro e w6 ⟨s6, rfl, hs6, c6⟩
      have b6 := below_then c6 b5c b5c.size
      have hX6 := heap_below hX5c c6
      have hY6 := heap_below hY5c c6
      clear c6 y10 y11 y20 y21 y22 y23 y24
      obtain ⟨y10, y11, -, -, -⟩ := box2 hX6
      obtain ⟨y20, y21, y22, y23, y24⟩ := box2 hY6
      by_cases hf : fi = 0
      case neg =>
        have hf' : (fi == 0) = false := beq_eq_false_iff_ne.2 hf
        clear hs6
        go_wp2
        go_ret
        exact ⟨rfl, by first | exact b6 | go_grown⟩
      have hbb := HBB.out hf
      have hfi := HFI.out
      subst hf
      rw [show impR u (q : Int) a b = impS u (q : Int) a b from if_pos hfi] at hs6
      obtain ⟨hlen, x, hx⟩ := HIB.out hfi
      rw [← hs6] at hlen hx
      have hl6 : s6.data.toList.length = s6.size := by simp
      rw [hl6] at hlen
      have HRI := Lib.hid (fun w => wreadimp_c s6 a w (by omega))
      clear hs6 hfi hl6
      rcases hx with hx | ⟨hx, hdx, hdu, hsc⟩
      · rw [hx] at HRI
        clear hx
        go_wp2_with fail
        refine (HRI.out _).mono ?_
        rintro e w7 ⟨rfl, c7⟩
        have b7 := below_then c7 b6 b6.size
        have hY7 := heap_below hY6 c7
        clear c7 y20 y21 y22 y23 y24 y10 y11
        obtain ⟨y20, y21, y22, y23, y24⟩ := box2 hY7
        go_wp2
        go_ret
        exact ⟨rfl, by go_grown⟩
      · rw [hx] at HRI
        have HCM := Lib.hid (fun w => cmp_ok x a u (q : Int) w hdx hdu)
        rw [hsc] at HCM
        clear hx hdx hdu hsc
        go_wp2_with fail
        refine (HRI.out _).mono ?_
        rintro e w7 ⟨rfl, c7⟩
        have b7 := below_then c7 b6 b6.size
        have hX7 := heap_below hX6 c7
        have hY7 := heap_below hY6 c7
        clear c7 y20 y21 y22 y23 y24 y10 y11
        obtain ⟨y10, y11, -, -, -⟩ := box2 hX7
        obtain ⟨y20, y21, y22, y23, y24⟩ := box2 hY7
        have hXs := heap_far (heap_far hX7 (p := ⟨M, 0, none⟩) (by show w.heap.size ≠ M; omega) (.int .i64 x)) (p := ⟨M, 1, none⟩) (by show w.heap.size ≠ M; omega) (.int .i64 a)
        obtain ⟨z0, z1, -, -, -⟩ := box2 hXs
        have hb8 : Below w.heap.size w ((w7.setCell ⟨M, 0, none⟩ (.int .i64 x)).setCell ⟨M, 1, none⟩ (.int .i64 a)) := (b7.setCell (p := ⟨M, 0, none⟩) hMw _).setCell (p := ⟨M, 1, none⟩) hMw _
        go_wp2_with fail
        refine (HCM.out _).mono ?_
        rintro e w8 ⟨rfl, c8⟩
        have b9 := below_then c8 hb8 hb8.size
        have hbz : b = (s6.size : Int) := hlen.symm
        subst hbz
        go_wp2
        go_ret
        exact ⟨by simp, by first | exact b9 | go_grown⟩
theorem law_back_i (u p a b x y : Int) (w : World) (ha : -9223372036854775808 ≤ a ∧ a ≤ 9223372036854775807) (hb : -9223372036854775808 ≤ b ∧ b ≤ 9223372036854775807) (hx : 0 ≤ x ∧ x ≤ 255) (hy : 0 ≤ y ∧ y ≤ 255) :
    Calls Tryd.prog 5 #[.agg #[.int .i64 u, .int .i64 p], .int .i64 a, .int .i64 b, .int .u8 x, .int .u8 y] w fun e w' => e = .returned (.bool true) ∧ Below w.heap.size w w' := by
  have h := law_back u p a b (UInt8.ofNat x.toNat) (UInt8.ofNat y.toNat) w ha hb
  rw [u8_ge _ (by omega), u8_ge _ (by omega), show ((x.toNat : Nat) : Int) = x by omega, show ((y.toNat : Nat) : Int) = y by omega] at h
  exact h
end Go.Proofs.YtegobkaldedhhaaDoor
