
/- The walk of amount.ReadGrouped. -/
import Derived.Test.YtmeefinnefanpaaDoorT6
import Derived.Test.YtmeefinnefanpaaDoorT12
import Derived.Test.YtmeefinnefanpaaDoorM2
namespace Go.Proofs.YtmeefinnefanpaaDoor
open Go.RowKit Limb
set_option linter.unusedVariables false
set_option linter.unusedSimpArgs false

/-- ReadGrouped in plain lists, the marks being right. -/
def readGrp (l : List UInt8) (pt gr : UInt8) : Int × Int × Int :=
  let neg := l.head? == some 45
  let rest := if neg then l.tail else l
  let c := cutL rest pt
  if decide (40 < l.length) || !wholeB (strike c.1 gr) || !decide (grp gr (strike c.1 gr) = c.1) || (c.2.2 && (!digB c.2.1 || decide (9 < c.2.1.length))) then (0, 0, 10) else readR neg (strike c.1 gr ++ c.2.1) c.2.1.length
def readGrpM (l : List UInt8) (pt gr : UInt8) : Int × Int × Int := if marksF (pt.toNat : Int) (gr.toNat : Int) = 0 then readGrp l pt gr else (0, 0, 12)
theorem strike_len (l : List UInt8) (c : UInt8) : (strike l c).length ≤ l.length := List.length_filter_le _ _

set_option maxHeartbeats 4000000 in
set_option maxRecDepth 100000 in
theorem wreadgrp_c (s : ByteArray) (pt gr : UInt8) (w : World) (hs : s.size ≤ 140737488355328) :
    Calls Tryd.prog 8 #[.string s, .int .u8 (pt.toNat : Int), .int .u8 (gr.toNat : Int)] w (RetD (readGrpM s.data.toList pt gr) w) := by
  have hpt := pt.toNat_lt
  have hgt := gr.toNat_lt
  have HMK := Lib.hid (fun w => marks_c (pt.toNat : Int) (gr.toNat : Int) w (by omega) (by omega))
  rcases marks_two (p := (pt.toNat : Int)) (g := (gr.toNat : Int)) with hm | hm
  case inr =>
    rw [show readGrpM s.data.toList pt gr = (0, 0, 12) from if_neg (by rw [hm]; decide)]
    rw [hm] at HMK
    clear hm
    go_enter Tryd.func8, Tryd.ntmps8
    go_wp2_with fail
    have hX := heap_new w (.cells #[.int .i64 0, .int .i64 0] 23) rfl
    have hb0 : Below w.heap.size w (w.alloc (.cells #[.int .i64 0, .int .i64 0] 23)) := by go_grown
    generalize w.alloc (.cells #[.int .i64 0, .int .i64 0] 23) = W at hX hb0 ⊢
    obtain ⟨g0, g1, g2, g3, g4⟩ := box2 hX
    refine (HMK.out _).mono ?_
    rintro e w1 ⟨rfl, rfl⟩
    go_wp2
    exact bodyPost_ret (v := .tuple #[.agg #[.int .i64 0, .int .i64 0], .int .i64 12]) (by simp [results, Tryd.results8, go_sem, g0, g1]) rfl ⟨rfl, by go_grown⟩
  obtain ⟨hp128, hg128, -⟩ := marks_ok hm
  rw [show readGrpM s.data.toList pt gr = readGrp s.data.toList pt gr from if_pos hm]
  rw [hm] at HMK
  clear hm
  have hsl : s.data.toList.length = s.size := by simp
  have HC := Lib.hid (fun w => cutp_c s 45 w (by omega))
  have hup := run_byte hp128
  have hug := run_byte hg128
  go_enter Tryd.func8, Tryd.ntmps8
  go_wp2_with fail
  have hX := heap_new w (.cells #[.int .i64 0, .int .i64 0] 23) rfl
  have hb0 : Below w.heap.size w (w.alloc (.cells #[.int .i64 0, .int .i64 0] 23)) := by go_grown
  generalize w.alloc (.cells #[.int .i64 0, .int .i64 0] 23) = W at hX hb0 ⊢
  obtain ⟨g0, g1, g2, g3, g4⟩ := box2 hX
  refine (HMK.out _).mono ?_
  rintro e w1 ⟨rfl, rfl⟩
  go_wp2_with fail
  refine (HC.out _).mono ?_
  rintro e w2 ⟨rfl, t, rfl, ht⟩
  have htl : t.size ≤ s.size := by
    have h1 : t.data.toList.length = t.size := by simp
    rw [← h1, ht, ← hsl]
    split
    · simp
    · exact Nat.le_refl _
  have HT := Lib.hid ht; clear ht
  go_wp2_with fail
  refine (cut_c t pt _ (by omega)).mono ?_
  rintro e w3 ⟨⟨n, rfl⟩, a, b, rfl, ha, hb⟩
  have hlen := cutL_len t.data.toList pt
  have htl2 : t.data.toList.length = t.size := by simp
  rw [← ha, ← hb, htl2] at hlen
  have hal : a.data.toList.length = a.size := by simp
  have hbl : b.data.toList.length = b.size := by simp
  rw [hal, hbl] at hlen
  have hlen1 := hlen.1
  have HN := Lib.hid hlen.2
  have HA := Lib.hid ha; have HB := Lib.hid hb
  have HRA := Lib.hid (fun w => replaceAll_c a gr w (by omega))
  have hXn : (W.drewN n).heap[w.heap.size]? = some (.cells #[.int .i64 0, .int .i64 0] 23 (0, 0)) := by exact hX
  have hbn := below_drewN hb0 n
  clear ha hb hlen htl2 hal hbl hX hb0 g0 g1 g2 g3 g4
  generalize W.drewN n = W2 at hXn hbn ⊢
  go_wp2_with fail
  refine (HRA.out _).mono ?_
  rintro e w4 ⟨rfl, hb4⟩
  obtain ⟨G, hG⟩ : ∃ G : ByteArray, (⟨(strike a.data.toList gr).toArray⟩ : ByteArray) = G := ⟨_, rfl⟩
  have hGl : G.data.toList = strike a.data.toList gr := by rw [← hG]
  have hGs : G.size ≤ a.size := by
    have h1 : G.data.toList.length = G.size := by simp
    have h2 : a.data.toList.length = a.size := by simp
    have h3 := strike_len a.data.toList gr
    rw [← h1, hGl]; omega
  rw [hG]
  have hX4 := heap_below hXn hb4
  have hB4 := below_then hb4 hbn hbn.size
  have hz4 := hB4.size
  have HG := Lib.hid hGl
  clear hXn hbn hb4 hG hGl
  obtain ⟨g0, g1, g2, g3, g4⟩ := box2 hX4
  have hfin : readGrp s.data.toList pt gr = if decide (40 < s.size) || !wholeB G.data.toList || !decide (grp gr G.data.toList = a.data.toList) || ((cutL t.data.toList pt).2.2 && (!digB b.data.toList || decide (9 < b.size))) then (0, 0, 10) else readR (hasB s 45) (G.data.toList ++ b.data.toList) b.size := by
    unfold readGrp
    simp only
    have h2 : (if (s.data.toList.head? == some 45) = true then s.data.toList.tail else s.data.toList) = t.data.toList := HT.out.symm
    have h4 : b.data.toList.length = b.size := by simp
    rw [h2, ← HA.out, ← HB.out, HG.out, hsl, h4]
    rfl
  have HF := Lib.hid hfin; clear hfin hsl
  obtain ⟨neg, hneg⟩ : ∃ x, hasB s 45 = x := ⟨_, rfl⟩
  rw [hneg] at HF ⊢
  clear hneg
  obtain ⟨has, hhas⟩ : ∃ x, (cutL t.data.toList pt).2.2 = x := ⟨_, rfl⟩
  rw [hhas] at HF HN ⊢
  clear hhas
  by_cases h1 : 40 < s.size
  · have h1' : (40 : Int) < (s.size : Int) := by omega
    have HE := Lib.hid (show readGrp s.data.toList pt gr = (0, 0, 10) by rw [HF.out]; simp [h1])
    clear h1
    go_wp2
    exact bodyPost_ret (v := .tuple #[.agg #[.int .i64 0, .int .i64 0], .int .i64 10]) (by simp [results, Tryd.results8, go_sem, g0, g1]) rfl (RetD.of (r := (0, 0, 10)) ⟨rfl, by go_grown⟩ HE.out.symm)
  have h1' : ¬ (40 : Int) < (s.size : Int) := by omega
  have HW := Lib.hid (fun w => iswhole_c G w (by omega))
  cases hw : wholeB G.data.toList with
  | false =>
    rw [hw] at HW
    have HE := Lib.hid (show readGrp s.data.toList pt gr = (0, 0, 10) by rw [HF.out, hw]; simp)
    clear hw h1
    go_wp2_with fail
    refine (HW.out _).mono ?_
    rintro e w5 ⟨rfl, rfl⟩
    go_wp2
    exact bodyPost_ret (v := .tuple #[.agg #[.int .i64 0, .int .i64 0], .int .i64 10]) (by simp [results, Tryd.results8, go_sem, g0, g1]) rfl (RetD.of (r := (0, 0, 10)) ⟨rfl, by go_grown⟩ HE.out.symm)
  | true =>
  rw [hw] at HW
  have hdg : digB G.data.toList = true := by unfold wholeB at hw; cases h : digB G.data.toList with | true => rfl | false => rw [h] at hw; cases hw
  have hig : inB G.data.toList 48 57 = true := by unfold digB at hdg; cases h : inB G.data.toList 48 57 with | true => rfl | false => rw [h] at hdg; simp at hdg
  have HI := Lib.hid hig; have HWT := Lib.hid hw
  have HGC := Lib.hid (fun w => grouped_c G gr w hg128 (by omega))
  clear hw hdg hig
  go_wp2_with fail
  refine (HW.out _).mono ?_
  rintro e w5 ⟨rfl, rfl⟩
  go_wp2_with fail
  refine (HGC.out _).mono ?_
  rintro e w6 ⟨X, rfl, hX, hb6⟩
  have hX6 := heap_below hX4 hb6
  have hB6 := below_then hb6 hB4 hz4
  have hz6 := hB6.size
  clear hX4 hB4 hb6 g0 g1 g2 g3 g4
  obtain ⟨g0, g1, g2, g3, g4⟩ := box2 hX6
  by_cases hxa : X = a
  case neg =>
    have hne : ¬ grp gr G.data.toList = a.data.toList := fun h => hxa (by apply ByteArray.ext; apply Array.ext'; rw [hX, h])
    have HE := Lib.hid (show readGrp s.data.toList pt gr = (0, 0, 10) by rw [HF.out, decide_eq_false hne]; simp)
    have n1 : (X.toList == a.toList) = false := (Lib.bytes_beq_false_iff _ _).2 hxa
    clear hX hne h1
    go_wp2
    exact bodyPost_ret (v := .tuple #[.agg #[.int .i64 0, .int .i64 0], .int .i64 10]) (by simp [results, Tryd.results8, go_sem, g0, g1]) rfl (RetD.of (r := (0, 0, 10)) ⟨rfl, by go_grown⟩ HE.out.symm)
  subst hxa
  have HX := Lib.hid hX
  clear hX
  have HD := Lib.hid (fun w => isdig_c b w (by omega))
  cases has with
  | false =>
    have hb0 := HN.out rfl
    have hbz : b.size = 0 := by
      have : b.data.toList.length = b.size := by simp
      rw [← this, hb0]; rfl
    have HRD := Lib.hid (fun w => read_c neg G b w (by rw [hb0, List.append_nil]; exact HI.out) (by omega))
    have hE : readGrp s.data.toList pt gr = readR neg (G.data.toList ++ b.data.toList) b.size := by rw [HF.out, HWT.out, decide_eq_true HX.out.symm, decide_eq_false h1]; rfl
    rw [← hE] at HRD
    clear hE hb0 hbz h1
    go_wp2_with fail
    refine (HRD.out _).mono ?_
    rintro e w7 ⟨rfl, hb7⟩
    have hX7 := heap_below hX6 hb7
    have hB7 := below_then hb7 hB6 hz6
    clear g0 g1 g2 g3 g4 hX6 hB6 hb7
    obtain ⟨g0, g1, g2, g3, g4⟩ := box2 hX7
    obtain ⟨R, hR⟩ : ∃ R, readGrp s.data.toList pt gr = R := ⟨_, rfl⟩
    have HE := Lib.hid hR
    rw [hR]
    clear HF HRD hR
    obtain ⟨R1, R2, R3⟩ := R
    go_wp2
    exact bodyPost_ret (v := .tuple #[.agg #[.int .i64 R1, .int .i64 R2], .int .i64 R3]) (by simp [results, Tryd.results8, go_sem, g0, g1]) rfl (RetD.of (r := (R1, R2, R3)) ⟨rfl, by go_grown⟩ HE.out.symm)
  | true =>
  cases hg : digB b.data.toList with
  | false =>
    rw [hg] at HD
    have HE := Lib.hid (show readGrp s.data.toList pt gr = (0, 0, 10) by rw [HF.out, hg]; simp)
    clear hg h1
    go_wp2_with fail
    refine (HD.out _).mono ?_
    rintro e w7 ⟨rfl, rfl⟩
    go_wp2
    exact bodyPost_ret (v := .tuple #[.agg #[.int .i64 0, .int .i64 0], .int .i64 10]) (by simp [results, Tryd.results8, go_sem, g0, g1]) rfl (RetD.of (r := (0, 0, 10)) ⟨rfl, by go_grown⟩ HE.out.symm)
  | true =>
  rw [hg] at HD
  by_cases h9 : 9 < b.size
  · have h9' : (9 : Int) < (b.size : Int) := by omega
    have HE := Lib.hid (show readGrp s.data.toList pt gr = (0, 0, 10) by rw [HF.out, decide_eq_true h9]; simp)
    clear hg h1 h9
    go_wp2_with fail
    refine (HD.out _).mono ?_
    rintro e w7 ⟨rfl, rfl⟩
    go_wp2
    exact bodyPost_ret (v := .tuple #[.agg #[.int .i64 0, .int .i64 0], .int .i64 10]) (by simp [results, Tryd.results8, go_sem, g0, g1]) rfl (RetD.of (r := (0, 0, 10)) ⟨rfl, by go_grown⟩ HE.out.symm)
  · have h9' : ¬ (9 : Int) < (b.size : Int) := by omega
    have hib : inB b.data.toList 48 57 = true := by unfold digB at hg; cases h : inB b.data.toList 48 57 with | true => rfl | false => rw [h] at hg; simp at hg
    have HRD := Lib.hid (fun w => read_c neg G b w (by rw [inB_append, HI.out, hib]; rfl) (by omega))
    have hE : readGrp s.data.toList pt gr = readR neg (G.data.toList ++ b.data.toList) b.size := by rw [HF.out, HWT.out, hg, decide_eq_true HX.out.symm, decide_eq_false h1, decide_eq_false h9]; rfl
    rw [← hE] at HRD
    clear hE hib hg h1 h9
    go_wp2_with fail
    refine (HD.out _).mono ?_
    rintro e w7 ⟨rfl, rfl⟩
    go_wp2_with fail
    refine (HRD.out _).mono ?_
    rintro e w7 ⟨rfl, hb7⟩
    have hX7 := heap_below hX6 hb7
    have hB7 := below_then hb7 hB6 hz6
    clear g0 g1 g2 g3 g4 hX6 hB6 hb7
    obtain ⟨g0, g1, g2, g3, g4⟩ := box2 hX7
    obtain ⟨R, hR⟩ : ∃ R, readGrp s.data.toList pt gr = R := ⟨_, rfl⟩
    have HE := Lib.hid hR
    rw [hR]
    clear HF HRD hR
    obtain ⟨R1, R2, R3⟩ := R
    go_wp2
    exact bodyPost_ret (v := .tuple #[.agg #[.int .i64 R1, .int .i64 R2], .int .i64 R3]) (by simp [results, Tryd.results8, go_sem, g0, g1]) rfl (RetD.of (r := (R1, R2, R3)) ⟨rfl, by go_grown⟩ HE.out.symm)
end Go.Proofs.YtmeefinnefanpaaDoor
