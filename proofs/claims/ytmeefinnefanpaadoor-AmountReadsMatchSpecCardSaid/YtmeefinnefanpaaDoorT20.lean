
/- The walk of the reference's ReadGrouped. -/
import Derived.Test.YtmeefinnefanpaaDoorT19
namespace Go.Proofs.YtmeefinnefanpaaDoor
open Go.RowKit Limb Work Nmb
set_option linter.unusedVariables false
set_option linter.unusedSimpArgs false
set_option linter.unnecessarySimpa false

/-- The library's variable MaxLen holds a number. -/
def Len (w : World) : Prop := ∃ m, w.cell? ⟨0, 0, none⟩ = some (.int .i64 m)
theorem Len.below {w w' : World} (h : Len w) (hb : Below w.heap.size w w') : Len w' := by
  obtain ⟨m, hm⟩ := h
  have hlt : 0 < w.heap.size := by
    rcases Nat.lt_or_ge 0 w.heap.size with h | h
    · exact h
    · rw [World.cell?, Array.getElem?_eq_none (by exact h)] at hm; cases hm
  exact ⟨m, (hb.cell (p := ⟨0, 0, none⟩) hlt).trans hm⟩
theorem idx_has (l : List UInt8) (c : UInt8) : (0 ≤ Lib.indexByte l c ∧ decide (c ∈ l) = true) ∨ (¬ 0 ≤ Lib.indexByte l c ∧ decide (c ∈ l) = false) := by
  rcases idx_cases c l with ⟨h1, h2⟩ | ⟨i, h1, h2, h3, h4⟩
  · exact .inr ⟨by omega, decide_eq_false h2⟩
  · exact .inl ⟨by omega, decide_eq_true (by rw [h3]; simp)⟩
theorem tstore2 {w : World} {g : Nat} {x y u v : Value} {T : TypeId} (h : w.heap[g]? = some (.cells #[x, y] T (0, 0))) : ((w.setCell ⟨g, 0, none⟩ u).setCell ⟨g, 1, none⟩ v).heap[g]? = some (.cells #[u, v] T (0, 0)) := by
  simpa using heap_set (heap_set h 0 u) 1 v
theorem ridx_c (s : ByteArray) (w : World) : Calls Tryd.prog 25 #[.string s, .int .u8 46] w fun e w' => w = w' ∧ e = .returned (.int .i64 (Lib.indexByte s.data.toList 46)) := by
  refine (Tryd.strings_IndexByte s 46 w).mono ?_
  rintro e w' h
  exact ⟨h.2.symm, h.1⟩

set_option maxHeartbeats 4000000 in
set_option maxRecDepth 100000 in
theorem rreadgrp_c (s : ByteArray) (pt gr : UInt8) (w : World) (hs : s.size ≤ 140737488355328) (hl : Len w) :
    Calls Tryd.prog 9 #[.string s, .int .u8 (pt.toNat : Int), .int .u8 (gr.toNat : Int)] w (RetD (readGrpM s.data.toList pt gr) w) := by
  have hpt := pt.toNat_lt
  have hgt := gr.toNat_lt
  have HMK := Lib.hid (fun w => rmarks_c (pt.toNat : Int) (gr.toNat : Int) w (by omega) (by omega))
  rcases marks_two (p := (pt.toNat : Int)) (g := (gr.toNat : Int)) with hm | hm
  case inr =>
    rw [show readGrpM s.data.toList pt gr = (0, 0, 12) from if_neg (by rw [hm]; decide)]
    rw [decide_eq_false (show ¬ marksF (pt.toNat : Int) (gr.toNat : Int) = 0 by rw [hm]; decide)] at HMK
    clear hm hl
    go_enter Tryd.func9, Tryd.ntmps9
    go_wp2_with fail
    have hX := heap_new w (.cells #[.int .i64 0, .int .i64 0] 23) rfl
    have hb0 : Below w.heap.size w (w.alloc (.cells #[.int .i64 0, .int .i64 0] 23)) := by go_grown
    generalize w.alloc (.cells #[.int .i64 0, .int .i64 0] 23) = W at hX hb0 ⊢
    refine (HMK.out _).mono ?_
    rintro e w1 ⟨rfl, hb1⟩
    have hX1 := heap_below hX hb1
    have hB1 := below_then hb1 hb0 hb0.size
    clear hX hb0 hb1
    obtain ⟨g0, g1, g2, g3, g4⟩ := box2 hX1
    go_wp2
    exact bodyPost_ret (v := .tuple #[.agg #[.int .i64 0, .int .i64 0], .int .i64 12]) (by simp [results, Tryd.results9, go_sem, g0, g1]) rfl ⟨rfl, by go_grown⟩
  obtain ⟨hp128, hg128, hpg⟩ := marks_ok hm
  rw [show readGrpM s.data.toList pt gr = readGrp s.data.toList pt gr from if_pos hm, ← refGrp_eq hm]
  rw [decide_eq_true hm] at HMK
  have hsl : s.data.toList.length = s.size := by simp
  have HUP := Lib.hid (run_r8 (g := pt)); have HEP := Lib.hid (run_e8 hp128)
  have HUG := Lib.hid (run_r8 (g := gr)); have HEG := Lib.hid (run_e8 hg128)
  have HL := Lib.hid hl
  clear hm hl
  go_enter Tryd.func9, Tryd.ntmps9
  go_wp2_with fail
  have hX := heap_new w (.cells #[.int .i64 0, .int .i64 0] 23) rfl
  have hb0 : Below w.heap.size w (w.alloc (.cells #[.int .i64 0, .int .i64 0] 23)) := by go_grown
  generalize w.alloc (.cells #[.int .i64 0, .int .i64 0] 23) = W at hX hb0 ⊢
  refine (HMK.out _).mono ?_
  rintro e w1 ⟨rfl, hb1⟩
  have hX1 := heap_below hX hb1
  have hB1 := below_then hb1 hb0 hb0.size
  clear hX hb0 hb1
  have p8 := HUP.out; have pe := HEP.out
  go_wp2_with fail
  refine (cut_c s pt _ (by omega)).mono ?_
  rintro e w3 ⟨⟨n, rfl⟩, a, b, rfl, ha, hb⟩
  clear p8 pe
  have hlen := cutL_len s.data.toList pt
  rw [← ha, ← hb, hsl] at hlen
  have hal : a.data.toList.length = a.size := by simp
  have hbl : b.data.toList.length = b.size := by simp
  rw [hal, hbl] at hlen
  have hlen1 := hlen.1
  have HN := Lib.hid hlen.2
  have HA := Lib.hid ha; have HB := Lib.hid hb
  have HRA := Lib.hid (fun w => replaceAll_c a gr w (by omega))
  have hXn : (w1.drewN n).heap[w.heap.size]? = some (.cells #[.int .i64 0, .int .i64 0] 23 (0, 0)) := by exact hX1
  have hbn := below_drewN hB1 n
  clear ha hb hlen hal hbl hX1 hB1
  generalize w1.drewN n = W2 at hXn hbn ⊢
  have p8 := HUG.out; have pe := HEG.out
  go_wp2_with fail
  refine (HRA.out _).mono ?_
  rintro e w4 ⟨rfl, hb4⟩
  clear p8 pe
  obtain ⟨G, hG⟩ : ∃ G : ByteArray, (⟨(strike a.data.toList gr).toArray⟩ : ByteArray) = G := ⟨_, rfl⟩
  have hGl : G.data.toList = strike a.data.toList gr := by rw [← hG]
  have hGs : G.size ≤ a.size := by
    have h1 : G.data.toList.length = G.size := by simp
    have h2 : a.data.toList.length = a.size := by simp
    have h3 := strike_len a.data.toList gr
    rw [← h1, hGl]; omega
  rw [hG]
  have hX4 := heap_below hXn hb4
  have hB4 := below_then hb4 hbn hbn.size
  have hz4 := hB4.size
  have HG := Lib.hid hGl
  clear hXn hbn hb4 hG hGl
  obtain ⟨g0, g1, g2, g3, g4⟩ := box2 hX4
  obtain ⟨has, hhas⟩ : ∃ x, (cutL s.data.toList pt).2.2 = x := ⟨_, rfl⟩
  have hfin : refGrp s.data.toList pt gr = if decide (40 < s.size) || (decide ((46 : UInt8) ∈ a.data.toList) && decide (gr ≠ 46)) || (decide (pt ≠ 46) && decide ((46 : UInt8) ∈ b.data.toList)) then (0, 0, 10)
      else if (readText (strike a.data.toList gr ++ dotTl has b.data.toList)).2.2 = 10 then (0, 0, 10)
      else if regB (pcs gr (noSign a.data.toList)) then readText (strike a.data.toList gr ++ dotTl has b.data.toList) else (0, 0, 10) := by
    unfold refGrp
    simp only
    rw [← HA.out, ← HB.out, hsl, hhas]
  have HF := Lib.hid hfin
  rw [hhas] at HN ⊢
  clear hfin hhas hsl
  have HIA := Lib.hid (fun w => ridx_c a w)
  have HIB := Lib.hid (fun w => ridx_c b w)
  obtain ⟨ia, hia⟩ : ∃ x, Lib.indexByte a.data.toList 46 = x := ⟨_, rfl⟩
  obtain ⟨ib, hib⟩ : ∃ x, Lib.indexByte b.data.toList 46 = x := ⟨_, rfl⟩
  have qa := idx_has a.data.toList 46
  have qb := idx_has b.data.toList 46
  rw [hia] at qa HIA
  rw [hib] at qb HIB
  have hg46 : (gr = 46 ∧ ((gr.toNat : Int) != 46) = false) ∨ (gr ≠ 46 ∧ ((gr.toNat : Int) != 46) = true) := by
    by_cases h : gr = 46
    · exact .inl ⟨h, by subst h; rfl⟩
    · exact .inr ⟨h, by simp; intro e; exact h (UInt8.toNat_inj.1 (by simpa using (by omega : gr.toNat = 46)))⟩
  have hp46 : (pt = 46 ∧ ((pt.toNat : Int) != 46) = false) ∨ (pt ≠ 46 ∧ ((pt.toNat : Int) != 46) = true) := by
    by_cases h : pt = 46
    · exact .inl ⟨h, by subst h; rfl⟩
    · exact .inr ⟨h, by simp; intro e; exact h (UInt8.toNat_inj.1 (by simpa using (by omega : pt.toNat = 46)))⟩
  have HPG := Lib.hid hpg
  clear hpg hia hib
  cases has with
  | true =>
    obtain ⟨X, hXe⟩ : ∃ X : ByteArray, X = G ++ ((⟨#[46]⟩ : ByteArray) ++ b) := ⟨_, rfl⟩
    have hXd : X.data.toList = strike a.data.toList gr ++ dotTl true b.data.toList := by rw [hXe]; simp [HG.out, dotTl]
    have hXs : X.size ≤ 9223372036854775807 := by rw [hXe]; first | omega | (simp [ByteArray.size_append]; first | omega | (show _ + (1 + _) ≤ _; omega))
    have k1 : ¬ 9223372036854775807 < 1 + b.size := by omega
    have k2 : ¬ 9223372036854775807 < G.size + (1 + b.size) := by omega
    have HRT := Lib.hid (fun w => rreadtext_c X w hXs)
    rw [hXd, hXe] at HRT
    clear hXd hXs hXe
    by_cases h40 : 40 < s.size
    · have h40' : (40 : Int) < (s.size : Int) := by omega
      have HE := Lib.hid (show refGrp s.data.toList pt gr = (0, 0, 10) by rw [HF.out]; rw [decide_eq_true h40]; rfl)
      clear HF
      go_wp2
      exact bodyPost_ret (v := .tuple #[.agg #[.int .i64 0, .int .i64 0], .int .i64 10]) (by simp [results, Tryd.results9, go_sem, g0, g1]) rfl (RetD.of (r := (0, 0, 10)) ⟨rfl, by go_grown⟩ HE.out.symm)
    have h40' : ¬ (40 : Int) < (s.size : Int) := by omega
    rcases qa with ⟨qa, qa2⟩ | ⟨qa, qa2⟩
    · rcases hg46 with ⟨hge, hg⟩ | ⟨hge, hg⟩
      · rcases hp46 with ⟨hpe, hp⟩ | ⟨hpe, hp⟩
        · exact absurd (hpe.trans hge.symm) HPG.out
        · rcases qb with ⟨qb, qb2⟩ | ⟨qb, qb2⟩
          · have HE := Lib.hid (show refGrp s.data.toList pt gr = (0, 0, 10) by rw [HF.out]; rw [decide_eq_false h40, qa2, qb2, decide_eq_true hpe]; simp)
            clear HF hge hpe qa2 qb2
            go_wp2_with fail
            refine (HIA.out _).mono ?_
            rintro e w5 ⟨rfl, rfl⟩
            go_wp2_with fail
            refine (HIB.out _).mono ?_
            rintro e w5 ⟨rfl, rfl⟩
            go_wp2
            exact bodyPost_ret (v := .tuple #[.agg #[.int .i64 0, .int .i64 0], .int .i64 10]) (by simp [results, Tryd.results9, go_sem, g0, g1]) rfl (RetD.of (r := (0, 0, 10)) ⟨rfl, by go_grown⟩ HE.out.symm)
          · have HC := Lib.hid (show refGrp s.data.toList pt gr = (if (readText (strike a.data.toList gr ++ dotTl true b.data.toList)).2.2 = 10 then (0, 0, 10) else if regB (pcs gr (noSign a.data.toList)) then readText (strike a.data.toList gr ++ dotTl true b.data.toList) else (0, 0, 10)) by rw [HF.out]; rw [decide_eq_false h40, qa2, qb2, decide_eq_false (show ¬ gr ≠ 46 from fun h => h hge)]; simp)
            have has : a.size ≤ 40 := by omega
            clear HF hge hpe qa2 qb2
            obtain ⟨⟨R1, R2, R3⟩, hR⟩ : ∃ x, readText (strike a.data.toList gr ++ dotTl true b.data.toList) = x := ⟨_, rfl⟩
            have HCR := HC.out
            rw [hR] at HCR HRT
            have HC2 := Lib.hid HCR
            clear HC HCR hR
            go_wp2_with fail
            refine (HIA.out _).mono ?_
            rintro e w5 ⟨rfl, rfl⟩
            go_wp2_with fail
            refine (HIB.out _).mono ?_
            rintro e w5 ⟨rfl, rfl⟩
            go_wp2_with fail
            refine (HRT.out _).mono ?_
            rintro e w6 ⟨rfl, hb6⟩
            have hX6 := heap_below hX4 hb6
            have hB6 := below_then hb6 hB4 hz4
            have hz6 := hB6.size
            have hL6 := HL.out.below hB6
            clear g0 g1 g2 g3 g4 hb6 hX4 hB4 hz4
            obtain ⟨g0, g1, g2, g3, g4⟩ := box2 hX6
            by_cases h10 : R3 = 10
            · subst h10
              have HE := Lib.hid (show refGrp s.data.toList pt gr = (0, 0, 10) by rw [HC2.out]; rfl)
              have hZ := heap_old (tstore2 hX6 (u := .int .i64 0) (v := .int .i64 0)) (.cells #[.int .i64 R1, .int .i64 R2] 23)
              obtain ⟨z0, z1, -, -, -⟩ := box2 hZ
              have ZZ := Lib.hid (And.intro z0 z1)
              clear hZ z0 z1
              go_wp2
              exact bodyPost_ret (v := .tuple #[.agg #[.int .i64 0, .int .i64 0], .int .i64 10]) (by simp [results, Tryd.results9, go_sem, ZZ.out.1, ZZ.out.2]) rfl (RetD.of (r := (0, 0, 10)) ⟨rfl, by go_grown⟩ HE.out.symm)
            have h10' : (R3 == 10) = false := beq_eq_false_iff_ne.2 h10
            have HC3 := Lib.hid (show refGrp s.data.toList pt gr = if regB (pcs gr (noSign a.data.toList)) then (R1, R2, R3) else (0, 0, 10) by rw [HC2.out, if_neg (by exact h10)])
            clear h10 HC2
            go_wp2_with fail
            have hY7 := heap_new w6 (.cells #[.int .i64 R1, .int .i64 R2] 23) rfl
            have hX7 := heap_old hX6 (.cells #[.int .i64 R1, .int .i64 R2] 23)
            have bN : Below w.heap.size w (w6.alloc (.cells #[.int .i64 R1, .int .i64 R2] 23)) := below_then (by go_grown : Below w6.heap.size w6 _) hB6 hz6
            have hL7 := hL6.below (by go_grown : Below w6.heap.size w6 (w6.alloc (.cells #[.int .i64 R1, .int .i64 R2] 23)))
            clear hX6 hB6 g0 g1 g2 g3 g4 hL6
            obtain ⟨m, hm⟩ := hL7
            generalize w6.alloc (.cells #[.int .i64 R1, .int .i64 R2] 23) = w7 at hY7 hX7 bN hm ⊢
            refine (rregrp_c a gr m _ (by omega) hg128 hm).mono ?_
            rintro e w8 ⟨rfl, c8⟩
            have b8 := below_then c8 bN bN.size
            have hX8 := heap_below hX7 c8
            have hY8 := heap_below hY7 c8
            clear hX7 hY7 c8 bN hm
            obtain ⟨g0, g1, g2, g3, g4⟩ := box2 hX8
            obtain ⟨y0, y1, y2, y3, y4⟩ := box2 hY8
            cases hr : regB (pcs gr (noSign a.data.toList)) with
            | false =>
              have HE := Lib.hid (show refGrp s.data.toList pt gr = (0, 0, 10) by rw [HC3.out, hr]; rfl)
              clear hr HC3
              go_wp2
              exact bodyPost_ret (v := .tuple #[.agg #[.int .i64 0, .int .i64 0], .int .i64 10]) (by simp [results, Tryd.results9, go_sem, g0, g1]) rfl (RetD.of (r := (0, 0, 10)) ⟨rfl, by go_grown⟩ HE.out.symm)
            | true =>
              have HE := Lib.hid (show refGrp s.data.toList pt gr = (R1, R2, R3) by rw [HC3.out, hr]; rfl)
              clear hr HC3
              go_wp2
              exact bodyPost_ret (v := .tuple #[.agg #[.int .i64 R1, .int .i64 R2], .int .i64 R3]) (by simp [results, Tryd.results9, go_sem, g0, g1]) rfl (RetD.of (r := (R1, R2, R3)) ⟨rfl, by go_grown⟩ HE.out.symm)
      · have HE := Lib.hid (show refGrp s.data.toList pt gr = (0, 0, 10) by rw [HF.out]; rw [decide_eq_false h40, qa2, decide_eq_true hge]; simp)
        clear HF hge qa2
        go_wp2_with fail
        refine (HIA.out _).mono ?_
        rintro e w5 ⟨rfl, rfl⟩
        go_wp2
        exact bodyPost_ret (v := .tuple #[.agg #[.int .i64 0, .int .i64 0], .int .i64 10]) (by simp [results, Tryd.results9, go_sem, g0, g1]) rfl (RetD.of (r := (0, 0, 10)) ⟨rfl, by go_grown⟩ HE.out.symm)
    · rcases hp46 with ⟨hpe, hp⟩ | ⟨hpe, hp⟩
      · have HC := Lib.hid (show refGrp s.data.toList pt gr = (if (readText (strike a.data.toList gr ++ dotTl true b.data.toList)).2.2 = 10 then (0, 0, 10) else if regB (pcs gr (noSign a.data.toList)) then readText (strike a.data.toList gr ++ dotTl true b.data.toList) else (0, 0, 10)) by rw [HF.out]; rw [decide_eq_false h40, qa2, decide_eq_false (show ¬ pt ≠ 46 from fun h => h hpe)]; simp)
        have has : a.size ≤ 40 := by omega
        clear HF hpe qa2
        obtain ⟨⟨R1, R2, R3⟩, hR⟩ : ∃ x, readText (strike a.data.toList gr ++ dotTl true b.data.toList) = x := ⟨_, rfl⟩
        have HCR := HC.out
        rw [hR] at HCR HRT
        have HC2 := Lib.hid HCR
        clear HC HCR hR
        go_wp2_with fail
        refine (HIA.out _).mono ?_
        rintro e w5 ⟨rfl, rfl⟩
        go_wp2_with fail
        refine (HRT.out _).mono ?_
        rintro e w6 ⟨rfl, hb6⟩
        have hX6 := heap_below hX4 hb6
        have hB6 := below_then hb6 hB4 hz4
        have hz6 := hB6.size
        have hL6 := HL.out.below hB6
        clear g0 g1 g2 g3 g4 hb6 hX4 hB4 hz4
        obtain ⟨g0, g1, g2, g3, g4⟩ := box2 hX6
        by_cases h10 : R3 = 10
        · subst h10
          have HE := Lib.hid (show refGrp s.data.toList pt gr = (0, 0, 10) by rw [HC2.out]; rfl)
          have hZ := heap_old (tstore2 hX6 (u := .int .i64 0) (v := .int .i64 0)) (.cells #[.int .i64 R1, .int .i64 R2] 23)
          obtain ⟨z0, z1, -, -, -⟩ := box2 hZ
          have ZZ := Lib.hid (And.intro z0 z1)
          clear hZ z0 z1
          go_wp2
          exact bodyPost_ret (v := .tuple #[.agg #[.int .i64 0, .int .i64 0], .int .i64 10]) (by simp [results, Tryd.results9, go_sem, ZZ.out.1, ZZ.out.2]) rfl (RetD.of (r := (0, 0, 10)) ⟨rfl, by go_grown⟩ HE.out.symm)
        have h10' : (R3 == 10) = false := beq_eq_false_iff_ne.2 h10
        have HC3 := Lib.hid (show refGrp s.data.toList pt gr = if regB (pcs gr (noSign a.data.toList)) then (R1, R2, R3) else (0, 0, 10) by rw [HC2.out, if_neg (by exact h10)])
        clear h10 HC2
        go_wp2_with fail
        have hY7 := heap_new w6 (.cells #[.int .i64 R1, .int .i64 R2] 23) rfl
        have hX7 := heap_old hX6 (.cells #[.int .i64 R1, .int .i64 R2] 23)
        have bN : Below w.heap.size w (w6.alloc (.cells #[.int .i64 R1, .int .i64 R2] 23)) := below_then (by go_grown : Below w6.heap.size w6 _) hB6 hz6
        have hL7 := hL6.below (by go_grown : Below w6.heap.size w6 (w6.alloc (.cells #[.int .i64 R1, .int .i64 R2] 23)))
        clear hX6 hB6 g0 g1 g2 g3 g4 hL6
        obtain ⟨m, hm⟩ := hL7
        generalize w6.alloc (.cells #[.int .i64 R1, .int .i64 R2] 23) = w7 at hY7 hX7 bN hm ⊢
        refine (rregrp_c a gr m _ (by omega) hg128 hm).mono ?_
        rintro e w8 ⟨rfl, c8⟩
        have b8 := below_then c8 bN bN.size
        have hX8 := heap_below hX7 c8
        have hY8 := heap_below hY7 c8
        clear hX7 hY7 c8 bN hm
        obtain ⟨g0, g1, g2, g3, g4⟩ := box2 hX8
        obtain ⟨y0, y1, y2, y3, y4⟩ := box2 hY8
        cases hr : regB (pcs gr (noSign a.data.toList)) with
        | false =>
          have HE := Lib.hid (show refGrp s.data.toList pt gr = (0, 0, 10) by rw [HC3.out, hr]; rfl)
          clear hr HC3
          go_wp2
          exact bodyPost_ret (v := .tuple #[.agg #[.int .i64 0, .int .i64 0], .int .i64 10]) (by simp [results, Tryd.results9, go_sem, g0, g1]) rfl (RetD.of (r := (0, 0, 10)) ⟨rfl, by go_grown⟩ HE.out.symm)
        | true =>
          have HE := Lib.hid (show refGrp s.data.toList pt gr = (R1, R2, R3) by rw [HC3.out, hr]; rfl)
          clear hr HC3
          go_wp2
          exact bodyPost_ret (v := .tuple #[.agg #[.int .i64 R1, .int .i64 R2], .int .i64 R3]) (by simp [results, Tryd.results9, go_sem, g0, g1]) rfl (RetD.of (r := (R1, R2, R3)) ⟨rfl, by go_grown⟩ HE.out.symm)
      · rcases qb with ⟨qb, qb2⟩ | ⟨qb, qb2⟩
        · have HE := Lib.hid (show refGrp s.data.toList pt gr = (0, 0, 10) by rw [HF.out]; rw [decide_eq_false h40, qa2, qb2, decide_eq_true hpe]; simp)
          clear HF hpe qa2 qb2
          go_wp2_with fail
          refine (HIA.out _).mono ?_
          rintro e w5 ⟨rfl, rfl⟩
          go_wp2_with fail
          refine (HIB.out _).mono ?_
          rintro e w5 ⟨rfl, rfl⟩
          go_wp2
          exact bodyPost_ret (v := .tuple #[.agg #[.int .i64 0, .int .i64 0], .int .i64 10]) (by simp [results, Tryd.results9, go_sem, g0, g1]) rfl (RetD.of (r := (0, 0, 10)) ⟨rfl, by go_grown⟩ HE.out.symm)
        · have HC := Lib.hid (show refGrp s.data.toList pt gr = (if (readText (strike a.data.toList gr ++ dotTl true b.data.toList)).2.2 = 10 then (0, 0, 10) else if regB (pcs gr (noSign a.data.toList)) then readText (strike a.data.toList gr ++ dotTl true b.data.toList) else (0, 0, 10)) by rw [HF.out]; rw [decide_eq_false h40, qa2, qb2]; simp)
          have has : a.size ≤ 40 := by omega
          clear HF hpe qa2 qb2
          obtain ⟨⟨R1, R2, R3⟩, hR⟩ : ∃ x, readText (strike a.data.toList gr ++ dotTl true b.data.toList) = x := ⟨_, rfl⟩
          have HCR := HC.out
          rw [hR] at HCR HRT
          have HC2 := Lib.hid HCR
          clear HC HCR hR
          go_wp2_with fail
          refine (HIA.out _).mono ?_
          rintro e w5 ⟨rfl, rfl⟩
          go_wp2_with fail
          refine (HIB.out _).mono ?_
          rintro e w5 ⟨rfl, rfl⟩
          go_wp2_with fail
          refine (HRT.out _).mono ?_
          rintro e w6 ⟨rfl, hb6⟩
          have hX6 := heap_below hX4 hb6
          have hB6 := below_then hb6 hB4 hz4
          have hz6 := hB6.size
          have hL6 := HL.out.below hB6
          clear g0 g1 g2 g3 g4 hb6 hX4 hB4 hz4
          obtain ⟨g0, g1, g2, g3, g4⟩ := box2 hX6
          by_cases h10 : R3 = 10
          · subst h10
            have HE := Lib.hid (show refGrp s.data.toList pt gr = (0, 0, 10) by rw [HC2.out]; rfl)
            have hZ := heap_old (tstore2 hX6 (u := .int .i64 0) (v := .int .i64 0)) (.cells #[.int .i64 R1, .int .i64 R2] 23)
            obtain ⟨z0, z1, -, -, -⟩ := box2 hZ
            have ZZ := Lib.hid (And.intro z0 z1)
            clear hZ z0 z1
            go_wp2
            exact bodyPost_ret (v := .tuple #[.agg #[.int .i64 0, .int .i64 0], .int .i64 10]) (by simp [results, Tryd.results9, go_sem, ZZ.out.1, ZZ.out.2]) rfl (RetD.of (r := (0, 0, 10)) ⟨rfl, by go_grown⟩ HE.out.symm)
          have h10' : (R3 == 10) = false := beq_eq_false_iff_ne.2 h10
          have HC3 := Lib.hid (show refGrp s.data.toList pt gr = if regB (pcs gr (noSign a.data.toList)) then (R1, R2, R3) else (0, 0, 10) by rw [HC2.out, if_neg (by exact h10)])
          clear h10 HC2
          go_wp2_with fail
          have hY7 := heap_new w6 (.cells #[.int .i64 R1, .int .i64 R2] 23) rfl
          have hX7 := heap_old hX6 (.cells #[.int .i64 R1, .int .i64 R2] 23)
          have bN : Below w.heap.size w (w6.alloc (.cells #[.int .i64 R1, .int .i64 R2] 23)) := below_then (by go_grown : Below w6.heap.size w6 _) hB6 hz6
          have hL7 := hL6.below (by go_grown : Below w6.heap.size w6 (w6.alloc (.cells #[.int .i64 R1, .int .i64 R2] 23)))
          clear hX6 hB6 g0 g1 g2 g3 g4 hL6
          obtain ⟨m, hm⟩ := hL7
          generalize w6.alloc (.cells #[.int .i64 R1, .int .i64 R2] 23) = w7 at hY7 hX7 bN hm ⊢
          refine (rregrp_c a gr m _ (by omega) hg128 hm).mono ?_
          rintro e w8 ⟨rfl, c8⟩
          have b8 := below_then c8 bN bN.size
          have hX8 := heap_below hX7 c8
          have hY8 := heap_below hY7 c8
          clear hX7 hY7 c8 bN hm
          obtain ⟨g0, g1, g2, g3, g4⟩ := box2 hX8
          obtain ⟨y0, y1, y2, y3, y4⟩ := box2 hY8
          cases hr : regB (pcs gr (noSign a.data.toList)) with
          | false =>
            have HE := Lib.hid (show refGrp s.data.toList pt gr = (0, 0, 10) by rw [HC3.out, hr]; rfl)
            clear hr HC3
            go_wp2
            exact bodyPost_ret (v := .tuple #[.agg #[.int .i64 0, .int .i64 0], .int .i64 10]) (by simp [results, Tryd.results9, go_sem, g0, g1]) rfl (RetD.of (r := (0, 0, 10)) ⟨rfl, by go_grown⟩ HE.out.symm)
          | true =>
            have HE := Lib.hid (show refGrp s.data.toList pt gr = (R1, R2, R3) by rw [HC3.out, hr]; rfl)
            clear hr HC3
            go_wp2
            exact bodyPost_ret (v := .tuple #[.agg #[.int .i64 R1, .int .i64 R2], .int .i64 R3]) (by simp [results, Tryd.results9, go_sem, g0, g1]) rfl (RetD.of (r := (R1, R2, R3)) ⟨rfl, by go_grown⟩ HE.out.symm)
  | false =>
    have HN2 := Lib.hid (HN.out rfl)
    obtain ⟨X, hXe⟩ : ∃ X : ByteArray, X = G := ⟨_, rfl⟩
    have hXd : X.data.toList = strike a.data.toList gr ++ dotTl false b.data.toList := by rw [hXe]; simp [HG.out, dotTl]
    have hXs : X.size ≤ 9223372036854775807 := by rw [hXe]; first | omega | (simp [ByteArray.size_append]; first | omega | (show _ + (1 + _) ≤ _; omega))
    have k1 : ¬ 9223372036854775807 < 1 + b.size := by omega
    have k2 : ¬ 9223372036854775807 < G.size + (1 + b.size) := by omega
    have HRT := Lib.hid (fun w => rreadtext_c X w hXs)
    rw [hXd, hXe] at HRT
    clear hXd hXs hXe
    by_cases h40 : 40 < s.size
    · have h40' : (40 : Int) < (s.size : Int) := by omega
      have HE := Lib.hid (show refGrp s.data.toList pt gr = (0, 0, 10) by rw [HF.out]; rw [decide_eq_true h40]; rfl)
      clear HF
      go_wp2
      exact bodyPost_ret (v := .tuple #[.agg #[.int .i64 0, .int .i64 0], .int .i64 10]) (by simp [results, Tryd.results9, go_sem, g0, g1]) rfl (RetD.of (r := (0, 0, 10)) ⟨rfl, by go_grown⟩ HE.out.symm)
    have h40' : ¬ (40 : Int) < (s.size : Int) := by omega
    rcases qa with ⟨qa, qa2⟩ | ⟨qa, qa2⟩
    · rcases hg46 with ⟨hge, hg⟩ | ⟨hge, hg⟩
      · rcases hp46 with ⟨hpe, hp⟩ | ⟨hpe, hp⟩
        · exact absurd (hpe.trans hge.symm) HPG.out
        · rcases qb with ⟨qb, qb2⟩ | ⟨qb, qb2⟩
          · have HE := Lib.hid (show refGrp s.data.toList pt gr = (0, 0, 10) by rw [HF.out]; rw [decide_eq_false h40, qa2, qb2, decide_eq_true hpe]; simp)
            clear HF hge hpe qa2 qb2
            go_wp2_with fail
            refine (HIA.out _).mono ?_
            rintro e w5 ⟨rfl, rfl⟩
            go_wp2_with fail
            refine (HIB.out _).mono ?_
            rintro e w5 ⟨rfl, rfl⟩
            go_wp2
            exact bodyPost_ret (v := .tuple #[.agg #[.int .i64 0, .int .i64 0], .int .i64 10]) (by simp [results, Tryd.results9, go_sem, g0, g1]) rfl (RetD.of (r := (0, 0, 10)) ⟨rfl, by go_grown⟩ HE.out.symm)
          · have HC := Lib.hid (show refGrp s.data.toList pt gr = (if (readText (strike a.data.toList gr ++ dotTl false b.data.toList)).2.2 = 10 then (0, 0, 10) else if regB (pcs gr (noSign a.data.toList)) then readText (strike a.data.toList gr ++ dotTl false b.data.toList) else (0, 0, 10)) by rw [HF.out]; rw [decide_eq_false h40, qa2, qb2, decide_eq_false (show ¬ gr ≠ 46 from fun h => h hge)]; simp)
            have has : a.size ≤ 40 := by omega
            clear HF hge hpe qa2 qb2
            obtain ⟨⟨R1, R2, R3⟩, hR⟩ : ∃ x, readText (strike a.data.toList gr ++ dotTl false b.data.toList) = x := ⟨_, rfl⟩
            have HCR := HC.out
            rw [hR] at HCR HRT
            have HC2 := Lib.hid HCR
            clear HC HCR hR
            go_wp2_with fail
            refine (HIA.out _).mono ?_
            rintro e w5 ⟨rfl, rfl⟩
            go_wp2_with fail
            refine (HIB.out _).mono ?_
            rintro e w5 ⟨rfl, rfl⟩
            go_wp2_with fail
            refine (HRT.out _).mono ?_
            rintro e w6 ⟨rfl, hb6⟩
            have hX6 := heap_below hX4 hb6
            have hB6 := below_then hb6 hB4 hz4
            have hz6 := hB6.size
            have hL6 := HL.out.below hB6
            clear g0 g1 g2 g3 g4 hb6 hX4 hB4 hz4
            obtain ⟨g0, g1, g2, g3, g4⟩ := box2 hX6
            by_cases h10 : R3 = 10
            · subst h10
              have HE := Lib.hid (show refGrp s.data.toList pt gr = (0, 0, 10) by rw [HC2.out]; rfl)
              have hZ := heap_old (tstore2 hX6 (u := .int .i64 0) (v := .int .i64 0)) (.cells #[.int .i64 R1, .int .i64 R2] 23)
              obtain ⟨z0, z1, -, -, -⟩ := box2 hZ
              have ZZ := Lib.hid (And.intro z0 z1)
              clear hZ z0 z1
              go_wp2
              exact bodyPost_ret (v := .tuple #[.agg #[.int .i64 0, .int .i64 0], .int .i64 10]) (by simp [results, Tryd.results9, go_sem, ZZ.out.1, ZZ.out.2]) rfl (RetD.of (r := (0, 0, 10)) ⟨rfl, by go_grown⟩ HE.out.symm)
            have h10' : (R3 == 10) = false := beq_eq_false_iff_ne.2 h10
            have HC3 := Lib.hid (show refGrp s.data.toList pt gr = if regB (pcs gr (noSign a.data.toList)) then (R1, R2, R3) else (0, 0, 10) by rw [HC2.out, if_neg (by exact h10)])
            clear h10 HC2
            go_wp2_with fail
            have hY7 := heap_new w6 (.cells #[.int .i64 R1, .int .i64 R2] 23) rfl
            have hX7 := heap_old hX6 (.cells #[.int .i64 R1, .int .i64 R2] 23)
            have bN : Below w.heap.size w (w6.alloc (.cells #[.int .i64 R1, .int .i64 R2] 23)) := below_then (by go_grown : Below w6.heap.size w6 _) hB6 hz6
            have hL7 := hL6.below (by go_grown : Below w6.heap.size w6 (w6.alloc (.cells #[.int .i64 R1, .int .i64 R2] 23)))
            clear hX6 hB6 g0 g1 g2 g3 g4 hL6
            obtain ⟨m, hm⟩ := hL7
            generalize w6.alloc (.cells #[.int .i64 R1, .int .i64 R2] 23) = w7 at hY7 hX7 bN hm ⊢
            refine (rregrp_c a gr m _ (by omega) hg128 hm).mono ?_
            rintro e w8 ⟨rfl, c8⟩
            have b8 := below_then c8 bN bN.size
            have hX8 := heap_below hX7 c8
            have hY8 := heap_below hY7 c8
            clear hX7 hY7 c8 bN hm
            obtain ⟨g0, g1, g2, g3, g4⟩ := box2 hX8
            obtain ⟨y0, y1, y2, y3, y4⟩ := box2 hY8
            cases hr : regB (pcs gr (noSign a.data.toList)) with
            | false =>
              have HE := Lib.hid (show refGrp s.data.toList pt gr = (0, 0, 10) by rw [HC3.out, hr]; rfl)
              clear hr HC3
              go_wp2
              exact bodyPost_ret (v := .tuple #[.agg #[.int .i64 0, .int .i64 0], .int .i64 10]) (by simp [results, Tryd.results9, go_sem, g0, g1]) rfl (RetD.of (r := (0, 0, 10)) ⟨rfl, by go_grown⟩ HE.out.symm)
            | true =>
              have HE := Lib.hid (show refGrp s.data.toList pt gr = (R1, R2, R3) by rw [HC3.out, hr]; rfl)
              clear hr HC3
              go_wp2
              exact bodyPost_ret (v := .tuple #[.agg #[.int .i64 R1, .int .i64 R2], .int .i64 R3]) (by simp [results, Tryd.results9, go_sem, g0, g1]) rfl (RetD.of (r := (R1, R2, R3)) ⟨rfl, by go_grown⟩ HE.out.symm)
      · have HE := Lib.hid (show refGrp s.data.toList pt gr = (0, 0, 10) by rw [HF.out]; rw [decide_eq_false h40, qa2, decide_eq_true hge]; simp)
        clear HF hge qa2
        go_wp2_with fail
        refine (HIA.out _).mono ?_
        rintro e w5 ⟨rfl, rfl⟩
        go_wp2
        exact bodyPost_ret (v := .tuple #[.agg #[.int .i64 0, .int .i64 0], .int .i64 10]) (by simp [results, Tryd.results9, go_sem, g0, g1]) rfl (RetD.of (r := (0, 0, 10)) ⟨rfl, by go_grown⟩ HE.out.symm)
    · rcases hp46 with ⟨hpe, hp⟩ | ⟨hpe, hp⟩
      · have HC := Lib.hid (show refGrp s.data.toList pt gr = (if (readText (strike a.data.toList gr ++ dotTl false b.data.toList)).2.2 = 10 then (0, 0, 10) else if regB (pcs gr (noSign a.data.toList)) then readText (strike a.data.toList gr ++ dotTl false b.data.toList) else (0, 0, 10)) by rw [HF.out]; rw [decide_eq_false h40, qa2, decide_eq_false (show ¬ pt ≠ 46 from fun h => h hpe)]; simp)
        have has : a.size ≤ 40 := by omega
        clear HF hpe qa2
        obtain ⟨⟨R1, R2, R3⟩, hR⟩ : ∃ x, readText (strike a.data.toList gr ++ dotTl false b.data.toList) = x := ⟨_, rfl⟩
        have HCR := HC.out
        rw [hR] at HCR HRT
        have HC2 := Lib.hid HCR
        clear HC HCR hR
        go_wp2_with fail
        refine (HIA.out _).mono ?_
        rintro e w5 ⟨rfl, rfl⟩
        go_wp2_with fail
        refine (HRT.out _).mono ?_
        rintro e w6 ⟨rfl, hb6⟩
        have hX6 := heap_below hX4 hb6
        have hB6 := below_then hb6 hB4 hz4
        have hz6 := hB6.size
        have hL6 := HL.out.below hB6
        clear g0 g1 g2 g3 g4 hb6 hX4 hB4 hz4
        obtain ⟨g0, g1, g2, g3, g4⟩ := box2 hX6
        by_cases h10 : R3 = 10
        · subst h10
          have HE := Lib.hid (show refGrp s.data.toList pt gr = (0, 0, 10) by rw [HC2.out]; rfl)
          have hZ := heap_old (tstore2 hX6 (u := .int .i64 0) (v := .int .i64 0)) (.cells #[.int .i64 R1, .int .i64 R2] 23)
          obtain ⟨z0, z1, -, -, -⟩ := box2 hZ
          have ZZ := Lib.hid (And.intro z0 z1)
          clear hZ z0 z1
          go_wp2
          exact bodyPost_ret (v := .tuple #[.agg #[.int .i64 0, .int .i64 0], .int .i64 10]) (by simp [results, Tryd.results9, go_sem, ZZ.out.1, ZZ.out.2]) rfl (RetD.of (r := (0, 0, 10)) ⟨rfl, by go_grown⟩ HE.out.symm)
        have h10' : (R3 == 10) = false := beq_eq_false_iff_ne.2 h10
        have HC3 := Lib.hid (show refGrp s.data.toList pt gr = if regB (pcs gr (noSign a.data.toList)) then (R1, R2, R3) else (0, 0, 10) by rw [HC2.out, if_neg (by exact h10)])
        clear h10 HC2
        go_wp2_with fail
        have hY7 := heap_new w6 (.cells #[.int .i64 R1, .int .i64 R2] 23) rfl
        have hX7 := heap_old hX6 (.cells #[.int .i64 R1, .int .i64 R2] 23)
        have bN : Below w.heap.size w (w6.alloc (.cells #[.int .i64 R1, .int .i64 R2] 23)) := below_then (by go_grown : Below w6.heap.size w6 _) hB6 hz6
        have hL7 := hL6.below (by go_grown : Below w6.heap.size w6 (w6.alloc (.cells #[.int .i64 R1, .int .i64 R2] 23)))
        clear hX6 hB6 g0 g1 g2 g3 g4 hL6
        obtain ⟨m, hm⟩ := hL7
        generalize w6.alloc (.cells #[.int .i64 R1, .int .i64 R2] 23) = w7 at hY7 hX7 bN hm ⊢
        refine (rregrp_c a gr m _ (by omega) hg128 hm).mono ?_
        rintro e w8 ⟨rfl, c8⟩
        have b8 := below_then c8 bN bN.size
        have hX8 := heap_below hX7 c8
        have hY8 := heap_below hY7 c8
        clear hX7 hY7 c8 bN hm
        obtain ⟨g0, g1, g2, g3, g4⟩ := box2 hX8
        obtain ⟨y0, y1, y2, y3, y4⟩ := box2 hY8
        cases hr : regB (pcs gr (noSign a.data.toList)) with
        | false =>
          have HE := Lib.hid (show refGrp s.data.toList pt gr = (0, 0, 10) by rw [HC3.out, hr]; rfl)
          clear hr HC3
          go_wp2
          exact bodyPost_ret (v := .tuple #[.agg #[.int .i64 0, .int .i64 0], .int .i64 10]) (by simp [results, Tryd.results9, go_sem, g0, g1]) rfl (RetD.of (r := (0, 0, 10)) ⟨rfl, by go_grown⟩ HE.out.symm)
        | true =>
          have HE := Lib.hid (show refGrp s.data.toList pt gr = (R1, R2, R3) by rw [HC3.out, hr]; rfl)
          clear hr HC3
          go_wp2
          exact bodyPost_ret (v := .tuple #[.agg #[.int .i64 R1, .int .i64 R2], .int .i64 R3]) (by simp [results, Tryd.results9, go_sem, g0, g1]) rfl (RetD.of (r := (R1, R2, R3)) ⟨rfl, by go_grown⟩ HE.out.symm)
      · rcases qb with ⟨qb, qb2⟩ | ⟨qb, qb2⟩
        · have HE := Lib.hid (show refGrp s.data.toList pt gr = (0, 0, 10) by rw [HF.out]; rw [decide_eq_false h40, qa2, qb2, decide_eq_true hpe]; simp)
          clear HF hpe qa2 qb2
          go_wp2_with fail
          refine (HIA.out _).mono ?_
          rintro e w5 ⟨rfl, rfl⟩
          go_wp2_with fail
          refine (HIB.out _).mono ?_
          rintro e w5 ⟨rfl, rfl⟩
          go_wp2
          exact bodyPost_ret (v := .tuple #[.agg #[.int .i64 0, .int .i64 0], .int .i64 10]) (by simp [results, Tryd.results9, go_sem, g0, g1]) rfl (RetD.of (r := (0, 0, 10)) ⟨rfl, by go_grown⟩ HE.out.symm)
        · have HC := Lib.hid (show refGrp s.data.toList pt gr = (if (readText (strike a.data.toList gr ++ dotTl false b.data.toList)).2.2 = 10 then (0, 0, 10) else if regB (pcs gr (noSign a.data.toList)) then readText (strike a.data.toList gr ++ dotTl false b.data.toList) else (0, 0, 10)) by rw [HF.out]; rw [decide_eq_false h40, qa2, qb2]; simp)
          have has : a.size ≤ 40 := by omega
          clear HF hpe qa2 qb2
          obtain ⟨⟨R1, R2, R3⟩, hR⟩ : ∃ x, readText (strike a.data.toList gr ++ dotTl false b.data.toList) = x := ⟨_, rfl⟩
          have HCR := HC.out
          rw [hR] at HCR HRT
          have HC2 := Lib.hid HCR
          clear HC HCR hR
          go_wp2_with fail
          refine (HIA.out _).mono ?_
          rintro e w5 ⟨rfl, rfl⟩
          go_wp2_with fail
          refine (HIB.out _).mono ?_
          rintro e w5 ⟨rfl, rfl⟩
          go_wp2_with fail
          refine (HRT.out _).mono ?_
          rintro e w6 ⟨rfl, hb6⟩
          have hX6 := heap_below hX4 hb6
          have hB6 := below_then hb6 hB4 hz4
          have hz6 := hB6.size
          have hL6 := HL.out.below hB6
          clear g0 g1 g2 g3 g4 hb6 hX4 hB4 hz4
          obtain ⟨g0, g1, g2, g3, g4⟩ := box2 hX6
          by_cases h10 : R3 = 10
          · subst h10
            have HE := Lib.hid (show refGrp s.data.toList pt gr = (0, 0, 10) by rw [HC2.out]; rfl)
            have hZ := heap_old (tstore2 hX6 (u := .int .i64 0) (v := .int .i64 0)) (.cells #[.int .i64 R1, .int .i64 R2] 23)
            obtain ⟨z0, z1, -, -, -⟩ := box2 hZ
            have ZZ := Lib.hid (And.intro z0 z1)
            clear hZ z0 z1
            go_wp2
            exact bodyPost_ret (v := .tuple #[.agg #[.int .i64 0, .int .i64 0], .int .i64 10]) (by simp [results, Tryd.results9, go_sem, ZZ.out.1, ZZ.out.2]) rfl (RetD.of (r := (0, 0, 10)) ⟨rfl, by go_grown⟩ HE.out.symm)
          have h10' : (R3 == 10) = false := beq_eq_false_iff_ne.2 h10
          have HC3 := Lib.hid (show refGrp s.data.toList pt gr = if regB (pcs gr (noSign a.data.toList)) then (R1, R2, R3) else (0, 0, 10) by rw [HC2.out, if_neg (by exact h10)])
          clear h10 HC2
          go_wp2_with fail
          have hY7 := heap_new w6 (.cells #[.int .i64 R1, .int .i64 R2] 23) rfl
          have hX7 := heap_old hX6 (.cells #[.int .i64 R1, .int .i64 R2] 23)
          have bN : Below w.heap.size w (w6.alloc (.cells #[.int .i64 R1, .int .i64 R2] 23)) := below_then (by go_grown : Below w6.heap.size w6 _) hB6 hz6
          have hL7 := hL6.below (by go_grown : Below w6.heap.size w6 (w6.alloc (.cells #[.int .i64 R1, .int .i64 R2] 23)))
          clear hX6 hB6 g0 g1 g2 g3 g4 hL6
          obtain ⟨m, hm⟩ := hL7
          generalize w6.alloc (.cells #[.int .i64 R1, .int .i64 R2] 23) = w7 at hY7 hX7 bN hm ⊢
          refine (rregrp_c a gr m _ (by omega) hg128 hm).mono ?_
          rintro e w8 ⟨rfl, c8⟩
          have b8 := below_then c8 bN bN.size
          have hX8 := heap_below hX7 c8
          have hY8 := heap_below hY7 c8
          clear hX7 hY7 c8 bN hm
          obtain ⟨g0, g1, g2, g3, g4⟩ := box2 hX8
          obtain ⟨y0, y1, y2, y3, y4⟩ := box2 hY8
          cases hr : regB (pcs gr (noSign a.data.toList)) with
          | false =>
            have HE := Lib.hid (show refGrp s.data.toList pt gr = (0, 0, 10) by rw [HC3.out, hr]; rfl)
            clear hr HC3
            go_wp2
            exact bodyPost_ret (v := .tuple #[.agg #[.int .i64 0, .int .i64 0], .int .i64 10]) (by simp [results, Tryd.results9, go_sem, g0, g1]) rfl (RetD.of (r := (0, 0, 10)) ⟨rfl, by go_grown⟩ HE.out.symm)
          | true =>
            have HE := Lib.hid (show refGrp s.data.toList pt gr = (R1, R2, R3) by rw [HC3.out, hr]; rfl)
            clear hr HC3
            go_wp2
            exact bodyPost_ret (v := .tuple #[.agg #[.int .i64 R1, .int .i64 R2], .int .i64 R3]) (by simp [results, Tryd.results9, go_sem, g0, g1]) rfl (RetD.of (r := (R1, R2, R3)) ⟨rfl, by go_grown⟩ HE.out.symm)

end Go.Proofs.YtmeefinnefanpaaDoor
