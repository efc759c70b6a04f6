
/- The walk of the reference's written. (Printed by genV4.py.) -/
import Derived.Test.YtklblmbacnnoeaaGreatDoorV4
namespace Go.Proofs.YtklblmbacnnoeaaGreatDoor
open Go.RowKit Limb Nmb Work
set_option linter.unusedVariables false
set_option linter.unusedSimpArgs false

/-! ### written -/
theorem scaled_sdig {u : Int} {q k : Nat} (h : u ≠ 0) : sdig (scaled u (q : Int) k) = (if u < 0 then [45] else []) ++ (Lib.decDigits u.natAbs ++ List.replicate (k - q) 48) := by
  have hp : 0 < 10 ^ (k - q) := Nat.pow_pos (by decide)
  have e1 : (scaled u (q : Int) k).natAbs = u.natAbs * 10 ^ (k - q) := by unfold scaled; rw [Int.natAbs_mul, Int.natAbs_natCast, Int.toNat_natCast]
  have e2 : (scaled u (q : Int) k < 0) ↔ u < 0 := by
    unfold scaled
    rw [Int.toNat_natCast]
    constructor
    · intro h2
      rcases Int.lt_or_le u 0 with h3 | h3
      · exact h3
      · have := Int.mul_nonneg h3 (show (0 : Int) ≤ ((10 ^ (k - q) : Nat) : Int) by omega)
        omega
    · intro h2
      exact Int.mul_neg_of_neg_of_pos h2 (by omega : (0 : Int) < ((10 ^ (k - q) : Nat) : Int))
  unfold sdig
  rw [e1, vdec_shift (by omega)]
  simp only [e2]
theorem scaled_zero {q k : Nat} : sdig (scaled 0 (q : Int) k) = Lib.decDigits 0 := by
  unfold scaled
  rw [Int.zero_mul]
  rfl
theorem rdaytext2_c (v fm : Int) (w : World) (hv : 1 ≤ v ∧ v ≤ 3652059) (hf : formB fm = true) (ht : Tab w) : Calls Tryz.prog 102 #[.int .i64 v, .int .i64 fm] w (RetSF (dayS fm v) 0 w) :=
  rDayText_ok v fm _ _ _ _ _ _ w hf hv.1 hv.2 (dateC_is hv) (dateC_is (thu_bd hv.1 hv.2)) ht
set_option maxHeartbeats 4000000 in
set_option maxRecDepth 100000 in
/-- written of the reference, of a value that is none or of its column's kind. -/
theorem rwritten_c (f : Fmt) (A : Option Addr) (n cp : Nat) (c : Col) (s : ByteArray) (w : World) (hs : s.size ≤ 9223372036854775807) (hv : s ≠ ⟨#[]⟩ → valOk c s.data.toList = true) (hk : ColK f.mark c) (ht : Tab w) :
    Calls Tryz.prog 51 #[.agg #[.int .u8 f.mark, .int .u8 f.quote, .slice A n cp, .string f.head, .string f.tail, .string f.count, .string f.sum], colG c, .string s] w (RetS (wrS f.mark c s) w) := by
  obtain ⟨m, q, ks, hd, tl, ct, sm⟩ := f
  obtain ⟨hkk, -, hpl, hfo, -, -, -⟩ := hk
  obtain ⟨nm, kd, wd, pl, fm, rt, fl, nd⟩ := c
  unfold colG
  simp only at *
  have hF := heap_old (heap_new w (.cells #[.int .u8 m, .int .u8 q, .slice A n cp, .string hd, .string tl, .string ct, .string sm] 24) rfl) (.cells #[.string nm, .int .i64 kd, .int .i64 wd, .int .i64 pl, .int .i64 fm, .bool rt, .int .u8 fl, .bool nd] 60)
  have hC := heap_new (w.alloc (.cells #[.int .u8 m, .int .u8 q, .slice A n cp, .string hd, .string tl, .string ct, .string sm] 24)) (.cells #[.string nm, .int .i64 kd, .int .i64 wd, .int .i64 pl, .int .i64 fm, .bool rt, .int .u8 fl, .bool nd] 60) (g := w.heap.size + 1) (by simp)
  have hB0 : Below w.heap.size w ((w.alloc (.cells #[.int .u8 m, .int .u8 q, .slice A n cp, .string hd, .string tl, .string ct, .string sm] 24)).alloc (.cells #[.string nm, .int .i64 kd, .int .i64 wd, .int .i64 pl, .int .i64 fm, .bool rt, .int .u8 fl, .bool nd] 60)) := by go_grown
  obtain ⟨⟨f0, f1, f2, f3, f4, f5, f6⟩, f7⟩ := obox7 hF
  obtain ⟨⟨x0, x1, x2, x3, x4, x5, x6, x7⟩, x8⟩ := obox8 hC
  have g1 := emp_dec s
  by_cases h0 : s = ⟨#[]⟩
  · have HE := Lib.hid (show wrS m ⟨nm, kd, wd, pl, fm, rt, fl, nd⟩ s = s by unfold wrS; rw [if_pos h0, h0])
    rw [decide_eq_true h0] at g1
    clear h0 hv hpl hfo hkk
    go_enter Tryz.func51, Tryz.ntmps51
    go_wp2
    go_ret
    exact ⟨by rw [HE.out]; rfl, hB0⟩
  have hv := hv h0
  rw [decide_eq_false h0] at g1
  have HTB := Lib.hid (ht.below hB0)
  clear ht
  by_cases h2 : kd = 2
  · subst h2
    by_cases hm : m = 0
    · subst hm
      have HE := Lib.hid (show wrS 0 ⟨nm, 2, wd, pl, fm, rt, fl, nd⟩ s = bs (sdig (scaled (readText s.data.toList).1 (readText s.data.toList).2.1 pl.toNat)) by unfold wrS; rw [if_neg h0, if_pos ⟨rfl, rfl⟩])
      have HR := Lib.hid (fun w => rreadtext_c s w hs)
      have hvv : decOk pl s.data.toList = true := by unfold valOk at hv; simpa using hv
      obtain ⟨p1, p2⟩ := hpl rfl
      obtain ⟨k, rfl⟩ : ∃ k : Nat, pl = (k : Int) := ⟨pl.toNat, by omega⟩
      rcases dec_cases (k : Int) s.data.toList with ⟨h1, h3⟩ | ⟨h1, qn, h3, h4, h5⟩
      · rw [hvv] at h3; cases h3
      rw [h5] at hvv
      simp only [Bool.and_eq_true, decide_eq_true_eq] at hvv
      obtain ⟨u, hu⟩ : ∃ u, (readText s.data.toList).1 = u := ⟨_, rfl⟩
      have hr : readText s.data.toList = (u, (qn : Int), 0) := by rw [← hu, ← h3, ← h1]
      rw [hr] at HE HR
      rw [hu] at h4
      unfold RetD at HR
      simp only [Int.toNat_natCast] at HE
      have hbu := decB_out h4
      have HIT := Lib.hid (fun (w : World) (ht : Tab w) => vitoas_c u w (by omega) ht)
      obtain ⟨D, hD⟩ : ∃ D : ByteArray, (⟨(Lib.decDigits u.natAbs).toArray⟩ : ByteArray) = D := ⟨_, rfl⟩
      obtain ⟨I, hI⟩ : ∃ I : ByteArray, (⟨(Lib.itoa u).toArray⟩ : ByteArray) = I := ⟨_, rfl⟩
      rw [hI] at HIT
      have HTP := Lib.hid (fun w => Tryz.strings_TrimPrefix I ⟨#[45]⟩ w)
      have hItr : (⟨(Lib.trimPrefix I.data.toList (⟨#[45]⟩ : ByteArray).data.toList).toArray⟩ : ByteArray) = D := by
        rw [← hI, ← hD]
        exact congrArg (fun l => (⟨l.toArray⟩ : ByteArray)) (vtrim_itoa u)
      rw [hItr] at HTP
      have hDl : D.data.toList = Lib.decDigits u.natAbs := by rw [← hD]
      have hDs : D.size = (Lib.decDigits u.natAbs).length := by rw [← hDl]; simp
      have hDb : 1 ≤ D.size ∧ D.size ≤ 30 := by rw [hDs]; exact dec_len (k := 30) (by omega) (by omega)
      obtain ⟨c, hc⟩ : ∃ c : Nat, (k : Int) - (qn : Int) = (c : Int) := ⟨k - qn, by omega⟩
      have hc9 : c ≤ 9 := by omega
      have HCK := Lib.hid (show k - qn = c by omega)
      have HC := Lib.hid hc
      have HREP := Lib.hid (Tryz.strings_Repeat ⟨#[48]⟩ c)
      obtain ⟨R, hR⟩ : ∃ R : ByteArray, (⟨(Lib.repeatL [48] c).toArray⟩ : ByteArray) = R := ⟨_, rfl⟩
      have hRs : R.size = c := by rw [← hR, rep_one]; show (List.replicate c (48 : UInt8)).toArray.size = c; simp
      have HRL := Lib.hid (show R.data.toList = List.replicate c 48 by rw [← hR, rep_one])
      have HRR := Lib.hid (show (⟨(Lib.repeatL (⟨#[48]⟩ : ByteArray).data.toList c).toArray⟩ : ByteArray) = R from hR)
      have HDL := Lib.hid hDl
      have hbu1 := hbu.1; have hbu2 := hbu.2.1
      have hqk : (qn : Int) ≤ (k : Int) := hvv.1
      clear hv hvv h0 hr h3 h4 h5 h1 hu hpl hfo hD hI hItr hDl hDs hR hc hbu hkk
      go_enter Tryz.func51, Tryz.ntmps51
      go_wp2_with fail
      refine (HR.out _).mono ?_
      rintro e w1 ⟨rfl, hb1⟩
      have hC1 := heap_below hC hb1
      have hB1 := below_then hb1 hB0 hB0.size
      have HT1 := Lib.hid (HTB.out.below hb1)
      have hz1 := hB1.size
      have hDn := heap_new w1 (.cells #[.int .i64 u, .int .i64 (qn : Int)] 41) rfl
      have hCn := heap_old hC1 (.cells #[.int .i64 u, .int .i64 (qn : Int)] 41)
      have hBD : Below w.heap.size w (w1.alloc (.cells #[.int .i64 u, .int .i64 (qn : Int)] 41)) := by go_grown
      have HTD := Lib.hid (HT1.out.below (show Below w1.heap.size w1 (w1.alloc (.cells #[.int .i64 u, .int .i64 (qn : Int)] 41)) by go_grown))
      clear hF hC hb1 f0 f1 f2 f3 f4 f5 f6 f7 x0 x1 x2 x3 x4 x5 x6 x7 x8 hC1
      go_upto_region 8 with fail
      obtain ⟨N, hN⟩ : ∃ x, w1.heap.size = x := ⟨_, rfl⟩
      rw [hN] at hDn ⊢
      generalize w1.alloc (.cells #[.int .i64 u, .int .i64 (qn : Int)] 41) = wd1 at hDn hCn hBD HTD ⊢
      obtain ⟨d0, d1, -, -, d4⟩ := box2 hDn
      clear hN
      go_wp2_with fail
      refine (HIT.out _ HTD.out).mono ?_
      rintro e w2 ⟨rfl, hb2⟩
      have hD2 := heap_below hDn hb2
      have hC2 := heap_below hCn hb2
      have hB2 := below_then hb2 hBD hBD.size
      clear hDn hCn hb2 d0 d1 d4 hB1
      go_wp2_with fail
      refine (HTP.out _).mono ?_
      rintro e w3 ⟨rfl, rfl⟩
      obtain ⟨d0, d1, -, -, d4⟩ := box2 hD2
      obtain ⟨⟨x0, x1, x2, x3, x4, x5, x6, x7⟩, x8⟩ := obox8 hC2
      by_cases hu0 : u = 0
      · subst hu0
        have HX := Lib.hid (show D = wrS 0 ⟨nm, 2, wd, (k : Int), fm, rt, fl, nd⟩ s by
          rw [HE.out, scaled_zero]
          exact (bs_self D).symm.trans (congrArg bs HDL.out))
        go_wp2
        go_ret
        exact ⟨congrArg (fun b => Ending.returned (Value.string b)) HX.out, hB2⟩
      have hun : (u != 0) = true := by simpa using hu0
      obtain ⟨G, hG⟩ : ∃ G, D ++ R = G := ⟨_, rfl⟩
      have hcat : ¬ 9223372036854775807 < D.size + R.size := by omega
      have HGL := Lib.hid (show G.data.toList = Lib.decDigits u.natAbs ++ List.replicate c 48 by rw [← hG, ByteArray.data_append, Array.toList_append, HDL.out, HRL.out])
      have hGs : G.size ≤ 50 := by rw [← hG, ByteArray.size_append]; omega
      rcases Int.lt_or_le u 0 with hneg | hpos
      · have HX := Lib.hid (show (⟨#[45]⟩ : ByteArray) ++ G = wrS 0 ⟨nm, 2, wd, (k : Int), fm, rt, fl, nd⟩ s by
          rw [HE.out, scaled_sdig hu0, if_pos hneg, HCK.out]
          refine (bs_self _).symm.trans (congrArg bs ?_)
          rw [ByteArray.data_append, Array.toList_append, HGL.out])
        have hcat2 : ¬ 9223372036854775807 < 1 + G.size := by omega
        have HG := Lib.hid hG
        clear hu0 hG

        go_wp2_with fail
        rw [HC.out]
        refine (HREP.out _ (by omega) (by show 1 * c ≤ _; omega)).mono ?_
        rintro e w5 ⟨rfl, hb5⟩
        rw [HRR.out]
        have hD5 := heap_below hD2 hb5
        have hB5 := below_then hb5 hB2 hB2.size
        clear hD2 hC2 d0 d1 d4 x0 x1 x2 x3 x4 x5 x6 x7 x8
        obtain ⟨d0, d1, -, -, d4⟩ := box2 hD5
        have hG := HG.out
        go_wp2

        go_ret
        exact ⟨congrArg (fun b => Ending.returned (Value.string b)) HX.out, hB5⟩
      · have HX := Lib.hid (show G = wrS 0 ⟨nm, 2, wd, (k : Int), fm, rt, fl, nd⟩ s by
          rw [HE.out, scaled_sdig hu0, if_neg (by omega), HCK.out]
          refine (bs_self _).symm.trans (congrArg bs ?_)
          rw [HGL.out]
          rfl)
        have HG := Lib.hid hG
        have hpos' : ¬ u < 0 := by omega
        clear hu0 hG hpos
        go_wp2_with fail
        rw [HC.out]
        refine (HREP.out _ (by omega) (by show 1 * c ≤ _; omega)).mono ?_
        rintro e w5 ⟨rfl, hb5⟩
        rw [HRR.out]
        have hD5 := heap_below hD2 hb5
        have hB5 := below_then hb5 hB2 hB2.size
        clear hD2 hC2 d0 d1 d4 x0 x1 x2 x3 x4 x5 x6 x7 x8
        obtain ⟨d0, d1, -, -, d4⟩ := box2 hD5
        have hG := HG.out
        go_wp2
        go_ret
        exact ⟨congrArg (fun b => Ending.returned (Value.string b)) HX.out, hB5⟩
    · have HE := Lib.hid (show wrS m ⟨nm, 2, wd, pl, fm, rt, fl, nd⟩ s = s by unfold wrS; rw [if_neg h0, if_neg (fun h => hm h.2), if_neg (show ¬ (2 : Int) = 3 by decide)])
      have k0 : (m != 0) = true := by simpa using hm
      clear hm h0 hv hpl hfo hkk
      go_enter Tryz.func51, Tryz.ntmps51
      go_wp2
      go_ret
      exact ⟨by rw [HE.out]; rfl, hB0⟩
  have k2 : (kd == 2) = false := beq_eq_false_iff_ne.2 h2
  by_cases h3 : kd = 3
  · subst h3
    have hvv : dayOk s.data.toList = true := by unfold valOk at hv; simpa using hv
    have HE := Lib.hid (show wrS m ⟨nm, 3, wd, pl, fm, rt, fl, nd⟩ s = dayS fm (dayN 1 s.data.toList) by unfold wrS; rw [if_neg h0, if_neg (fun h => h2 h.1), if_pos rfl])
    have HR := Lib.hid (fun w => rReadDay_c s 1 1 w hs)
    obtain ⟨hfb, -⟩ := formB_of (hfo rfl)
    have hl := rd_long s.data.toList
    rw [hvv] at hl
    have hl1 := of_decide_eq_true hl.1
    obtain ⟨v, hvd⟩ : ∃ v, readO 1 1 s.data.toList = some v := Option.isSome_iff_exists.1 hvv
    have hvr := readO_day hvd
    have hdn : dayN 1 s.data.toList = v := by unfold dayN; rw [hvd]; rfl
    rw [hdn] at HE hl
    rw [hl1, hl.2] at HR
    unfold RetNF at HR
    have HD := Lib.hid (fun w ht => rdaytext2_c v fm w hvr hfb ht)
    unfold RetSF at HD
    generalize dayS fm v = D at HE HD
    clear h0 hv hvv hl hl1 hvd hdn h2 hpl hfo hkk
    go_enter Tryz.func51, Tryz.ntmps51
    go_wp2_with fail
    refine (HR.out _).mono ?_
    rintro e w1 ⟨rfl, hb1⟩
    have hC1 := heap_below hC hb1
    have hB1 := below_then hb1 hB0 hB0.size
    have HT1 := Lib.hid (HTB.out.below hb1)
    obtain ⟨⟨x0, x1, x2, x3, x4, x5, x6, x7⟩, x8⟩ := obox8 hC1
    clear hF hC hC1 hb1 f0 f1 f2 f3 f4 f5 f6 f7
    go_wp2_with fail
    refine (HD.out _ HT1.out).mono ?_
    rintro e w2 ⟨rfl, hb2⟩
    have hB2 := below_then hb2 hB1 hB1.size
    go_wp2
    go_ret
    exact ⟨by rw [HE.out]; rfl, hB2⟩
  · have HE := Lib.hid (show wrS m ⟨nm, kd, wd, pl, fm, rt, fl, nd⟩ s = s by unfold wrS; rw [if_neg h0, if_neg (fun h => h2 h.1), if_neg h3])
    have h11 : kd = 1 := by omega
    subst h11
    clear h3 h2 h0 hv hpl hfo hkk
    go_enter Tryz.func51, Tryz.ntmps51
    go_wp2
    go_ret
    exact ⟨by rw [HE.out]; rfl, hB0⟩
end Go.Proofs.YtklblmbacnnoeaaGreatDoor
