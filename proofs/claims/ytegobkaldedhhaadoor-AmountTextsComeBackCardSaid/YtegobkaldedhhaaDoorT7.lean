
/- The walk of the reference's Text. -/
import Derived.Test.YtegobkaldedhhaaDoorT6
import Derived.Test.YtegobkaldedhhaaDoorE4
import Derived.Test.YtegobkaldedhhaaDoorD1
namespace Go.Proofs.YtegobkaldedhhaaDoor
open Go.RowKit Limb
set_option linter.unusedVariables false
set_option linter.unusedSimpArgs false

theorem tdec_w {u p : Int} (h : decB u p = true) : decide (-1000000000000000 ≤ u ∧ u ≤ 1000000000000000) = true ∧ decide (0 ≤ p ∧ p ≤ 9) = true := by
  have := decB_out h
  exact ⟨decide_eq_true (by omega), decide_eq_true (by omega)⟩
theorem trchk_ok (u p : Int) (w : World) (h : decB u p = true) : Calls Tryd.prog 88 #[.agg #[.int .i64 u, .int .i64 p]] w fun e w' => e = .returned (.int .i64 0) ∧ Below w.heap.size w w' := by
  obtain ⟨h1, h2⟩ := tdec_w h
  have H1 := Lib.hid h1; have H2 := Lib.hid h2
  clear h h1 h2
  go_enter Tryd.func88, Tryd.ntmps88
  go_wp2_with (first | (go_at_call_of 46 (Value.int .i64 9); refine (within_c _ _ _ _).mono ?_; rintro e w1 ⟨rfl, rfl⟩; rw [H2.out]) | (go_at_call 46; refine (within_c _ _ _ _).mono ?_; rintro e w1 ⟨rfl, rfl⟩; rw [H1.out]))
  go_ret
  exact ⟨rfl, by go_grown⟩
theorem trchk_bad (u p : Int) (w : World) (h : decB u p = false) : Calls Tryd.prog 88 #[.agg #[.int .i64 u, .int .i64 p]] w fun e w' => e = .returned (.int .i64 1) ∧ Below w.heap.size w w' := by
  have h := decB_not h
  by_cases h1 : -1000000000000000 ≤ u ∧ u ≤ 1000000000000000
  · have H1 := Lib.hid (decide_eq_true h1)
    have H2 := Lib.hid (decide_eq_false (p := 0 ≤ p ∧ p ≤ 9) (by omega))
    clear h h1
    go_enter Tryd.func88, Tryd.ntmps88
    go_wp2_with (first | (go_at_call_of 46 (Value.int .i64 9); refine (within_c _ _ _ _).mono ?_; rintro e w1 ⟨rfl, rfl⟩; rw [H2.out]) | (go_at_call 46; refine (within_c _ _ _ _).mono ?_; rintro e w1 ⟨rfl, rfl⟩; rw [H1.out]))
    go_ret
    exact ⟨rfl, by go_grown⟩
  · have H1 := Lib.hid (decide_eq_false h1)
    clear h h1
    go_enter Tryd.func88, Tryd.ntmps88
    go_wp2_with (go_at_call 46; refine (within_c _ _ _ _).mono ?_; rintro e w1 ⟨rfl, rfl⟩; rw [H1.out])
    go_ret
    exact ⟨rfl, by go_grown⟩
theorem tdec_c (u p : Int) (w : World) : Calls Tryd.prog 88 #[.agg #[.int .i64 u, .int .i64 p]] w fun e w' => e = .returned (.int .i64 (decF u p)) ∧ Below w.heap.size w w' := by
  unfold decF
  cases hd : decB u p with
  | true => exact trchk_ok u p w hd
  | false => exact trchk_bad u p w hd

set_option maxHeartbeats 2000000 in
set_option maxRecDepth 100000 in
theorem rtext_c (u p : Int) (w : World) (ht : Tab w) :
    Calls Tryd.prog 30 #[.agg #[.int .i64 u, .int .i64 p]] w (RetST (textR u p) (decF u p) w) := by
  have HC := Lib.hid (fun w => tdec_c u p w)
  cases hd : decB u p with
  | false =>
    rw [show decF u p = 1 from if_neg (by rw [hd]; decide)] at HC
    rw [show textR u p = [] from if_neg (by rw [hd]; decide), show decF u p = 1 from if_neg (by rw [hd]; decide)]
    clear hd
    go_enter Tryd.func30, Tryd.ntmps30
    go_wp2_with fail
    refine (HC.out _).mono ?_
    rintro e w1 ⟨rfl, hb⟩
    go_wp2
    go_ret2
    refine ⟨_, rfl, rfl, ?_⟩
    go_grown
    exact below_then hb (by go_grown) (by simp only [World.size_alloc]; omega)
  | true =>
    have hdb := decB_out hd
    rw [show decF u p = 0 from if_pos hd] at HC
    rw [show textR u p = textL u p.toNat from if_pos hd, show decF u p = 0 from if_pos hd]
    obtain ⟨q, rfl⟩ : ∃ q : Nat, p = (q : Int) := ⟨p.toNat, by omega⟩
    rw [Int.toNat_natCast]
    clear hd
    have HQ := Lib.hid (show q ≤ 9 by omega)
    have hm : max u (-u) = (u.natAbs : Int) := by omega
    have HI := Lib.hid (fun (w : World) (ht : Tab w) => itoa_c (u.natAbs : Int) w (by omega) (by omega) ht)
    have hu30 := (nat_pow200 (u := u) (by omega)).2
    have hdl := digL_len hu30
    obtain ⟨D, hD⟩ : ∃ D : ByteArray, (⟨(Lib.decDigits u.natAbs).toArray⟩ : ByteArray) = D := ⟨_, rfl⟩
    rw [Int.toNat_natCast, hD] at HI
    have hDl : D.data.toList = digL u := by rw [← hD]; rfl
    have hDs : D.size = (digL u).length := by rw [← hDl]; simp
    rw [← hDs] at hdl
    have hwn : IntKind.i64.wrap (-u) = -u := IntWalk.i64_in _ (by omega)
    have HU := Lib.hid hdb; have HDL := Lib.hid hDl; have HDS := Lib.hid hDs; have HM := Lib.hid hm
    have u1 : -1000000000000000 ≤ u := hdb.1
    have u2 : u ≤ 1000000000000000 := hdb.2.1
    have HT := Lib.hid ht
    clear hdb hD hDl hDs hu30 hm ht hwn
    go_enter Tryd.func30, Tryd.ntmps30
    go_wp2_with fail
    refine (HC.out _).mono ?_
    rintro e w1 ⟨rfl, hb⟩
    have hX := heap_below (heap_new w (.cells #[.int .i64 u, .int .i64 (q : Int)] 40) rfl) hb
    have hB := below_then hb (by go_grown : Below w.heap.size w _) (by simp only [World.size_alloc]; omega)
    clear hb
    obtain ⟨a0, a1, -, -, a4⟩ := box2 hX
    have hz := hB.size
    have HTA := Lib.hid (HT.out.below (by exact hB))
    go_wp2_with fail
    rw [HM.out]
    refine (HI.out _ HTA.out).mono ?_
    rintro e w2 ⟨rfl, hb2⟩
    have hX2 := heap_below hX hb2
    have hB2 := below_then hb2 hB hz
    have hz2 := hB2.size
    clear hX hB hb2 a0 a1 a4
    obtain ⟨a0, a1, -, -, a4⟩ := box2 hX2
    obtain ⟨c, hc⟩ : ∃ c : Nat, q + 1 - D.size = c := ⟨_, rfl⟩
    have HREP := Lib.hid (Tryd.strings_Repeat ⟨#[48]⟩ c)
    have E1 := Lib.hid (show max (0 : Int) ((q : Int) + 1 - (D.size : Int)) = ((c : Nat) : Int) by omega)
    have hc10 : c ≤ 10 := by have := HQ.out; omega
    have HPD := Lib.hid (show padL (digL u) q = List.replicate c 48 ++ D.data.toList by unfold padL; rw [← HDS.out, hc, HDL.out])
    have hq9 : q ≤ 9 := HQ.out
    have hqc : q + 1 ≤ c + D.size := by omega
    clear hc
    go_wp2_with fail
    rw [E1.out]
    refine (HREP.out _ (by omega) (by show 1 * c ≤ _; omega)).mono ?_
    rintro e w3 ⟨rfl, hb3⟩
    obtain ⟨R, hR⟩ : ∃ R : ByteArray, (⟨(Lib.repeatL [48] c).toArray⟩ : ByteArray) = R := ⟨_, rfl⟩
    have hRs : R.size = c := by rw [← hR, repeat_one]; show (List.replicate c (48 : UInt8)).toArray.size = c; simp
    have hRl : R.data.toList = List.replicate c 48 := by rw [← hR, repeat_one]
    have hR2 : (⟨(Lib.repeatL (⟨#[48]⟩ : ByteArray).data.toList c).toArray⟩ : ByteArray) = R := hR
    rw [hR2]
    have hX3 := heap_below hX2 hb3
    have hB3 := below_then hb3 hB2 hz2
    have hz3 := hB3.size
    obtain ⟨t, ht⟩ : ∃ t : ByteArray, R ++ D = t := ⟨_, rfl⟩
    have htl : t.data.toList = padL (digL u) q := by rw [HPD.out, ← ht, ByteArray.data_append, Array.toList_append, hRl]
    have hts : t.size = c + D.size := by rw [← ht, ByteArray.size_append, hRs]
    have HTT := Lib.hid ht; have HTL := Lib.hid htl
    have hcond : ¬ 9223372036854775807 < R.size + D.size := by omega
    clear hR hR2 hRl htl hX2 hB2 hb3 a0 a1 a4
    obtain ⟨a0, a1, -, -, a4⟩ := box2 hX3
    have htl' : t.data.toList.length = t.size := by simp
    rcases Nat.eq_zero_or_pos q with h0 | h0
    · subst h0
      have hfin : ∀ X : ByteArray, X.data.toList = sgL u → (X ++ t).data.toList = textL u 0 := by
        intro X hX
        rw [ByteArray.data_append, Array.toList_append, hX, HTL.out]
        unfold textL befL
        simp
      have HFIN := Lib.hid hfin
      clear hfin
      by_cases hn : u < 0
      · have hcat : ¬ 9223372036854775807 < 1 + t.size := by omega
        have HG := Lib.hid (show sgL u = [45] from if_pos hn)
        go_wp2
        go_ret2
        exact ⟨_, rfl, HFIN.out _ HG.out.symm, hB3⟩
      · have HG := Lib.hid (show sgL u = [] from if_neg hn)
        go_wp2
        go_ret2
        exact ⟨_, rfl, by have := HFIN.out ⟨#[]⟩ HG.out.symm; simpa using this, hB3⟩
    · have hq0 : (0 : Int) < (q : Int) := by omega
      have hqt : q ≤ t.size := by omega
      have hts2 : t.size ≤ 50 := by omega
      clear hts
      obtain ⟨A, hA⟩ : ∃ A, t.extract 0 (t.size - q) = A := ⟨_, rfl⟩
      obtain ⟨B, hB⟩ : ∃ B, t.extract (t.size - q) t.size = B := ⟨_, rfl⟩
      have hAs : A.size = t.size - q := by rw [← hA, ByteArray.size_extract]; omega
      have hBs : B.size = q := by rw [← hB, ByteArray.size_extract]; omega
      have hAl : A.data.toList = befL u q := by unfold befL; rw [← HTL.out, ← hA, htl', Lib.extract_data]; simp
      have hBl : B.data.toList = behL u q := by unfold behL; rw [← HTL.out, ← hB, htl', Lib.extract_to_end]
      have hfin : ∀ X : ByteArray, X.data.toList = sgL u → (X ++ (A ++ ⟨#[46]⟩ ++ B)).data.toList = textL u q := by
        intro X hX
        simp only [ByteArray.data_append, Array.toList_append, hX, hAl, hBl]
        unfold textL
        rw [if_neg (by omega)]
        simp
      have HFIN := Lib.hid hfin
      have k1 : ¬ 9223372036854775807 < A.size + 1 := by omega
      have k2 : ¬ 9223372036854775807 < A.size + 1 + B.size := by omega
      have k3 : ¬ 9223372036854775807 < 1 + (A.size + 1 + B.size) := by omega
      clear hfin hAl hBl
      have e1 : IntKind.i64.wrap ((t.size : Int) - (q : Int)) = (t.size : Int) - (q : Int) := IntWalk.i64_in _ (by omega)
      have e2 : (q : Int) ≤ (t.size : Int) := by omega
      have e2' : (0 : Int) ≤ (t.size : Int) - (q : Int) := by omega
      have e3 : ((t.size : Int) - (q : Int)).toNat = t.size - q := by omega
      have e4 : (t.size : Int) - (q : Int) ≤ (t.size : Int) := by omega
      go_wp2_with fail
      go_quiet (fail)
      clear e1 e2 e2' e3 e4
      by_cases hn : u < 0
      · have HG := Lib.hid (show sgL u = [45] from if_pos hn)
        go_wp2
        go_ret2
        exact ⟨_, rfl, HFIN.out _ HG.out.symm, below_drewN hB3 _⟩
      · have HG := Lib.hid (show sgL u = [] from if_neg hn)
        go_wp2
        go_ret2
        exact ⟨_, rfl, by have := HFIN.out ⟨#[]⟩ HG.out.symm; simpa using this, below_drewN hB3 _⟩
end Go.Proofs.YtegobkaldedhhaaDoor
