/- The walk of the reference's Text. The walks of the reference's numbers: the leaves. -/
import Derived.Test.YtnnenokgjkpkiaaGreatDoorT6
import Derived.Test.YtnnenokgjkpkiaaGreatDoorA8
import Derived.Test.YtnnenokgjkpkiaaGreatDoorE1
import Derived.Test.YtnnenokgjkpkiaaGreatDoorA7
-- merged: T7 R1
namespace Go.Proofs.YtnnenokgjkpkiaaGreatDoor
open Go.RowKit Limb
set_option linter.unusedVariables false
set_option linter.unusedSimpArgs false
theorem tdec_w {u p : Int} (h : decB u p = true) : decide (-1000000000000000 ≤ u ∧ u ≤ 1000000000000000) = true ∧ decide (0 ≤ p ∧ p ≤ 9) = true := by
  have := decB_out h
  exact ⟨decide_eq_true (by omega), decide_eq_true (by omega)⟩
theorem trchk_ok (u p : Int) (w : World) (h : decB u p = true) : Calls Tryz.prog 135 #[.agg #[.int .i64 u, .int .i64 p]] w fun e w' => e = .returned (.int .i64 0) ∧ Below w.heap.size w w' := by
  obtain ⟨h1, h2⟩ := tdec_w h
  have H1 := Lib.hid h1; have H2 := Lib.hid h2
  clear h h1 h2
  go_enter Tryz.func135, Tryz.ntmps135
  go_wp2_with (first | (go_at_call_of 189 (Value.int .i64 9); refine (within_c _ _ _ _).mono ?_; rintro e w1 ⟨rfl, rfl⟩; rw [H2.out]) | (go_at_call 189; refine (within_c _ _ _ _).mono ?_; rintro e w1 ⟨rfl, rfl⟩; rw [H1.out]))
  go_ret
  exact ⟨rfl, by go_grown⟩
theorem trchk_bad (u p : Int) (w : World) (h : decB u p = false) : Calls Tryz.prog 135 #[.agg #[.int .i64 u, .int .i64 p]] w fun e w' => e = .returned (.int .i64 1) ∧ Below w.heap.size w w' := by
  have h := decB_not h
  by_cases h1 : -1000000000000000 ≤ u ∧ u ≤ 1000000000000000
  · have H1 := Lib.hid (decide_eq_true h1)
    have H2 := Lib.hid (decide_eq_false (p := 0 ≤ p ∧ p ≤ 9) (by omega))
    clear h h1
    go_enter Tryz.func135, Tryz.ntmps135
    go_wp2_with (first | (go_at_call_of 189 (Value.int .i64 9); refine (within_c _ _ _ _).mono ?_; rintro e w1 ⟨rfl, rfl⟩; rw [H2.out]) | (go_at_call 189; refine (within_c _ _ _ _).mono ?_; rintro e w1 ⟨rfl, rfl⟩; rw [H1.out]))
    go_ret
    exact ⟨rfl, by go_grown⟩
  · have H1 := Lib.hid (decide_eq_false h1)
    clear h h1
    go_enter Tryz.func135, Tryz.ntmps135
    go_wp2_with (go_at_call 189; refine (within_c _ _ _ _).mono ?_; rintro e w1 ⟨rfl, rfl⟩; rw [H1.out])
    go_ret
    exact ⟨rfl, by go_grown⟩
theorem tdec_c (u p : Int) (w : World) : Calls Tryz.prog 135 #[.agg #[.int .i64 u, .int .i64 p]] w fun e w' => e = .returned (.int .i64 (decF u p)) ∧ Below w.heap.size w w' := by
  unfold decF
  cases hd : decB u p with
  | true => exact trchk_ok u p w hd
  | false => exact trchk_bad u p w hd
set_option maxHeartbeats 2000000 in
set_option maxRecDepth 100000 in
theorem rtext_c (u p : Int) (w : World) (ht : Tab w) :
    Calls Tryz.prog 82 #[.agg #[.int .i64 u, .int .i64 p]] w (RetST (textR u p) (decF u p) w) := by
  have HC := Lib.hid (fun w => tdec_c u p w)
  cases hd : decB u p with
  | false =>
    rw [show decF u p = 1 from if_neg (by rw [hd]; decide)] at HC
    rw [show textR u p = [] from if_neg (by rw [hd]; decide), show decF u p = 1 from if_neg (by rw [hd]; decide)]
    clear hd
    go_enter Tryz.func82, Tryz.ntmps82
    go_wp2_with fail
    refine (HC.out _).mono ?_
    rintro e w1 ⟨rfl, hb⟩
    go_wp2
    go_ret2
    refine ⟨_, rfl, rfl, ?_⟩
    go_grown
    exact below_then hb (by go_grown) (by simp only [World.size_alloc]; omega)
  | true =>
    have hdb := decB_out hd
    rw [show decF u p = 0 from if_pos hd] at HC
    rw [show textR u p = textL u p.toNat from if_pos hd, show decF u p = 0 from if_pos hd]
    obtain ⟨q, rfl⟩ : ∃ q : Nat, p = (q : Int) := ⟨p.toNat, by omega⟩
    rw [Int.toNat_natCast]
    clear hd
    have HQ := Lib.hid (show q ≤ 9 by omega)
    have hm : max u (-u) = (u.natAbs : Int) := by omega
    have HI := Lib.hid (fun (w : World) (ht : Tab w) => itoa_c (u.natAbs : Int) w (by omega) (by omega) ht)
    have hu30 := (nat_pow200 (u := u) (by omega)).2
    have hdl := digL_len hu30
    obtain ⟨D, hD⟩ : ∃ D : ByteArray, (⟨(Lib.decDigits u.natAbs).toArray⟩ : ByteArray) = D := ⟨_, rfl⟩
    rw [Int.toNat_natCast, hD] at HI
    have hDl : D.data.toList = digL u := by rw [← hD]; rfl
    have hDs : D.size = (digL u).length := by rw [← hDl]; simp
    rw [← hDs] at hdl
    have hwn : IntKind.i64.wrap (-u) = -u := IntWalk.i64_in _ (by omega)
    have HU := Lib.hid hdb; have HDL := Lib.hid hDl; have HDS := Lib.hid hDs; have HM := Lib.hid hm
    have u1 : -1000000000000000 ≤ u := hdb.1
    have u2 : u ≤ 1000000000000000 := hdb.2.1
    have HT := Lib.hid ht
    clear hdb hD hDl hDs hu30 hm ht hwn
    go_enter Tryz.func82, Tryz.ntmps82
    go_wp2_with fail
    refine (HC.out _).mono ?_
    rintro e w1 ⟨rfl, hb⟩
    have hX := heap_below (heap_new w (.cells #[.int .i64 u, .int .i64 (q : Int)] 32) rfl) hb
    have hB := below_then hb (by go_grown : Below w.heap.size w _) (by simp only [World.size_alloc]; omega)
    clear hb
    obtain ⟨a0, a1, -, -, a4⟩ := box2 hX
    have hz := hB.size
    have HTA := Lib.hid (HT.out.below (by exact hB))
    go_wp2_with fail
    rw [HM.out]
    refine (HI.out _ HTA.out).mono ?_
    rintro e w2 ⟨rfl, hb2⟩
    have hX2 := heap_below hX hb2
    have hB2 := below_then hb2 hB hz
    have hz2 := hB2.size
    clear hX hB hb2 a0 a1 a4
    obtain ⟨a0, a1, -, -, a4⟩ := box2 hX2
    obtain ⟨c, hc⟩ : ∃ c : Nat, q + 1 - D.size = c := ⟨_, rfl⟩
    have HREP := Lib.hid (Tryz.strings_Repeat ⟨#[48]⟩ c)
    have E1 := Lib.hid (show max (0 : Int) ((q : Int) + 1 - (D.size : Int)) = ((c : Nat) : Int) by omega)
    have hc10 : c ≤ 10 := by have := HQ.out; omega
    have HPD := Lib.hid (show padL (digL u) q = List.replicate c 48 ++ D.data.toList by unfold padL; rw [← HDS.out, hc, HDL.out])
    have hq9 : q ≤ 9 := HQ.out
    have hqc : q + 1 ≤ c + D.size := by omega
    clear hc
    go_wp2_with fail
    rw [E1.out]
    refine (HREP.out _ (by omega) (by show 1 * c ≤ _; omega)).mono ?_
    rintro e w3 ⟨rfl, hb3⟩
    obtain ⟨R, hR⟩ : ∃ R : ByteArray, (⟨(Lib.repeatL [48] c).toArray⟩ : ByteArray) = R := ⟨_, rfl⟩
    have hRs : R.size = c := by rw [← hR, repeat_one]; show (List.replicate c (48 : UInt8)).toArray.size = c; simp
    have hRl : R.data.toList = List.replicate c 48 := by rw [← hR, repeat_one]
    have hR2 : (⟨(Lib.repeatL (⟨#[48]⟩ : ByteArray).data.toList c).toArray⟩ : ByteArray) = R := hR
    rw [hR2]
    have hX3 := heap_below hX2 hb3
    have hB3 := below_then hb3 hB2 hz2
    have hz3 := hB3.size
    obtain ⟨t, ht⟩ : ∃ t : ByteArray, R ++ D = t := ⟨_, rfl⟩
    have htl : t.data.toList = padL (digL u) q := by rw [HPD.out, ← ht, ByteArray.data_append, Array.toList_append, hRl]
    have hts : t.size = c + D.size := by rw [← ht, ByteArray.size_append, hRs]
    have HTT := Lib.hid ht; have HTL := Lib.hid htl
    have hcond : ¬ 9223372036854775807 < R.size + D.size := by omega
    clear hR hR2 hRl htl hX2 hB2 hb3 a0 a1 a4
    obtain ⟨a0, a1, -, -, a4⟩ := box2 hX3
    have htl' : t.data.toList.length = t.size := by simp
    rcases Nat.eq_zero_or_pos q with h0 | h0
    · subst h0
      have hfin : ∀ X : ByteArray, X.data.toList = sgL u → (X ++ t).data.toList = textL u 0 := by
        intro X hX
        rw [ByteArray.data_append, Array.toList_append, hX, HTL.out]
        unfold textL befL
        simp
      have HFIN := Lib.hid hfin
      clear hfin
      by_cases hn : u < 0
      · have hcat : ¬ 9223372036854775807 < 1 + t.size := by omega
        have HG := Lib.hid (show sgL u = [45] from if_pos hn)
        go_wp2
        go_ret2
        exact ⟨_, rfl, HFIN.out _ HG.out.symm, hB3⟩
      · have HG := Lib.hid (show sgL u = [] from if_neg hn)
        go_wp2
        go_ret2
        exact ⟨_, rfl, by have := HFIN.out ⟨#[]⟩ HG.out.symm; simpa using this, hB3⟩
    · have hq0 : (0 : Int) < (q : Int) := by omega
      have hqt : q ≤ t.size := by omega
      have hts2 : t.size ≤ 50 := by omega
      clear hts
      obtain ⟨A, hA⟩ : ∃ A, t.extract 0 (t.size - q) = A := ⟨_, rfl⟩
      obtain ⟨B, hB⟩ : ∃ B, t.extract (t.size - q) t.size = B := ⟨_, rfl⟩
      have hAs : A.size = t.size - q := by rw [← hA, ByteArray.size_extract]; omega
      have hBs : B.size = q := by rw [← hB, ByteArray.size_extract]; omega
      have hAl : A.data.toList = befL u q := by unfold befL; rw [← HTL.out, ← hA, htl', Lib.extract_data]; simp
      have hBl : B.data.toList = behL u q := by unfold behL; rw [← HTL.out, ← hB, htl', Lib.extract_to_end]
      have hfin : ∀ X : ByteArray, X.data.toList = sgL u → (X ++ (A ++ ⟨#[46]⟩ ++ B)).data.toList = textL u q := by
        intro X hX
        simp only [ByteArray.data_append, Array.toList_append, hX, hAl, hBl]
        unfold textL
        rw [if_neg (by omega)]
        simp
      have HFIN := Lib.hid hfin
      have k1 : ¬ 9223372036854775807 < A.size + 1 := by omega
      have k2 : ¬ 9223372036854775807 < A.size + 1 + B.size := by omega
      have k3 : ¬ 9223372036854775807 < 1 + (A.size + 1 + B.size) := by omega
      clear hfin hAl hBl
      have e1 : IntKind.i64.wrap ((t.size : Int) - (q : Int)) = (t.size : Int) - (q : Int) := IntWalk.i64_in _ (by omega)
      have e2 : (q : Int) ≤ (t.size : Int) := by omega
      have e2' : (0 : Int) ≤ (t.size : Int) - (q : Int) := by omega
      have e3 : ((t.size : Int) - (q : Int)).toNat = t.size - q := by omega
      have e4 : (t.size : Int) - (q : Int) ≤ (t.size : Int) := by omega
      go_wp2_with fail
      go_quiet (fail)
      clear e1 e2 e2' e3 e4
      by_cases hn : u < 0
      · have HG := Lib.hid (show sgL u = [45] from if_pos hn)
        go_wp2
        go_ret2
        exact ⟨_, rfl, HFIN.out _ HG.out.symm, below_drewN hB3 _⟩
      · have HG := Lib.hid (show sgL u = [] from if_neg hn)
        go_wp2
        go_ret2
        exact ⟨_, rfl, by have := HFIN.out ⟨#[]⟩ HG.out.symm; simpa using this, below_drewN hB3 _⟩
theorem digit_c (l : List Nat) (A : Option Addr) (n c : Nat) (i : Nat) (w : World) (hd : Dig w .i64 3 A n l) (hn : n ≤ 9223372036854775807) :
    Calls Tryz.prog 74 #[.slice A n c, .int .i64 i] w fun e w' => w = w' ∧ e = .returned (.int .i64 (dg l i : Nat)) := by
  have hl := hd.1
  by_cases hi : i < n
  · obtain ⟨g, rfl, hg, hc⟩ := hd.at_ (by omega)
    have hx := hc i hi
    have hi' : (i : Int) < (n : Int) := by omega
    clear hc
    go_enter Tryz.func74, Tryz.ntmps74
    go_wp2
    go_ret
    exact ⟨rfl, rfl⟩
  · have e : dg l i = 0 := dg_out (by omega)
    have hi' : ¬ (i : Int) < (n : Int) := by omega
    rw [e]
    go_enter Tryz.func74, Tryz.ntmps74
    go_wp2
    go_ret
    exact ⟨rfl, rfl⟩
theorem sign_r {s : Bool} {A : Option Addr} {n c : Nat} {z : Int} {w : World} (h : Big .i64 3 B6 w s A n c z) :
    Calls Tryz.prog 80 #[.agg #[.bool s, .slice A n c]] w fun e w' => Below w.heap.size w w' ∧ e = .returned (.int .i64 (if z < 0 then -1 else if z = 0 then 0 else 1)) := by
  obtain ⟨l, hd, _, _, hg, hn, hs, rfl⟩ := h
  have hl := hd.1
  by_cases h0 : n = 0
  · subst h0
    have e : l = [] := List.length_eq_zero_iff.1 hl
    subst e
    have e : (if sg s (val B6 []) < 0 then (-1 : Int) else if sg s (val B6 []) = 0 then 0 else 1) = 0 := by simp [sg, val]
    rw [e]
    go_enter Tryz.func80, Tryz.ntmps80
    go_wp2
    go_ret
    exact ⟨by go_grown, rfl⟩
  · have hn0 : ((n : Int) == 0) = false := by simp; omega
    have hne : l ≠ [] := by rintro rfl; simp at hl; omega
    have hz : ¬ sg s (val B6 l) = 0 := by rw [sg_zero (by decide) hn]; exact hne
    have hlt := sg_neg (neg := s) (b := B6) (by decide) hn hs
    rcases (by cases s <;> simp : s = true ∨ s = false) with rfl | rfl
    · have e : (if sg true (val B6 l) < 0 then (-1 : Int) else if sg true (val B6 l) = 0 then 0 else 1) = -1 := if_pos (hlt.2 rfl)
      rw [e]
      clear hz hlt
      go_enter Tryz.func80, Tryz.ntmps80
      go_wp2
      go_ret
      exact ⟨by go_grown, rfl⟩
    · have e : (if sg false (val B6 l) < 0 then (-1 : Int) else if sg false (val B6 l) = 0 then 0 else 1) = 1 := by rw [if_neg (by rw [hlt]; simp), if_neg hz]
      rw [e]
      clear hz hlt
      go_enter Tryz.func80, Tryz.ntmps80
      go_wp2
      go_ret
      exact ⟨by go_grown, rfl⟩
def cellLen (w : World) (g : Nat) : Nat := match w.cell? ⟨g, 1, none⟩ with | some (.slice _ k _) => k | _ => 0
theorem cellLen_of {w : World} {g k c : Nat} {x : Value} {A : Option Addr} {T : TypeId} (h : w.heap[g]? = some (.cells #[x, .slice A k c] T (0, 0))) : cellLen w g = k := by
  unfold cellLen
  rw [(box2 h).2.1]
set_option maxHeartbeats 400000 in
theorem trimmed_r (l : List Nat) (s : Bool) (A : Option Addr) (n c : Nat) (w : World) (hd : Dig w .i64 3 A n l) (hc : n ≤ c) (hm : c ≤ maxLen) :
    Calls Tryz.prog 75 #[.agg #[.bool s, .slice A n c]] w fun e w' => Below w.heap.size w w' ∧ ∃ k, k ≤ n ∧ trim l = l.take k ∧ e = .returned (.agg #[.bool (s && decide (0 < k)), .slice A k c]) := by
  unfold maxLen at hm
  go_enter Tryz.func75, Tryz.ntmps75
  go_wp2
  generalize hw1 : (w.alloc (Obj.cells #[Value.bool s, Value.slice A n c] 73)).alloc (Obj.cells #[Value.bool false, Value.slice none 0 0] 73) = w1
  obtain ⟨hX, hR, hB⟩ := boxes2 _ _ _ _ _ _ _ w1 hw1
  clear hw1
  go_loopw [] (fun wr => ∃ k, k ≤ n ∧ wr.heap[w.heap.size]? = some (.cells #[.bool s, .slice A k c] 73 (0, 0)) ∧ wr.heap[w.heap.size + 1]? = some (.cells #[.bool false, .slice none 0 0] 73 (0, 0)) ∧ trim (l.take k) = trim l ∧ Below w.heap.size w wr) (fun wr => cellLen wr w.heap.size)
  case atStart => exact ⟨n, Nat.le_refl _, hX, hR, by rw [List.take_of_length_le (by rw [hd.1]; exact Nat.le_refl _)], hB⟩
  case round =>
    clear hX hR hB w1
    obtain ⟨k, hk, hX, hR, ht, hB⟩ := hrel
    have HT := Lib.hid ht; clear ht
    obtain ⟨x0, x1, x2, x3, x4⟩ := box2 hX
    obtain ⟨r0, r1, r2, r3, r4⟩ := box2 hR
    have hl := hd.1
    rcases k with _ | k
    · go_wp2
      obtain ⟨y0, y1, -, -, -⟩ := box2 (heap_far hR (p := ⟨w.heap.size, 0, none⟩) (by simp) (.bool false))
      refine bodyPost_ret (v := .agg #[.bool false, .slice A 0 c]) (by simp [results, Tryz.results75, go_sem, y0, y1]) rfl ⟨by go_grown, 0, Nat.zero_le _, by rw [← HT.out, List.take_zero]; rfl, by simp⟩
    · obtain ⟨g, rfl, hg, hcell⟩ := hd.at_ (by omega)
      have hx := (hB.cell (p := ⟨g, k, none⟩) hg).trans (hcell k (by omega))
      clear hcell
      by_cases h0 : dg l k = 0
      · go_wp2
        go_roundw
        case rel => exact ⟨k, by omega, by have := heap_set hX 1 (.slice (some ⟨g, 0, none⟩) k c); simpa using this, heap_far hR (by simp) _, by rw [← HT.out, trim_take_zero (by omega) h0], hB.setCell (Nat.le_refl _) _⟩
        case measure => rw [cellLen_of hX, cellLen_of (A := some ⟨g, 0, none⟩) (k := k) (c := c) (T := 73) (x := .bool s) (by have := heap_set hX 1 (.slice (some ⟨g, 0, none⟩) k c); simpa using this)]; omega
      · go_wp2
        refine bodyPost_ret (v := .agg #[.bool s, .slice (some ⟨g, 0, none⟩) (k + 1) c]) (by simp [results, Tryz.results75, go_sem, r0, r1]) rfl ⟨by go_grown, k + 1, by omega, by rw [← HT.out, trim_take_pos (by omega) h0], by simp⟩
theorem minus_r {s : Bool} {A : Option Addr} {n c : Nat} {z : Int} {w : World} (h : Big .i64 3 B6 w s A n c z) :
    Calls Tryz.prog 134 #[.agg #[.bool s, .slice A n c]] w (Makes .i64 3 B6 w (-z)) := by
  obtain ⟨l, hd, hnc, hcm, hg, hn, hs, rfl⟩ := h
  have hl := hd.1
  by_cases h0 : 0 < n
  · go_enter Tryz.func134, Tryz.ntmps134
    go_wp2
    go_returns
    refine ⟨_, _, _, _, rfl, ⟨l, (hd.alloc _).alloc _, hnc, hcm, hg, hn, fun _ e => ?_, ?_⟩, by go_grown⟩
    · subst e; simp at hl; omega
    · cases s <;> simp [sg]
  · have e : l = [] := List.length_eq_zero_iff.1 (by omega)
    have hs' : s = false := by cases s with | false => rfl | true => exact absurd e (hs rfl)
    subst hs'; subst e
    go_enter Tryz.func134, Tryz.ntmps134
    go_wp2
    go_returns
    exact ⟨_, _, _, _, rfl, ⟨[], (hd.alloc _).alloc _, hnc, hcm, hg, hn, (fun h => by cases h), by simp [sg, val]⟩, by go_grown⟩
theorem grown_heap {w w' : World} {B E g n size : Nat} {cs : Array Value} {T : TypeId} {f : Nat × Nat} {v : Value} {xs : List Value} (h : w.heap[g]? = some (.cells cs T f)) (hown : w.ownsRow B E size v n xs) (hg : w.grownBy w' v.ownBlock) (hne : E ≠ T) : w'.heap[g]? = some (.cells cs T f) := by
  refine (hg.block g (lt_heap h) ?_).trans h
  rcases hown.2 with ⟨hv, _⟩ | ⟨g', cap, cur, hv, _, hh, _⟩
  · subst hv; simp [Value.ownBlock]
  · subst hv
    have := heap_ne hh h hne
    simp [Value.ownBlock]
    omega
theorem own_ge {w : World} {B E n size : Nat} {v : Value} {xs : List Value} (hown : w.ownsRow B E size v n xs) : ∀ g, v.ownBlock = some g → B ≤ g := by
  intro g hg
  rcases hown.2 with ⟨hv, _⟩ | ⟨g', cap, cur, hv, hb, hh, _⟩
  · subst hv; simp [Value.ownBlock] at hg
  · subst hv; simp [Value.ownBlock] at hg; omega
theorem own_away {w : World} {B E g i n size : Nat} {cs : Array Value} {T : TypeId} {f : Nat × Nat} {v : Value} {xs : List Value} (hown : w.ownsRow B E size v n xs) (h : w.heap[g]? = some (.cells cs T f)) (hne : E ≠ T) (u : Value) : (w.setCell ⟨g, i, none⟩ u).ownsRow B E size v n xs := by
  refine ⟨hown.1, ?_⟩
  rcases hown.2 with hv | ⟨g', cap, cur, hv, hb, hh, hr⟩
  · exact .inl hv
  · exact .inr ⟨g', cap, cur, hv, hb, heap_far hh (heap_ne hh h hne) _, hr⟩
theorem of_len {os : List Nat} {y z : Nat} (hval : val B6 os + B6 ^ os.length * y = z) (hy : y ≠ 0) (hz : z ≤ 9223372036854775808) : os.length ≤ 3 := by
  rcases Nat.lt_or_ge os.length 4 with h | h
  · omega
  · have h1 : B6 ^ 4 ≤ B6 ^ os.length := Nat.pow_le_pow_right (by decide) h
    have h2 : B6 ^ os.length * 1 ≤ B6 ^ os.length * y := Nat.mul_le_mul_left _ (by omega)
    have h3 : B6 ^ 4 = 1000000000000000000000000 := by decide
    omega
theorem of_step {os : List Nat} {y z t q : Nat} (hval : val B6 os + B6 ^ os.length * y = z) (ht : t = y % 1000000) (hq : q = y / 1000000) : val B6 (os ++ [t]) + B6 ^ (os ++ [t]).length * q = z := by
  subst ht; subst hq
  rw [val_snoc, List.length_append, List.length_singleton, Nat.pow_succ, ← hval, Nat.mul_assoc, Nat.add_assoc, ← Nat.mul_add]
  have : y % 1000000 + B6 * (y / 1000000) = y := by unfold B6; omega
  rw [this]
theorem Tryz.info3 : (Tryz.prog.info? 3).map (fun i => (i.zero, i.size, i.bytes)) = some (some (.int .i64 0), 1, 8) := by kernel_rfl
set_option maxRecDepth 100000 in
theorem of_r (z : Int) (w : World) (hz : -9223372036854775808 ≤ z ∧ z ≤ 9223372036854775807) :
    Calls Tryz.prog 77 #[.int .i64 z] w (Makes .i64 3 B6 w z) := by
  obtain ⟨i0, hi, hz0, hz1, hz2⟩ := info_parts Tryz.info3
  go_enter Tryz.func77, Tryz.ntmps77
  go_wp2
  generalize hs : decide (z < 0) = s
  have HS := Lib.hid hs; clear hs
  generalize hw1 : (w.alloc (Obj.cells #[Value.bool false, Value.slice none 0 0] 73)).alloc (Obj.cells #[Value.bool s, Value.slice none 0 0] 73) = w1
  obtain ⟨hR, hX, hB⟩ := boxes2 _ _ _ _ _ _ _ w1 hw1
  clear hw1
  go_loopw [0] (fun v wr => ∃ (y : Int) (os : List Nat) (A : Option Addr) (c : Nat), v = .int .i64 y ∧ y.natAbs ≤ z.natAbs ∧ (y < 0 → z < 0) ∧ (0 < y → 0 < z) ∧ wr.heap[w.heap.size]? = some (.cells #[.bool false, .slice none 0 0] 73 (0, 0)) ∧
      wr.heap[w.heap.size + 1]? = some (.cells #[.bool s, .slice A os.length c] 73 (0, 0)) ∧ wr.ownsRow w.heap.size 3 1 (.slice A os.length c) os.length (digV .i64 os) ∧
      Digs B6 os ∧ os.length ≤ 4 ∧ (y = 0 → Norm os) ∧ val B6 os + B6 ^ os.length * y.natAbs = z.natAbs ∧ Below w.heap.size w wr) (fun v _ => (intOf v).natAbs)
  case atStart => exact ⟨z, [], none, 0, rfl, Nat.le_refl _, id, id, hR, hX, World.ownsRow_nil _ _ _ _, Digs.nil _, by simp, fun _ => norm_nil, by simp [val], hB⟩
  case round =>
    clear hR hX hB w1
    obtain ⟨y, os, A, c, rfl, hy, hn1, hn2, hR, hX, hown, gos, hlen, hnorm, hval, hB⟩ := hrel
    obtain ⟨x0, x1, x2, x3, x4⟩ := box2 hX
    obtain ⟨r0, r1, r2, r3, r4⟩ := box2 hR
    have HV := Lib.hid hval; have HN := Lib.hid hnorm; clear hval hnorm
    by_cases h0 : y = 0
    · subst h0
      go_wp2
      have hz0 : z.natAbs = val B6 os := by have := HV.out; simp at this; omega
      refine bodyPost_ret (v := .agg #[.bool s, .slice A os.length c]) (by simp [results, Tryz.results77, go_sem, r0, r1]) rfl ⟨_, _, _, _, rfl, ⟨os, ?_, (own_cap hown).1, (own_cap hown).2, gos, HN.out trivial, ?_, ?_⟩, by go_grown⟩
      · exact ((Dig.of_own hown).far hR (by decide) _).far (heap_set hR 0 _) (by decide) _
      · intro e1 e2
        subst e2
        have := HS.out
        rw [e1] at this
        have := of_decide_eq_true this
        simp [val] at hz0
        omega
      · have := HS.out
        unfold sg
        cases s with
        | true => have := of_decide_eq_true this; simp; omega
        | false => have := of_decide_eq_false this; simp; omega
    · have h0' : (y != 0) = true := by simpa using h0
      have ht1 : (y.tmod 1000000).natAbs = y.natAbs % 1000000 := by rw [Int.natAbs_tmod]; rfl
      have hq1 : (y.tdiv 1000000).natAbs = y.natAbs / 1000000 := by rw [Int.natAbs_tdiv]; rfl
      have hq2 : y = 1000000 * y.tdiv 1000000 + y.tmod 1000000 := (Int.mul_tdiv_add_tmod y 1000000).symm
      have hq3 : 0 ≤ y → 0 ≤ y.tdiv 1000000 := fun h => Int.tdiv_nonneg h (by omega)
      have hq4 : y ≤ 0 → y.tdiv 1000000 ≤ 0 := fun h => by have := Int.tdiv_nonneg (a := -y) (b := 1000000) (by omega) (by omega); rw [Int.neg_tdiv] at this; omega
      obtain ⟨t, hte⟩ : ∃ t, y.tmod 1000000 = t := ⟨_, rfl⟩
      obtain ⟨q, hqe⟩ : ∃ q, y.tdiv 1000000 = q := ⟨_, rfl⟩
      rw [hte] at ht1 hq2
      rw [hqe] at hq1 hq2 hq3 hq4
      have HT := Lib.hid ht1; have HQ := Lib.hid hq1; have HQ2 := Lib.hid hq2; have HQ3 := Lib.hid hq3; have HQ4 := Lib.hid hq4
      have hb1 : -999999 ≤ t := by omega
      have hb2 : t ≤ 999999 := by omega
      have hb3 : -9223372036856 ≤ q := by omega
      have hb4 : q ≤ 9223372036856 := by omega
      have hlen3 := of_len HV.out (by omega) (by omega)
      have hd1 : t.natAbs < 1000000 := by omega
      obtain ⟨d, hd⟩ : ∃ d, d = t.natAbs := ⟨_, rfl⟩
      have HD := Lib.hid hd
      have hst : val B6 (os ++ [d]) + B6 ^ (os ++ [d]).length * q.natAbs = z.natAbs := of_step HV.out (by omega) (by omega)
      have HST := Lib.hid hst
      rw [← hd] at hd1
      clear hst hd
      clear ht1 hq1 hq2 hq3 hq4
      by_cases hneg : t < -t
      · have hmx : max t (-t) = -t := by omega
        go_wp2_with (first
          | (at_builtin; refine wpList_push_own rfl _ _ 71 rfl w.heap.size 3 i0 (.int .i64 0) 8 Tryz.underlying71 hi hz0 hz1 hz2 rfl (.slice A os.length c) os.length (digV .i64 os) rfl hown (.int .i64 (-t)) rfl rfl (by unfold maxLen; omega) (by omega) hB.size ?_; intro A2 c2 w2 hown2 hg2; have hX2 := grown_heap hX hown hg2 (by decide); have hR2 := grown_heap hR hown hg2 (by decide); have hB2 := hB.grown hg2 hB.size (own_ge hown); have hbx := box2 hX2; obtain ⟨z0, z1, z2, z3, z4⟩ := hbx))
        go_roundw
        case rel =>
          have hlen2 : os.length + 1 = (os ++ [d]).length := by simp
          have hrow : digV .i64 os ++ [.int .i64 (-t)] = digV .i64 (os ++ [d]) := by rw [digV_snoc]; have := HD.out; congr 3; omega
          rw [hrow, hlen2] at hown2
          rw [hlen2]
          have hy0 := HQ3.out
          have hy1 := HQ4.out
          have hy2 := HQ2.out
          have hd0 := HD.out
          exact ⟨q, os ++ [d], A2, c2, by go_num, by omega, fun h => hn1 (by omega), fun h => hn2 (by omega), heap_far hR2 (by simp) _, by have := heap_set hX2 1 (.slice A2 (os ++ [d]).length c2); simpa using this, own_away hown2 hX2 (by decide) _, gos.snoc (by unfold B6; omega), by omega, fun h => norm_snoc.2 (by omega), HST.out, hB2.setCell (Nat.le_succ _) _⟩
        case measure => have hy0 := HQ.out; have hy1 : y ≠ 0 := h0; simp only [intOf]; omega
      · have hmx : max t (-t) = t := by omega
        go_wp2_with (first
          | (at_builtin; refine wpList_push_own rfl _ _ 71 rfl w.heap.size 3 i0 (.int .i64 0) 8 Tryz.underlying71 hi hz0 hz1 hz2 rfl (.slice A os.length c) os.length (digV .i64 os) rfl hown (.int .i64 t) rfl rfl (by unfold maxLen; omega) (by omega) hB.size ?_; intro A2 c2 w2 hown2 hg2; have hX2 := grown_heap hX hown hg2 (by decide); have hR2 := grown_heap hR hown hg2 (by decide); have hB2 := hB.grown hg2 hB.size (own_ge hown); have hbx := box2 hX2; obtain ⟨z0, z1, z2, z3, z4⟩ := hbx))
        go_roundw
        case rel =>
          have hlen2 : os.length + 1 = (os ++ [d]).length := by simp
          have hrow : digV .i64 os ++ [.int .i64 (t)] = digV .i64 (os ++ [d]) := by rw [digV_snoc]; have := HD.out; congr 3; omega
          rw [hrow, hlen2] at hown2
          rw [hlen2]
          have hy0 := HQ3.out
          have hy1 := HQ4.out
          have hy2 := HQ2.out
          have hd0 := HD.out
          exact ⟨q, os ++ [d], A2, c2, by go_num, by omega, fun h => hn1 (by omega), fun h => hn2 (by omega), heap_far hR2 (by simp) _, by have := heap_set hX2 1 (.slice A2 (os ++ [d]).length c2); simpa using this, own_away hown2 hX2 (by decide) _, gos.snoc (by unfold B6; omega), by omega, fun h => norm_snoc.2 (by omega), HST.out, hB2.setCell (Nat.le_succ _) _⟩
        case measure => have hy0 := HQ.out; have hy1 : y ≠ 0 := h0; simp only [intOf]; omega
end Go.Proofs.YtnnenokgjkpkiaaGreatDoor
