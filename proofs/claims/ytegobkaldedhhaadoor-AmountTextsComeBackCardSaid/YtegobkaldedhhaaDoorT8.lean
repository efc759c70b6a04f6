
/- The walk of the reference's Implied. -/
import Derived.Test.YtegobkaldedhhaaDoorT7
namespace Go.Proofs.YtegobkaldedhhaaDoor
open Go.RowKit Limb
set_option linter.unusedVariables false
set_option linter.unusedSimpArgs false

/-! ### Plain -/
def Imp (u v : Int) (p r : Nat) : Prop := r ≤ p ∧ u = v * ((10 ^ (p - r) : Nat) : Int)
theorem imp_abs {u v : Int} {p r : Nat} (h : Imp u v p r) (hp : p ≤ 9) : impN u (p : Int) = v.natAbs * 10 ^ (9 - r) := by
  obtain ⟨h1, h2⟩ := h
  unfold impN
  rw [h2, Int.natAbs_mul, Int.natAbs_natCast, Int.toNat_natCast, Nat.mul_assoc, ← Nat.pow_add]
  congr 2
  omega
theorem imp_clash {u v : Int} {p r a : Nat} (h : Imp u v p r) (hp : p ≤ 9) (ha : a < r) (hv : v.tmod 10 ≠ 0) : impN u (p : Int) % impD (a : Int) ≠ 0 := by
  rw [imp_abs h hp]
  unfold impD
  rw [Int.toNat_natCast, show 9 - a = (9 - r) + (r - a) by have := h.1; omega, Nat.pow_add, Nat.mul_comm v.natAbs, Nat.mul_mod_mul_left]
  intro e
  have h0 : 0 < 10 ^ (9 - r) := Nat.pow_pos (by decide)
  have h1 : v.natAbs % 10 ^ (r - a) = 0 := by
    rcases Nat.mul_eq_zero.1 e with h | h
    · omega
    · exact h
  have h2 : 10 ∣ v.natAbs := Nat.dvd_trans (by rw [show r - a = (r - a - 1) + 1 by omega, Nat.pow_succ]; exact Nat.dvd_mul_left _ _) (Nat.dvd_of_mod_eq_zero h1)
  apply hv
  have h3 : (10 : Int) ∣ v := by omega
  exact Int.tmod_eq_zero_of_dvd h3
theorem imp_next {u v : Int} {p r : Nat} (h : Imp u v p (r + 1)) (hv : v.tmod 10 = 0) : Imp u (v.tdiv 10) p r := by
  obtain ⟨h1, h2⟩ := h
  refine ⟨by omega, ?_⟩
  have h3 : v = v.tdiv 10 * 10 := by have := Int.tmod_add_mul_tdiv v 10; omega
  rw [h2, show p - r = (p - (r + 1)) + 1 by omega, Nat.pow_succ]
  generalize v.tdiv 10 = x at h3
  subst h3
  rw [Int.natCast_mul, Int.mul_assoc, Int.mul_comm 10]
  rfl
theorem imp_end {u v : Int} {p r a : Nat} (h : Imp u v p r) (hp : p ≤ 9) (ha : r ≤ a) (ha9 : a ≤ 9) : impN u (p : Int) % impD (a : Int) = 0 ∧ impN u (p : Int) / impD (a : Int) = v.natAbs * 10 ^ (a - r) := by
  rw [imp_abs h hp]
  unfold impD
  rw [Int.toNat_natCast, show 9 - r = (a - r) + (9 - a) by omega, Nat.pow_add, ← Nat.mul_assoc]
  exact ⟨Nat.mul_mod_left _ _, Nat.mul_div_cancel _ (Nat.pow_pos (by decide))⟩
theorem imp_neg {u v : Int} {p r : Nat} (h : Imp u v p r) : (u < 0 ↔ v < 0) ∧ (u = 0 ↔ v = 0) ∧ v.natAbs ≤ u.natAbs := by
  obtain ⟨h1, h2⟩ := h
  have h0 : 0 < 10 ^ (p - r) := Nat.pow_pos (by decide)
  generalize 10 ^ (p - r) = k at h0 h2
  have hk : (0 : Int) < (k : Int) := by omega
  subst h2
  refine ⟨⟨fun h => ?_, fun h => Int.mul_neg_of_neg_of_pos h hk⟩, ⟨fun h => ?_, fun h => by rw [h]; simp⟩, ?_⟩
  · rcases Int.lt_or_le v 0 with hv | hv
    · exact hv
    · have := Int.mul_nonneg hv (by omega : (0:Int) ≤ (k : Int)); omega
  · rcases Int.mul_eq_zero.1 h with h | h
    · exact h
    · omega
  · rw [Int.natAbs_mul, Int.natAbs_natCast]
    exact Nat.le_mul_of_pos_right _ h0
theorem dec_shift {m : Nat} (h : 0 < m) : ∀ k, Lib.decDigits (m * 10 ^ k) = Lib.decDigits m ++ List.replicate k 48
  | 0 => by simp
  | k + 1 => by
    have h1 : 0 < m * 10 ^ (k + 1) := Nat.mul_pos h (Nat.pow_pos (by decide))
    have h2 : 0 < m * 10 ^ k := Nat.mul_pos h (Nat.pow_pos (by decide))
    have h3 : m * 10 ^ (k + 1) = 10 * (m * 10 ^ k) := by rw [Nat.pow_succ, ← Nat.mul_assoc, Nat.mul_comm]
    rw [← tail_pos h1, tail_step h1, h3, Nat.mul_div_cancel_left _ (by decide), tail_pos h2, dec_shift h k, Nat.mul_mod_right, List.append_assoc]
    congr 1
    rw [List.replicate_succ']
    rfl
theorem itoas_c (v : Int) (w : World) (h : -9223372036854775808 ≤ v ∧ v ≤ 9223372036854775807) (ht : Tab w) :
    Calls Tryd.prog 56 #[.int .i64 v] w fun e w' => e = .returned (.string ⟨(Lib.itoa v).toArray⟩) ∧ Below w.heap.size w w' := by
  refine (Tryd.strconv_Itoa v h.1 h.2 w ht).mono ?_
  rintro e w' ⟨rfl, k, os, rfl⟩
  exact ⟨rfl, Lib.below_grow _ w (Nat.le_refl _) k os⟩
theorem u8_ge (n : Nat) (h : n < 256) : (UInt8.ofNat n).toNat = n := by rw [UInt8.toNat_ofNat']; exact Nat.mod_eq_of_lt h
theorem dec_48 : ∀ (n : Nat), ∀ c ∈ Lib.decDigits n, 48 ≤ c.toNat ∧ c.toNat ≤ 57 := by
  intro n
  induction n using Nat.strongRecOn with
  | _ n ih =>
    rw [Lib.decDigits]
    by_cases h : n < 10
    · rw [dif_pos h]
      have e := u8_ge (48 + n) (by omega)
      intro c hc
      obtain rfl := List.mem_singleton.1 hc
      omega
    · rw [dif_neg h]
      have e := u8_ge (48 + n % 10) (by omega)
      intro c hc
      rw [List.mem_append] at hc
      rcases hc with hc | hc
      · exact ih (n / 10) (by omega) c hc
      · obtain rfl := List.mem_singleton.1 hc
        omega
theorem trim_itoa (v : Int) : Lib.trimPrefix (Lib.itoa v) [45] = Lib.decDigits v.natAbs := by
  unfold Lib.itoa Lib.trimPrefix
  by_cases h : v < 0
  · rw [if_pos h]
    rw [if_pos (by simp [Lib.hasPrefix])]
    rfl
  · rw [if_neg h, show v.toNat = v.natAbs by omega]
    have h1 := dec_48 v.natAbs
    rcases hd : Lib.decDigits v.natAbs with _ | ⟨c, l⟩
    · rfl
    · rw [hd] at h1
      have := h1 c (by simp)
      have hc : c ≠ 45 := by rintro rfl; simp at this
      rw [if_neg (by simp [Lib.hasPrefix]; exact fun e => hc e.symm)]

set_option maxHeartbeats 1000000 in
set_option maxRecDepth 100000 in
theorem rimplied_c (u p a b : Int) (w : World) (ht : Tab w) (ha : -9223372036854775808 ≤ a ∧ a ≤ 9223372036854775807) (hb : -9223372036854775808 ≤ b ∧ b ≤ 9223372036854775807) :
    Calls Tryd.prog 31 #[.agg #[.int .i64 u, .int .i64 p], .int .i64 a, .int .i64 b] w (RetST (impR u p a b) (impF u p a b) w) := by
  have HC := Lib.hid (fun w => tdec_c u p w)
  have HWA := Lib.hid (fun w => within_c a 0 9 w)
  have HWB := Lib.hid (fun w => within_c b 1 30 w)
  cases hd : decB u p with
  | false =>
    have hf : impF u p a b = 1 := if_pos (by rw [hd]; simp)
    rw [show impR u p a b = [] from if_neg (by rw [hf]; decide), hf]
    rw [show decF u p = 1 from if_neg (by rw [hd]; decide)] at HC
    clear hd hf
    go_enter Tryd.func31, Tryd.ntmps31
    go_wp2_with fail
    refine (HC.out _).mono ?_
    rintro e w1 ⟨rfl, hb⟩
    go_wp2
    go_ret2
    refine ⟨_, rfl, rfl, ?_⟩
    go_grown
    exact below_then hb (by go_grown) (by simp only [World.size_alloc]; omega)
  | true =>
    have hdb := decB_out hd
    rw [show decF u p = 0 from if_pos hd] at HC
    by_cases h1 : 0 ≤ a ∧ a ≤ 9
    case neg =>
      have hf : impF u p a b = 1 := if_pos (by omega)
      rw [decide_eq_false h1] at HWA
      rw [show impR u p a b = [] from if_neg (by rw [hf]; decide), hf]
      clear hd hf h1
      go_enter Tryd.func31, Tryd.ntmps31
      go_wp2_with fail
      refine (HC.out _).mono ?_
      rintro e w1 ⟨rfl, hb⟩
      have hB := below_then hb (by go_grown : Below w.heap.size w _) (by simp only [World.size_alloc]; omega)
      clear hb
      go_wp2_with fail
      refine (HWA.out _).mono ?_
      rintro e w2 ⟨rfl, rfl⟩
      go_wp2
      go_ret2
      exact ⟨_, rfl, rfl, hB⟩
    rw [decide_eq_true h1] at HWA
    by_cases h2 : 1 ≤ b ∧ b ≤ 30
    case neg =>
      have hf : impF u p a b = 1 := if_pos (by omega)
      rw [decide_eq_false h2] at HWB
      rw [show impR u p a b = [] from if_neg (by rw [hf]; decide), hf]
      clear hd hf h1 h2
      go_enter Tryd.func31, Tryd.ntmps31
      go_wp2_with fail
      refine (HC.out _).mono ?_
      rintro e w1 ⟨rfl, hb⟩
      have hB := below_then hb (by go_grown : Below w.heap.size w _) (by simp only [World.size_alloc]; omega)
      clear hb
      go_wp2_with fail
      refine (HWA.out _).mono ?_
      rintro e w2 ⟨rfl, rfl⟩
      go_wp2_with fail
      refine (HWB.out _).mono ?_
      rintro e w2 ⟨rfl, rfl⟩
      go_wp2
      go_ret2
      exact ⟨_, rfl, rfl, hB⟩
    rw [decide_eq_true h2] at HWB
    have HF := Lib.hid (show impF u p a b = if impN u p % impD a ≠ 0 then 12 else if b < (sgL u).length + (Lib.decDigits (impN u p / impD a)).length then 16 else 0 from if_neg (by rw [hd]; simp; omega))
    obtain ⟨a, rfl⟩ : ∃ n : Nat, a = (n : Int) := ⟨a.toNat, by omega⟩
    obtain ⟨q, rfl⟩ : ∃ q : Nat, p = (q : Int) := ⟨p.toNat, by omega⟩
    have HU := Lib.hid hdb; have H1 := Lib.hid h1; have H2 := Lib.hid h2; have HT := Lib.hid ht
    clear hd hdb h1 h2 ha hb ht
    go_enter Tryd.func31, Tryd.ntmps31
    go_wp2_with fail
    refine (HC.out _).mono ?_
    rintro e w1 ⟨rfl, hb⟩
    have hX := heap_below (heap_new w (.cells #[.int .i64 u, .int .i64 (q : Int)] 40) rfl) hb
    have hB := below_then hb (by go_grown : Below w.heap.size w _) (by simp only [World.size_alloc]; omega)
    clear hb
    obtain ⟨a0, a1, -, -, a4⟩ := box2 hX
    have hz := hB.size
    go_wp2_with fail
    refine (HWA.out _).mono ?_
    rintro e w2 ⟨rfl, rfl⟩
    go_wp2_with fail
    refine (HWB.out _).mono ?_
    rintro e w2 ⟨rfl, rfl⟩
    go_wp2_with fail
    have hN0 := heap_new w1 (.cells #[.int .i64 u, .int .i64 (q : Int)] 40) rfl
    have hBN : Below w.heap.size w (w1.alloc (.cells #[.int .i64 u, .int .i64 (q : Int)] 40)) := below_then (by go_grown : Below w1.heap.size w1 _) hB hz
    clear hX a0 a1 hB
    obtain ⟨N, hN⟩ : ∃ N, w1.heap.size = N := ⟨_, rfl⟩
    rw [hN] at hN0 hz a4 ⊢
    go_loopg [] q (fun k wr => ∃ v : Int, Imp u v q k ∧ wr.heap[N]? = some (.cells #[.int .i64 v, .int .i64 (k : Int)] 40 (0, 0)) ∧ Below w.heap.size w wr)
    case atStart => exact ⟨u, ⟨Nat.le_refl _, by simp⟩, hN0, hBN⟩
    case round =>
      clear hN0 hBN
      obtain ⟨v, hI, hX, hB⟩ := hrel
      have HI := Lib.hid hI
      have hab := (imp_neg hI).2.2
      have hv1 : -1000000000000000 ≤ v ∧ v ≤ 1000000000000000 := by have := HU.out; omega
      have HV := Lib.hid hv1
      have hz2 := hB.size
      obtain ⟨a0, a1, a2, a3, a5⟩ := box2 hX
      have hgk : gk ≤ q := hI.1
      have hq9 : q ≤ 9 := by have := HU.out; omega
      clear hI hab hv1
      rcases Nat.lt_or_ge a gk with hlt | hge
      · obtain ⟨k, rfl⟩ : ∃ k, gk = k + 1 := ⟨gk - 1, by omega⟩
        by_cases h10 : v.tmod 10 = 0
        · have hvn : -1000000000000000 ≤ v.tdiv 10 ∧ v.tdiv 10 ≤ 1000000000000000 := by
            have h1 := imp_next HI.out h10
            have h2 := (imp_neg h1).2.2
            have := HU.out; omega
          have HIN := Lib.hid (imp_next HI.out h10)
          obtain ⟨x, hx⟩ : ∃ x, v.tdiv 10 = x := ⟨_, rfl⟩
          rw [hx] at HIN hvn
          have hkk : ((k + 1 : Nat) : Int) - 1 = (k : Int) := by omega
          obtain ⟨hv1, hv2⟩ := HV.out
          go_wp2_with fail
          go_roundg k
          case measure => omega
          case rel => exact ⟨x, HIN.out, by have := heap_set (heap_set hX 0 (.int .i64 x)) 1 (.int .i64 (k : Int)); simpa using this, (hB.setCell (p := ⟨N, 0, none⟩) hz _).setCell (p := ⟨N, 1, none⟩) hz _⟩
        · have hf := imp_clash HI.out hq9 hlt h10
          have hff := HF.out
          rw [if_pos hf] at hff
          have HFE := Lib.hid hff
          have h10' : (v.tmod 10 == 0) = false := beq_eq_false_iff_ne.2 h10
          clear hff hf
          go_wp2
          go_ret2
          exact RetST.of (l := []) (f := 12) ⟨_, rfl, rfl, hB⟩ (show impR u (q : Int) (a : Int) b = [] from if_neg (by rw [HFE.out]; decide)).symm HFE.out.symm
      · have hie := imp_end HI.out hq9 hge (by have := H1.out; omega)
        have hff := HF.out
        rw [if_neg (by rw [hie.1]; simp), hie.2] at hff
        have HFF := Lib.hid hff
        have HQT := Lib.hid hie.2
        have hneg := (imp_neg HI.out).1
        have HTA := Lib.hid (HT.out.below hB)
        have hv1 := HV.out
        have HIT := Lib.hid (fun (w : World) (ht : Tab w) => itoas_c v w (by omega) ht)
        obtain ⟨D, hD⟩ : ∃ D : ByteArray, (⟨(Lib.decDigits v.natAbs).toArray⟩ : ByteArray) = D := ⟨_, rfl⟩
        obtain ⟨I, hI⟩ : ∃ I : ByteArray, (⟨(Lib.itoa v).toArray⟩ : ByteArray) = I := ⟨_, rfl⟩
        rw [hI] at HIT
        have HTP := Lib.hid (fun w => Tryd.strings_TrimPrefix I ⟨#[45]⟩ w)
        have hItr : (⟨(Lib.trimPrefix I.data.toList (⟨#[45]⟩ : ByteArray).data.toList).toArray⟩ : ByteArray) = D := by
          rw [← hI, ← hD]
          exact congrArg (fun l => (⟨l.toArray⟩ : ByteArray)) (trim_itoa v)
        rw [hItr] at HTP
        have hDl : D.data.toList = Lib.decDigits v.natAbs := by rw [← hD]
        have hDs : D.size = (Lib.decDigits v.natAbs).length := by rw [← hDl]; simp
        have hDb : 1 ≤ D.size ∧ D.size ≤ 30 := by rw [hDs]; exact digL_len (u := v) (nat_pow200 (u := v) hv1).2
        have HDL := Lib.hid hDl; have HDS := Lib.hid hDs
        clear hD hI hItr hDl hDs hff hie hneg hv1
        go_wp2_with fail
        refine (HIT.out _ HTA.out).mono ?_
        rintro e w3 ⟨rfl, hb3⟩
        have hX3 := heap_below hX hb3
        have hB3 := below_then hb3 hB hz2
        have hz3 := hB3.size
        have hneg := (imp_neg HI.out).1
        clear hX hB hb3 a0 a1 a2 a3 a5
        obtain ⟨a0, a1, a2, a3, a5⟩ := box2 hX3
        go_wp2_with fail
        refine (HTP.out _).mono ?_
        rintro e w4 ⟨rfl, rfl⟩
        -- TAIL-BEGIN
        rcases Int.lt_trichotomy v 0 with hv0 | hv0 | hv0
        · have hsl : sgL u = [45] := if_pos (by rw [hneg]; omega)
          have ha9 : a ≤ 9 := by have := H1.out; omega
          have hv0' : (v == 0) = false := beq_eq_false_iff_ne.2 (by omega)
          obtain ⟨c, hc⟩ : ∃ c : Nat, (a : Int) - (gk : Int) = (c : Int) := ⟨a - gk, by omega⟩
          have hca : a - gk = c := by omega
          have hc9 : c ≤ 9 := by have := H1.out; omega
          have HREP := Lib.hid (Tryd.strings_Repeat ⟨#[48]⟩ c)
          obtain ⟨R, hR⟩ : ∃ R : ByteArray, (⟨(Lib.repeatL [48] c).toArray⟩ : ByteArray) = R := ⟨_, rfl⟩
          have hRs : R.size = c := by rw [← hR, repeat_one]; show (List.replicate c (48 : UInt8)).toArray.size = c; simp
          have hRl : R.data.toList = List.replicate c 48 := by rw [← hR, repeat_one]
          have HR := Lib.hid (show (⟨(Lib.repeatL (⟨#[48]⟩ : ByteArray).data.toList c).toArray⟩ : ByteArray) = R from hR)
          obtain ⟨G, hG⟩ : ∃ G, D ++ R = G := ⟨_, rfl⟩
          have hGl : G.data.toList = Lib.decDigits (v.natAbs * 10 ^ (a - gk)) := by rw [← hG, ByteArray.data_append, Array.toList_append, HDL.out, hRl, hca, dec_shift (by omega)]
          have hGs : G.size = (Lib.decDigits (v.natAbs * 10 ^ (a - gk))).length := by rw [← hGl]; simp
          have hGb : 1 ≤ G.size ∧ G.size ≤ 40 := by rw [← hG, ByteArray.size_append]; omega
          have hcat : ¬ 9223372036854775807 < D.size + R.size := by omega
          have HGL := Lib.hid hGl
          have hff := HFF.out
          rw [hsl, ← hGs] at hff
          have HGF := Lib.hid hff
          have HSL := Lib.hid hsl
          clear hR hRl hca
          clear hff hGs hGl hsl
          have HC2 := Lib.hid hc
          clear hc
          go_wp2_with fail
          rw [HC2.out]
          refine (HREP.out _ (by omega) (by show 1 * c ≤ _; omega)).mono ?_
          rintro e w5 ⟨rfl, hb5⟩
          rw [HR.out]
          have hX5 := heap_below hX3 hb5
          have hB5 := below_then hb5 hB3 hz3
          have hz5 := hB5.size
          clear hX3 hB3 hb5 a0 a1 a2 a3 a5
          obtain ⟨a0, a1, a2, a3, a5⟩ := box2 hX5
          have hff := HGF.out
          by_cases hw : b < ((([45] : List UInt8).length : Nat) : Int) + (G.size : Int)
          · rw [if_pos hw] at hff
            have HFE := Lib.hid hff
            have hw2 : b - 1 < (G.size : Int) := by simp at hw; omega
            have hbb := H2.out
            obtain ⟨hb1, hb30⟩ := hbb
            clear hff hw
            go_wp2
            go_ret2
            exact RetST.of (l := []) (f := 16) ⟨_, rfl, rfl, hB5⟩ (show impR u (q : Int) (a : Int) b = [] from if_neg (by rw [HFE.out]; decide)).symm HFE.out.symm
          · rw [if_neg hw] at hff
            have HFE := Lib.hid hff
            have hw2 : ¬ b - 1 < (G.size : Int) := by simp at hw; omega
            have hbb := H2.out
            obtain ⟨hb1, hb30⟩ := hbb
            obtain ⟨k, hk⟩ : ∃ k : Nat, b - 1 - (G.size : Int) = (k : Int) := ⟨(b - 1 - (G.size : Int)).toNat, by omega⟩
            have hkn : b.toNat - 1 - G.size = k := by omega
            have hk30 : k ≤ 30 := by omega
            have HREP2 := Lib.hid (Tryd.strings_Repeat ⟨#[48]⟩ k)
            obtain ⟨R2, hR2⟩ : ∃ R : ByteArray, (⟨(Lib.repeatL [48] k).toArray⟩ : ByteArray) = R := ⟨_, rfl⟩
            have hR2s : R2.size = k := by rw [← hR2, repeat_one]; show (List.replicate k (48 : UInt8)).toArray.size = k; simp
            have hR2l : R2.data.toList = List.replicate k 48 := by rw [← hR2, repeat_one]
            have HR2 := Lib.hid (show (⟨(Lib.repeatL (⟨#[48]⟩ : ByteArray).data.toList k).toArray⟩ : ByteArray) = R2 from hR2)
            have HR2L := Lib.hid hR2l
            have HKI := Lib.hid (show b - 1 - (G.size : Int) = (k : Int) from hk)
            have HKN := Lib.hid hkn
            have hcat2 : ¬ 9223372036854775807 < R2.size + G.size := by omega
            have hcat3 : ¬ 9223372036854775807 < 1 + (R2.size + G.size) := by omega
            have HRR := Lib.hid (show impR u (q : Int) (a : Int) b = impS u (q : Int) (a : Int) b from if_pos hff)
            clear hff hw hk hkn hR2 hR2l
            go_wp2_with fail
            rw [HKI.out]
            refine (HREP2.out _ (by omega) (by show 1 * k ≤ _; omega)).mono ?_
            rintro e w6 ⟨rfl, hb6⟩
            rw [HR2.out]
            have hX6 := heap_below hX5 hb6
            have hB6 := below_then hb6 hB5 hz5
            clear a0 a1 a2 a3 a5
            obtain ⟨a0, a1, a2, a3, a5⟩ := box2 hX6
            go_wp2
            go_ret2
            refine RetST.of (f := 0) ⟨_, rfl, rfl, hB6⟩ ?_ HFE.out.symm
            rw [HRR.out]
            unfold impS
            rw [HQT.out, HSL.out, ← HGL.out]
            simp only [ByteArray.data_append, Array.toList_append, HR2L.out]
            have hlen : G.data.toList.length = G.size := by simp
            have hkn2 : b.toNat - ([45] : List UInt8).length - G.data.toList.length = k := by rw [hlen]; have := HKN.out; simpa using this
            rw [hkn2]
            simp
        · have hsl : sgL u = [] := if_neg (by rw [hneg]; omega)
          subst hv0
          have hGl : D.data.toList = Lib.decDigits (Int.natAbs 0 * 10 ^ (a - gk)) := by rw [HDL.out]; simp
          obtain ⟨G, hG⟩ : ∃ G, D = G := ⟨_, rfl⟩
          subst hG
          have hGs : D.size = (Lib.decDigits (Int.natAbs 0 * 10 ^ (a - gk))).length := by rw [← hGl]; simp
          have hGb : 1 ≤ D.size ∧ D.size ≤ 40 := by omega
          have HGL := Lib.hid hGl
          have hff := HFF.out
          rw [hsl, ← hGs] at hff
          have HGF := Lib.hid hff
          have HSL := Lib.hid hsl
          clear hff hGs hGl hsl
          have hff := HGF.out
          by_cases hw : b < ((([] : List UInt8).length : Nat) : Int) + (D.size : Int)
          · rw [if_pos hw] at hff
            have HFE := Lib.hid hff
            have hw2 : b - 0 < (D.size : Int) := by simp at hw; omega
            have hw3 : b < (D.size : Int) := by omega
            have hbb := H2.out
            obtain ⟨hb1, hb30⟩ := hbb
            clear hff hw
            go_wp2
            go_ret2
            exact RetST.of (l := []) (f := 16) ⟨_, rfl, rfl, hB3⟩ (show impR u (q : Int) (a : Int) b = [] from if_neg (by rw [HFE.out]; decide)).symm HFE.out.symm
          · rw [if_neg hw] at hff
            have HFE := Lib.hid hff
            have hw2 : ¬ b - 0 < (D.size : Int) := by simp at hw; omega
            have hw3 : ¬ b < (D.size : Int) := by omega
            have hbb := H2.out
            obtain ⟨hb1, hb30⟩ := hbb
            obtain ⟨k, hk⟩ : ∃ k : Nat, b - 0 - (D.size : Int) = (k : Int) := ⟨(b - 0 - (D.size : Int)).toNat, by omega⟩
            have hkn : b.toNat - 0 - D.size = k := by omega
            have hk30 : k ≤ 30 := by omega
            have HREP2 := Lib.hid (Tryd.strings_Repeat ⟨#[48]⟩ k)
            obtain ⟨R2, hR2⟩ : ∃ R : ByteArray, (⟨(Lib.repeatL [48] k).toArray⟩ : ByteArray) = R := ⟨_, rfl⟩
            have hR2s : R2.size = k := by rw [← hR2, repeat_one]; show (List.replicate k (48 : UInt8)).toArray.size = k; simp
            have hR2l : R2.data.toList = List.replicate k 48 := by rw [← hR2, repeat_one]
            have HR2 := Lib.hid (show (⟨(Lib.repeatL (⟨#[48]⟩ : ByteArray).data.toList k).toArray⟩ : ByteArray) = R2 from hR2)
            have HR2L := Lib.hid hR2l
            have HKI := Lib.hid (show b - 0 - (D.size : Int) = (k : Int) from hk)
            have HKJ := Lib.hid (show b - (D.size : Int) = (k : Int) by omega)
            have HKN := Lib.hid hkn
            have hcat2 : ¬ 9223372036854775807 < R2.size + D.size := by omega
            have hcat3 : ¬ 9223372036854775807 < 1 + (R2.size + D.size) := by omega
            have HRR := Lib.hid (show impR u (q : Int) (a : Int) b = impS u (q : Int) (a : Int) b from if_pos hff)
            clear hff hw hk hkn hR2 hR2l
            go_wp2_with fail
            rw [HKJ.out]
            refine (HREP2.out _ (by omega) (by show 1 * k ≤ _; omega)).mono ?_
            rintro e w6 ⟨rfl, hb6⟩
            rw [HR2.out]
            have hX6 := heap_below hX3 hb6
            have hB6 := below_then hb6 hB3 hz3
            clear a0 a1 a2 a3 a5
            obtain ⟨a0, a1, a2, a3, a5⟩ := box2 hX6
            go_wp2
            go_ret2
            refine RetST.of (f := 0) ⟨_, rfl, rfl, hB6⟩ ?_ HFE.out.symm
            rw [HRR.out]
            unfold impS
            rw [HQT.out, HSL.out, ← HGL.out]
            simp only [ByteArray.data_append, Array.toList_append, HR2L.out]
            have hlen : D.data.toList.length = D.size := by simp
            have hkn2 : b.toNat - ([] : List UInt8).length - D.data.toList.length = k := by rw [hlen]; have := HKN.out; simpa using this
            rw [hkn2]
            simp
        · have hsl : sgL u = [] := if_neg (by rw [hneg]; omega)
          have ha9 : a ≤ 9 := by have := H1.out; omega
          have hv0' : (v == 0) = false := beq_eq_false_iff_ne.2 (by omega)
          obtain ⟨c, hc⟩ : ∃ c : Nat, (a : Int) - (gk : Int) = (c : Int) := ⟨a - gk, by omega⟩
          have hca : a - gk = c := by omega
          have hc9 : c ≤ 9 := by have := H1.out; omega
          have HREP := Lib.hid (Tryd.strings_Repeat ⟨#[48]⟩ c)
          obtain ⟨R, hR⟩ : ∃ R : ByteArray, (⟨(Lib.repeatL [48] c).toArray⟩ : ByteArray) = R := ⟨_, rfl⟩
          have hRs : R.size = c := by rw [← hR, repeat_one]; show (List.replicate c (48 : UInt8)).toArray.size = c; simp
          have hRl : R.data.toList = List.replicate c 48 := by rw [← hR, repeat_one]
          have HR := Lib.hid (show (⟨(Lib.repeatL (⟨#[48]⟩ : ByteArray).data.toList c).toArray⟩ : ByteArray) = R from hR)
          obtain ⟨G, hG⟩ : ∃ G, D ++ R = G := ⟨_, rfl⟩
          have hGl : G.data.toList = Lib.decDigits (v.natAbs * 10 ^ (a - gk)) := by rw [← hG, ByteArray.data_append, Array.toList_append, HDL.out, hRl, hca, dec_shift (by omega)]
          have hGs : G.size = (Lib.decDigits (v.natAbs * 10 ^ (a - gk))).length := by rw [← hGl]; simp
          have hGb : 1 ≤ G.size ∧ G.size ≤ 40 := by rw [← hG, ByteArray.size_append]; omega
          have hcat : ¬ 9223372036854775807 < D.size + R.size := by omega
          have HGL := Lib.hid hGl
          have hff := HFF.out
          rw [hsl, ← hGs] at hff
          have HGF := Lib.hid hff
          have HSL := Lib.hid hsl
          clear hR hRl hca
          clear hff hGs hGl hsl
          have HC2 := Lib.hid hc
          clear hc
          go_wp2_with fail
          rw [HC2.out]
          refine (HREP.out _ (by omega) (by show 1 * c ≤ _; omega)).mono ?_
          rintro e w5 ⟨rfl, hb5⟩
          rw [HR.out]
          have hX5 := heap_below hX3 hb5
          have hB5 := below_then hb5 hB3 hz3
          have hz5 := hB5.size
          clear hX3 hB3 hb5 a0 a1 a2 a3 a5
          obtain ⟨a0, a1, a2, a3, a5⟩ := box2 hX5
          have hff := HGF.out
          by_cases hw : b < ((([] : List UInt8).length : Nat) : Int) + (G.size : Int)
          · rw [if_pos hw] at hff
            have HFE := Lib.hid hff
            have hw2 : b - 0 < (G.size : Int) := by simp at hw; omega
            have hw3 : b < (G.size : Int) := by omega
            have hbb := H2.out
            obtain ⟨hb1, hb30⟩ := hbb
            clear hff hw
            go_wp2
            go_ret2
            exact RetST.of (l := []) (f := 16) ⟨_, rfl, rfl, hB5⟩ (show impR u (q : Int) (a : Int) b = [] from if_neg (by rw [HFE.out]; decide)).symm HFE.out.symm
          · rw [if_neg hw] at hff
            have HFE := Lib.hid hff
            have hw2 : ¬ b - 0 < (G.size : Int) := by simp at hw; omega
            have hw3 : ¬ b < (G.size : Int) := by omega
            have hbb := H2.out
            obtain ⟨hb1, hb30⟩ := hbb
            obtain ⟨k, hk⟩ : ∃ k : Nat, b - 0 - (G.size : Int) = (k : Int) := ⟨(b - 0 - (G.size : Int)).toNat, by omega⟩
            have hkn : b.toNat - 0 - G.size = k := by omega
            have hk30 : k ≤ 30 := by omega
            have HREP2 := Lib.hid (Tryd.strings_Repeat ⟨#[48]⟩ k)
            obtain ⟨R2, hR2⟩ : ∃ R : ByteArray, (⟨(Lib.repeatL [48] k).toArray⟩ : ByteArray) = R := ⟨_, rfl⟩
            have hR2s : R2.size = k := by rw [← hR2, repeat_one]; show (List.replicate k (48 : UInt8)).toArray.size = k; simp
            have hR2l : R2.data.toList = List.replicate k 48 := by rw [← hR2, repeat_one]
            have HR2 := Lib.hid (show (⟨(Lib.repeatL (⟨#[48]⟩ : ByteArray).data.toList k).toArray⟩ : ByteArray) = R2 from hR2)
            have HR2L := Lib.hid hR2l
            have HKI := Lib.hid (show b - 0 - (G.size : Int) = (k : Int) from hk)
            have HKJ := Lib.hid (show b - (G.size : Int) = (k : Int) by omega)
            have HKN := Lib.hid hkn
            have hcat2 : ¬ 9223372036854775807 < R2.size + G.size := by omega
            have hcat3 : ¬ 9223372036854775807 < 1 + (R2.size + G.size) := by omega
            have HRR := Lib.hid (show impR u (q : Int) (a : Int) b = impS u (q : Int) (a : Int) b from if_pos hff)
            clear hff hw hk hkn hR2 hR2l
            go_wp2_with fail
            rw [HKJ.out]
            refine (HREP2.out _ (by omega) (by show 1 * k ≤ _; omega)).mono ?_
            rintro e w6 ⟨rfl, hb6⟩
            rw [HR2.out]
            have hX6 := heap_below hX5 hb6
            have hB6 := below_then hb6 hB5 hz5
            clear a0 a1 a2 a3 a5
            obtain ⟨a0, a1, a2, a3, a5⟩ := box2 hX6
            go_wp2
            go_ret2
            refine RetST.of (f := 0) ⟨_, rfl, rfl, hB6⟩ ?_ HFE.out.symm
            rw [HRR.out]
            unfold impS
            rw [HQT.out, HSL.out, ← HGL.out]
            simp only [ByteArray.data_append, Array.toList_append, HR2L.out]
            have hlen : G.data.toList.length = G.size := by simp
            have hkn2 : b.toNat - ([] : List UInt8).length - G.data.toList.length = k := by rw [hlen]; have := HKN.out; simpa using this
            rw [hkn2]
            simp
        -- TAIL-END
end Go.Proofs.YtegobkaldedhhaaDoor
