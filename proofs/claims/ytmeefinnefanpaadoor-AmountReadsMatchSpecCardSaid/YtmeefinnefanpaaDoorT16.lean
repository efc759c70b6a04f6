
/- The walks of the reference's ofDigits and ReadImplied. -/
import Derived.Test.YtmeefinnefanpaaDoorK5
import Derived.Test.YtmeefinnefanpaaDoorM0
import Derived.Test.YtmeefinnefanpaaDoorT12
import Derived.Test.YtmeefinnefanpaaDoorD1
namespace Go.Proofs.YtmeefinnefanpaaDoor
open Go.RowKit Limb Work Nmb
set_option linter.unusedVariables false
set_option linter.unusedSimpArgs false

theorem tdv_mono_take {l : List UInt8} : ∀ {j k : Nat}, k ≤ j → j ≤ l.length → dv (l.take k) ≤ dv (l.take j) := by
  intro j
  induction j with
  | zero =>
    intro k h _
    obtain rfl : k = 0 := by omega
    exact Nat.le_refl _
  | succ j ih =>
    intro k h hj
    rcases Nat.lt_or_ge j k with h1 | h1
    · obtain rfl : k = j + 1 := by omega
      exact Nat.le_refl _
    · have := ih h1 (by omega)
      rw [dv_take (by omega)]
      omega
def tmaxU (n : Nat) : Bool := decide (n ≤ 1000000000000000)
def RetTod (l : List UInt8) (w : World) (e : Ending) (w' : World) : Prop := w = w' ∧ e = .returned (.tuple #[.int .i64 (if tmaxU (dv l) = true then (dv l : Int) else 0), .bool (tmaxU (dv l))])
set_option maxHeartbeats 1000000 in
set_option maxRecDepth 100000 in
theorem tofd_c (s : ByteArray) (w : World) (hs : s.size ≤ 9223372036854775807) (hd : ∀ c ∈ s.data.toList, 48 ≤ c.toNat ∧ c.toNat ≤ 57) :
    Calls Tryd.prog 18 #[.string s] w (RetTod s.data.toList w) := by
  have hl := szL s
  have HD := Lib.hid (show ∀ k, (h : k < s.size) → 48 ≤ (s[k].toNat : Int) ∧ (s[k].toNat : Int) ≤ 57 from fun k h => by have := hd s[k] (by have := List.getElem_mem (l := s.data.toList) (n := k) (by simpa using h); exact this); omega)
  have HT := Lib.hid (show ∀ k, (h : k < s.size) → (dv (s.data.toList.take (k + 1)) : Int) = 10 * (dv (s.data.toList.take k) : Int) + ((s[k].toNat : Int) - 48) from fun k h => by
    have e := dv_take (l := s.data.toList) (k := k) (by omega)
    have h2 := hd s[k] (by have := List.getElem_mem (l := s.data.toList) (n := k) (by simpa using h); exact this)
    rw [e]
    show ((10 * dv (s.data.toList.take k) + (s[k].toNat - 48) : Nat) : Int) = _
    omega)
  have HE := Lib.hid (show s.data.toList.take s.size = s.data.toList by rw [← hl, List.take_length])
  have HM := Lib.hid (fun k (h : k ≤ s.size) => tdv_mono_take (l := s.data.toList) (j := s.size) (k := k) h (by omega))
  clear hd hl
  go_enter Tryd.func18, Tryd.ntmps18
  go_wp2
  go_loop [4, 8] (fun x i => ∃ k n : Nat, k ≤ s.size ∧ i = .int .i64 k ∧ x = .int .i64 n ∧ n ≤ 1000000000000000 ∧ Hid (dv (s.data.toList.take k) = n)) (fun _ i => s.size - (intOf i).toNat)
  case atStart => exact ⟨0, 0, Nat.zero_le _, rfl, rfl, by omega, Lib.hid rfl⟩
  case round =>
    obtain ⟨k, n, hk, rfl, rfl, hn, HN⟩ := hrel
    rcases Nat.lt_or_ge k s.size with hlt | hge
    · obtain ⟨d1, d2⟩ := HD.out k hlt
      have hT := HT.out k hlt
      rw [HN.out] at hT
      obtain ⟨m, hm⟩ : ∃ m, dv (s.data.toList.take (k + 1)) = m := ⟨_, rfl⟩
      rw [hm] at hT
      have HT2 := Lib.hid hT
      have HM2 := Lib.hid hm
      have hb1 : 0 ≤ (s[k].toNat : Int) - 48 ∧ (s[k].toNat : Int) - 48 ≤ 9 := by omega
      by_cases hbig : 1000000000000000 < 10 * (n : Int) + ((s[k].toNat : Int) - 48)
      · have hno := Lib.hid (show tmaxU (dv s.data.toList) = false by
          have := HM.out (k + 1) (by omega)
          rw [HE.out, hm] at this
          exact decide_eq_false (by omega))
        clear hT hm hb1
        go_wp2
        go_ret2
        refine ⟨rfl, ?_⟩
        rw [hno.out]; rfl
      · clear hT hm hb1
        go_wp2
        go_round
        case rel => exact ⟨k + 1, m, by omega, by go_num, by rw [HT2.out], by have := HT2.out; omega, HM2⟩
        case measure => simp [intOf]; omega
    · obtain rfl : k = s.size := by omega
      have hyes := Lib.hid (show tmaxU (dv s.data.toList) = true ∧ (dv s.data.toList : Int) = n by
        have h1 := HN.out
        rw [HE.out] at h1
        rw [h1]
        exact ⟨decide_eq_true hn, rfl⟩)
      go_wp2
      go_ret2
      refine ⟨rfl, ?_⟩
      rw [hyes.out.1, hyes.out.2]; rfl

theorem num_dvF : ∀ (l : List UInt8) (a : Nat), l.foldl (fun a c => a * 10 + (c.toNat - 48)) a = dvF l a
  | [], a => rfl
  | c :: l, a => by rw [List.foldl_cons, num_dvF l, dvF_cons, Nat.mul_comm]
theorem num_dv (l : List UInt8) : numL l = dv l := num_dvF l 0
theorem digs_digB (l : List UInt8) : digs l = digB l := by
  unfold digs digB inL inB
  rw [Bool.and_comm]
  congr 1
  have hb : ∀ i (h : i < l.length), byA l i = (l[i].toNat : Int) := by
    intro i h
    unfold byA
    rw [List.getD_eq_getElem?_getD, List.getElem?_eq_getElem h]
    rfl
  rw [Bool.eq_iff_iff, decide_eq_true_iff, List.all_eq_true]
  constructor
  · intro h c hc
    obtain ⟨i, hi, rfl⟩ := List.getElem_of_mem hc
    have := h i hi
    rw [hb i hi] at this
    exact decide_eq_true (by omega)
  · intro h i hi
    have := of_decide_eq_true (h l[i] (List.getElem_mem hi))
    rw [hb i hi]
    omega
theorem digB_all {l : List UInt8} (h : digB l = true) : ∀ c ∈ l, 48 ≤ c.toNat ∧ c.toNat ≤ 57 := by
  unfold digB at h
  rw [Bool.and_eq_true] at h
  intro c hc
  exact of_decide_eq_true (List.all_eq_true.1 h.2 c hc)

theorem tisdig_c (s : ByteArray) (w : World) (hs : s.size ≤ 9223372036854775807) :
    Calls Tryd.prog 16 #[.string s] w fun e w' => w = w' ∧ e = .returned (.bool (digB s.data.toList)) := by
  rw [← digs_digB]; exact rdigs_c s w hs
theorem tof_c (s : ByteArray) (w : World) (hs : s.size ≤ 9223372036854775807) (hd : digB s.data.toList = true) :
    Calls Tryd.prog 18 #[.string s] w fun e w' => w = w' ∧ e = .returned (.tuple #[.int .i64 (if numL s.data.toList ≤ 1000000000000000 then (numL s.data.toList : Int) else 0), .bool (decide (numL s.data.toList ≤ 1000000000000000))]) := by
  refine (tofd_c s w hs (digB_all hd)).mono ?_
  rintro e w' ⟨rfl, rfl⟩
  rw [num_dv]
  refine ⟨rfl, ?_⟩
  unfold tmaxU
  by_cases h : dv s.data.toList ≤ 1000000000000000
  · simp [h]
  · simp [h]

set_option maxHeartbeats 4000000 in
set_option maxRecDepth 100000 in
theorem rreadimp_c (s : ByteArray) (a : Int) (w : World) (hs : s.size ≤ 9223372036854775807) :
    Calls Tryd.prog 7 #[.string s, .int .i64 a] w (RetD (readImp s.data.toList a) w) := by
  have HWA := Lib.hid (fun w => within_c a 0 9 w)
  by_cases h1 : 0 ≤ a ∧ a ≤ 9
  case neg =>
    rw [decide_eq_false h1] at HWA
    rw [show readImp s.data.toList a = (0, 0, 1) from if_pos h1]
    clear h1
    go_enter Tryd.func7, Tryd.ntmps7
    go_wp2_with fail
    have hX := heap_new w (.cells #[.int .i64 0, .int .i64 0] 23) rfl
    have hb0 : Below w.heap.size w (w.alloc (.cells #[.int .i64 0, .int .i64 0] 23)) := by go_grown
    generalize w.alloc (.cells #[.int .i64 0, .int .i64 0] 23) = W at hX hb0 ⊢
    obtain ⟨g0, g1, g2, g3, g4⟩ := box2 hX
    refine (HWA.out _).mono ?_
    rintro e w1 ⟨rfl, rfl⟩
    go_wp2
    exact bodyPost_ret (v := .tuple #[.agg #[.int .i64 0, .int .i64 0], .int .i64 1]) (by simp [results, Tryd.results7, go_sem, g0, g1]) rfl ⟨rfl, by go_grown⟩
  rw [decide_eq_true h1] at HWA
  have hr : readImp s.data.toList a = if decide (30 < s.data.toList.length) || !digB (if s.data.toList.head? == some 45 then s.data.toList.tail else s.data.toList) then (0, 0, 10)
      else if numL (if s.data.toList.head? == some 45 then s.data.toList.tail else s.data.toList) ≤ 1000000000000000 then
        (if s.data.toList.head? == some 45 then -(numL (if s.data.toList.head? == some 45 then s.data.toList.tail else s.data.toList) : Int) else (numL (if s.data.toList.head? == some 45 then s.data.toList.tail else s.data.toList) : Int), a, 0)
      else (0, 0, 1) := if_neg (fun h => h h1)
  have HC := Lib.hid (fun w => cutp_c s 45 w hs)
  obtain ⟨neg, hneg⟩ : ∃ b, hasB s 45 = b := ⟨_, rfl⟩
  have hneg' : (s.data.toList.head? == some 45) = neg := hneg
  have hsl : s.data.toList.length = s.size := by simp
  rw [hneg', hsl] at hr
  have HR := Lib.hid hr
  have HN := Lib.hid hneg
  clear hr h1 hneg hneg'
  go_enter Tryd.func7, Tryd.ntmps7
  go_wp2_with fail
  have hX := heap_new w (.cells #[.int .i64 0, .int .i64 0] 23) rfl
  have hb0 : Below w.heap.size w (w.alloc (.cells #[.int .i64 0, .int .i64 0] 23)) := by go_grown
  generalize w.alloc (.cells #[.int .i64 0, .int .i64 0] 23) = W at hX hb0 ⊢
  obtain ⟨g0, g1, g2, g3, g4⟩ := box2 hX
  refine (HWA.out _).mono ?_
  rintro e w1 ⟨rfl, rfl⟩
  go_wp2_with fail
  refine (HC.out _).mono ?_
  rintro e w2 ⟨rfl, t, rfl, ht⟩
  rw [HN.out] at ht ⊢
  have hr := HR.out
  rw [← ht] at hr
  have hts : t.size ≤ s.size := by
    have h1 : t.data.toList.length = t.size := by simp
    rw [← h1, ht, ← hsl]
    split
    · simp
    · exact Nat.le_refl _
  clear ht hsl
  have HR := Lib.hid hr
  clear hr
  by_cases hl : 30 < s.size
  · have hl' : (30 : Int) < (s.size : Int) := by omega
    have HE := Lib.hid (show readImp s.data.toList a = (0, 0, 10) by rw [HR.out, decide_eq_true hl]; rfl)
    clear hl
    go_wp2
    exact bodyPost_ret (v := .tuple #[.agg #[.int .i64 0, .int .i64 0], .int .i64 10]) (by simp [results, Tryd.results7, go_sem, g0, g1]) rfl (RetD.of (r := (0, 0, 10)) ⟨rfl, by go_grown⟩ HE.out.symm)
  have hl' : ¬ (30 : Int) < (s.size : Int) := by omega
  have HG := Lib.hid (fun w => tisdig_c t w (by omega))
  cases hg : digB t.data.toList with
  | false =>
    rw [hg] at HG
    have HE := Lib.hid (show readImp s.data.toList a = (0, 0, 10) by rw [HR.out, hg]; simp)
    clear hg
    go_wp2_with fail
    refine (HG.out _).mono ?_
    rintro e w3 ⟨rfl, rfl⟩
    go_wp2
    exact bodyPost_ret (v := .tuple #[.agg #[.int .i64 0, .int .i64 0], .int .i64 10]) (by simp [results, Tryd.results7, go_sem, g0, g1]) rfl (RetD.of (r := (0, 0, 10)) ⟨rfl, by go_grown⟩ HE.out.symm)
  | true =>
    rw [hg] at HG
    have HOD := Lib.hid (fun w => tof_c t w (by omega) hg)
    have hff := HR.out
    rw [hg, decide_eq_false hl] at hff
    obtain ⟨n, hn⟩ : ∃ n, numL t.data.toList = n := ⟨_, rfl⟩
    rw [hn] at hff HOD
    by_cases hb : n ≤ 1000000000000000
    case neg =>
      rw [if_neg (by decide), if_neg hb] at hff
      rw [if_neg hb, decide_eq_false hb] at HOD
      have HE := Lib.hid hff
      clear hg hff hn hb hl
      go_wp2_with fail
      refine (HG.out _).mono ?_
      rintro e w3 ⟨rfl, rfl⟩
      go_wp2_with fail
      refine (HOD.out _).mono ?_
      rintro e w4 ⟨rfl, rfl⟩
      go_wp2
      exact bodyPost_ret (v := .tuple #[.agg #[.int .i64 0, .int .i64 0], .int .i64 1]) (by simp [results, Tryd.results7, go_sem, g0, g1]) rfl (RetD.of (r := (0, 0, 1)) ⟨rfl, by go_grown⟩ HE.out.symm)
    · rw [if_neg (by decide), if_pos hb] at hff
      rw [if_pos hb, decide_eq_true hb] at HOD
      have HE := Lib.hid hff
      clear hg hff hn hl
      cases neg with
      | true =>
        have HE := Lib.hid (show readImp s.data.toList a = (-(n : Int), a, 0) by rw [HE.out]; rfl)
        go_wp2_with fail
        refine (HG.out _).mono ?_
        rintro e w3 ⟨rfl, rfl⟩
        go_wp2_with fail
        refine (HOD.out _).mono ?_
        rintro e w4 ⟨rfl, rfl⟩
        go_wp2
        exact bodyPost_ret (v := .tuple #[.agg #[.int .i64 (-(n : Int)), .int .i64 a], .int .i64 0]) (by simp [results, Tryd.results7, go_sem, g0, g1]) rfl (RetD.of (r := ((-(n : Int)), a, 0)) ⟨rfl, by go_grown⟩ HE.out.symm)
      | false =>
        have HE := Lib.hid (show readImp s.data.toList a = ((n : Int), a, 0) by rw [HE.out]; rfl)
        go_wp2_with fail
        refine (HG.out _).mono ?_
        rintro e w3 ⟨rfl, rfl⟩
        go_wp2_with fail
        refine (HOD.out _).mono ?_
        rintro e w4 ⟨rfl, rfl⟩
        go_wp2
        exact bodyPost_ret (v := .tuple #[.agg #[.int .i64 (n : Int), .int .i64 a], .int .i64 0]) (by simp [results, Tryd.results7, go_sem, g0, g1]) rfl (RetD.of (r := ((n : Int), a, 0)) ⟨rfl, by go_grown⟩ HE.out.symm)
end Go.Proofs.YtmeefinnefanpaaDoor
