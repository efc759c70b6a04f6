
/- The walk of the law AmountNumbersTellMistakes. -/
import Derived.Test.YtegobkaldedhhaaDoorK12
namespace Go.Proofs.YtegobkaldedhhaaDoor
open Go.RowKit Limb Nmb Work
set_option linter.unusedVariables false
set_option linter.unusedSimpArgs false

theorem num_len {kind : Int} {l : List UInt8} (h : numB kind l = true) : 8 ≤ l.length ∧ l.length ≤ 34 := by
  unfold numB at h
  split at h
  · unfold bankB bankForm at h
    simp only [Bool.and_eq_true] at h
    have := of_decide_eq_true h.1.1
    omega
  · split at h
    · unfold taxB at h
      simp only [Bool.and_eq_true] at h
      have := of_decide_eq_true h.1
      omega
    · unfold plainB lenB at h
      simp only [Bool.and_eq_true] at h
      have h := h.1
      split at h
      · have := of_decide_eq_true h; omega
      · split at h
        · have := of_decide_eq_true h; omega
        · have := of_decide_eq_true h; omega
theorem str_ne {s t : ByteArray} (h : t ≠ s) : (t.toList == s.toList) = false ∧ (s.toList == t.toList) = false := ⟨(Lib.bytes_beq_false_iff t s).2 h, (Lib.bytes_beq_false_iff s t).2 (fun e => h e.symm)⟩

set_option maxHeartbeats 1000000 in
set_option maxRecDepth 100000 in
theorem law_tell_no (kind : Int) (body : ByteArray) (place y : Int) (w : World) (hf : cmpF kind body.data.toList ≠ 0) (ht : Tab w) :
    Calls Tryd.prog 8 #[.int .i64 kind, .string body, .int .i64 place, .int .i64 y] w fun e w' => e = .returned (.bool true) ∧ Below w.heap.size w w' := by
  have hs : cmpS kind body.data.toList = ⟨#[]⟩ := by
    unfold cmpF at hf
    unfold cmpS
    split at hf
    · rename_i h
      rw [if_pos h]
      cases hc : compF kind body.data.toList with
      | none => rfl
      | some l => rw [hc] at hf; exact absurd rfl hf
    · rename_i h
      rw [if_neg h]
  have HC := Lib.hid (fun w ht => Completed_c kind body w ht)
  rw [hs] at HC
  obtain ⟨f, hff⟩ : ∃ f, cmpF kind body.data.toList = f := ⟨_, rfl⟩
  rw [hff] at HC hf
  have e0 : (f == 0) = false := beq_eq_false_iff_ne.2 hf
  have e1 : (f != 0) = true := by unfold bne; rw [e0]; rfl
  clear hs hff hf
  go_enter Tryd.func8, Tryd.ntmps8
  go_wp2_with fail
  refine (HC.out _ ht).mono ?_
  rintro e w1 ⟨rfl, b1⟩
  go_wp2_with fail
  refine (awake_c _).mono ?_
  rintro e w9 ⟨rfl, c9⟩
  have b9 := below_then c9 b1 b1.size
  go_wp2
  go_ret
  exact ⟨rfl, b9⟩

set_option maxHeartbeats 2000000 in
set_option maxRecDepth 100000 in
theorem law_tell_one (kind : Int) (body : ByteArray) (l : List UInt8) (place y : Int) (w : World) (hk : kindB kind = true) (hkc : kind = 1) (hc : compF kind body.data.toList = some l) (ht : Tab w)
    (hp : -9223372036854775808 ≤ place ∧ place ≤ 9223372036854775807) (hy : -9223372036854775808 ≤ y ∧ y ≤ 9223372036854775807) :
    Calls Tryd.prog 8 #[.int .i64 kind, .string body, .int .i64 place, .int .i64 y] w fun e w' => e = .returned (.bool true) ∧ Below w.heap.size w w' := by
  have hnum := comp_right hc
  have hlen := num_len hnum
  have HC := Lib.hid (fun w ht => Completed_c kind body w ht)
  rw [show cmpF kind body.data.toList = 0 by unfold cmpF; rw [if_pos hk, hc]; rfl, show cmpS kind body.data.toList = ⟨l.toArray⟩ by unfold cmpS; rw [if_pos hk, hc]; rfl] at HC
  obtain ⟨s, hs⟩ : ∃ s : ByteArray, (⟨l.toArray⟩ : ByteArray) = s := ⟨_, rfl⟩
  have hsl : s.data.toList = l := by rw [← hs]
  rw [hs] at HC
  rw [← hsl] at hnum hlen
  rw [szL] at hlen
  have HK := Lib.hid hk
  have HNB := Lib.hid hnum
  have HN := Lib.hid (fun w => IsNumber_yes kind s w (by omega) hk)
  rw [hnum] at HN
  have HG := Lib.hid (fun w => changed_c s place y w (by omega) (by omega) hp hy)
  have HX := Lib.hid (fun w => exchanged_c s place w (by omega) (by omega) hp)
  subst hkc
  have HWd := Lib.hid (fun w => Widened_yes s w hnum)
  obtain ⟨wd, hwd⟩ : ∃ t : ByteArray, (⟨(wide s.data.toList).toArray⟩ : ByteArray) = t := ⟨_, rfl⟩
  have hwl : wd.data.toList = wide s.data.toList := by rw [← hwd]
  have hwn := wide_num hnum
  rw [← hwl] at hwn
  have hwz := num_len hwn
  rw [szL] at hwz
  rw [hwd] at HWd
  have HWn := Lib.hid (fun w => IsNumber_yes 1 wd w (by omega) rfl)
  rw [hwn] at HWn
  clear hwd hwl hwn hwz
  clear hs hsl hc hk hnum hp hy
  go_enter Tryd.func8, Tryd.ntmps8
  go_wp2_with fail
  refine (HC.out _ ht).mono ?_
  rintro e v1 ⟨rfl, b1⟩
  go_wp2_with fail
  refine (HN.out _).mono ?_
  rintro e v2 ⟨rfl, c2⟩
  have b2 := below_then c2 b1 b1.size
  go_wp2_with fail
  refine (awake_c _).mono ?_
  rintro e v3 ⟨rfl, c3⟩
  have b3 := below_then c3 b2 b2.size
  go_wp2_with fail
  refine (HG.out _).mono ?_
  rintro e v4 ⟨t, rfl, hR, c4⟩
  have b4 := below_then c4 b3 b3.size
  rcases hR with rfl | ⟨hne, hz, hno⟩
  · skip
    go_wp2_with fail
    refine (HWd.out _).mono ?_
    rintro e v20 ⟨rfl, c20⟩
    have b20 := below_then c20 b4 b4.size
    go_wp2_with fail
    refine (HWn.out _).mono ?_
    rintro e v21 ⟨rfl, c21⟩
    have b21 := below_then c21 b20 b20.size
    go_wp2_with fail
    refine (HX.out _).mono ?_
    rintro e v30 ⟨t2, rfl, hR2, c30⟩
    have b30 := below_then c30 b21 b21.size
    rcases hR2 with rfl | ⟨hne2, hz2, hno2⟩
    · skip
      go_wp2_with fail
      refine (HN.out _).mono ?_
      rintro e v31 ⟨rfl, c31⟩
      have b31 := below_then c31 b30 b30.size
      go_wp2
      go_ret
      exact ⟨rfl, b31⟩
    · obtain ⟨n1, n2⟩ := str_ne hne2
      have HY2 := Lib.hid (fun w => IsNumber_yes 1 t2 w (by omega) HK.out)
      rw [hno2 1 (by omega) (by omega) HNB.out] at HY2
      clear hne2 hz2 hno2
      go_wp2_with fail
      refine (HY2.out _).mono ?_
      rintro e v31 ⟨rfl, c31⟩
      have b31 := below_then c31 b30 b30.size
      go_wp2
      go_ret
      exact ⟨rfl, b31⟩
  · obtain ⟨m1, m2⟩ := str_ne hne
    have HY := Lib.hid (fun w => IsNumber_yes 1 t w (by omega) HK.out)
    rw [hno 1 HNB.out] at HY
    clear hne hz hno
    go_wp2_with fail
    refine (HY.out _).mono ?_
    rintro e v5 ⟨rfl, c5⟩
    have b5 := below_then c5 b4 b4.size
    go_wp2_with fail
    refine (HWd.out _).mono ?_
    rintro e v20 ⟨rfl, c20⟩
    have b20 := below_then c20 b5 b5.size
    go_wp2_with fail
    refine (HWn.out _).mono ?_
    rintro e v21 ⟨rfl, c21⟩
    have b21 := below_then c21 b20 b20.size
    go_wp2_with fail
    refine (HX.out _).mono ?_
    rintro e v30 ⟨t2, rfl, hR2, c30⟩
    have b30 := below_then c30 b21 b21.size
    rcases hR2 with rfl | ⟨hne2, hz2, hno2⟩
    · skip
      go_wp2_with fail
      refine (HN.out _).mono ?_
      rintro e v31 ⟨rfl, c31⟩
      have b31 := below_then c31 b30 b30.size
      go_wp2
      go_ret
      exact ⟨rfl, b31⟩
    · obtain ⟨n1, n2⟩ := str_ne hne2
      have HY2 := Lib.hid (fun w => IsNumber_yes 1 t2 w (by omega) HK.out)
      rw [hno2 1 (by omega) (by omega) HNB.out] at HY2
      clear hne2 hz2 hno2
      go_wp2_with fail
      refine (HY2.out _).mono ?_
      rintro e v31 ⟨rfl, c31⟩
      have b31 := below_then c31 b30 b30.size
      go_wp2
      go_ret
      exact ⟨rfl, b31⟩

set_option maxHeartbeats 2000000 in
set_option maxRecDepth 100000 in
theorem law_tell_mid (kind : Int) (body : ByteArray) (l : List UInt8) (place y : Int) (w : World) (hk : kindB kind = true) (hkc : kind = 2 ∨ kind = 3) (hc : compF kind body.data.toList = some l) (ht : Tab w)
    (hp : -9223372036854775808 ≤ place ∧ place ≤ 9223372036854775807) (hy : -9223372036854775808 ≤ y ∧ y ≤ 9223372036854775807) :
    Calls Tryd.prog 8 #[.int .i64 kind, .string body, .int .i64 place, .int .i64 y] w fun e w' => e = .returned (.bool true) ∧ Below w.heap.size w w' := by
  have hnum := comp_right hc
  have hlen := num_len hnum
  have HC := Lib.hid (fun w ht => Completed_c kind body w ht)
  rw [show cmpF kind body.data.toList = 0 by unfold cmpF; rw [if_pos hk, hc]; rfl, show cmpS kind body.data.toList = ⟨l.toArray⟩ by unfold cmpS; rw [if_pos hk, hc]; rfl] at HC
  obtain ⟨s, hs⟩ : ∃ s : ByteArray, (⟨l.toArray⟩ : ByteArray) = s := ⟨_, rfl⟩
  have hsl : s.data.toList = l := by rw [← hs]
  rw [hs] at HC
  rw [← hsl] at hnum hlen
  rw [szL] at hlen
  have HK := Lib.hid hk
  have HNB := Lib.hid hnum
  have HN := Lib.hid (fun w => IsNumber_yes kind s w (by omega) hk)
  rw [hnum] at HN
  have HG := Lib.hid (fun w => changed_c s place y w (by omega) (by omega) hp hy)
  have HX := Lib.hid (fun w => exchanged_c s place w (by omega) (by omega) hp)
  have k3 : ¬ 3 < kind := by omega
  have k1 : (kind == 1) = false := by rcases hkc with rfl | rfl <;> rfl
  clear hs hsl hc hk hnum hp hy
  go_enter Tryd.func8, Tryd.ntmps8
  go_wp2_with fail
  refine (HC.out _ ht).mono ?_
  rintro e v1 ⟨rfl, b1⟩
  go_wp2_with fail
  refine (HN.out _).mono ?_
  rintro e v2 ⟨rfl, c2⟩
  have b2 := below_then c2 b1 b1.size
  go_wp2_with fail
  refine (awake_c _).mono ?_
  rintro e v3 ⟨rfl, c3⟩
  have b3 := below_then c3 b2 b2.size
  go_wp2_with fail
  refine (HG.out _).mono ?_
  rintro e v4 ⟨t, rfl, hR, c4⟩
  have b4 := below_then c4 b3 b3.size
  rcases hR with rfl | ⟨hne, hz, hno⟩
  · skip
    go_wp2_with fail
    refine (HX.out _).mono ?_
    rintro e v30 ⟨t2, rfl, hR2, c30⟩
    have b30 := below_then c30 b4 b4.size
    rcases hR2 with rfl | ⟨hne2, hz2, hno2⟩
    · skip
      go_wp2_with fail
      refine (HN.out _).mono ?_
      rintro e v31 ⟨rfl, c31⟩
      have b31 := below_then c31 b30 b30.size
      go_wp2
      go_ret
      exact ⟨rfl, b31⟩
    · obtain ⟨n1, n2⟩ := str_ne hne2
      have HY2 := Lib.hid (fun w => IsNumber_yes kind t2 w (by omega) HK.out)
      rw [hno2 kind (by omega) (by omega) HNB.out] at HY2
      clear hne2 hz2 hno2
      go_wp2_with fail
      refine (HY2.out _).mono ?_
      rintro e v31 ⟨rfl, c31⟩
      have b31 := below_then c31 b30 b30.size
      go_wp2
      go_ret
      exact ⟨rfl, b31⟩
  · obtain ⟨m1, m2⟩ := str_ne hne
    have HY := Lib.hid (fun w => IsNumber_yes kind t w (by omega) HK.out)
    rw [hno kind HNB.out] at HY
    clear hne hz hno
    go_wp2_with fail
    refine (HY.out _).mono ?_
    rintro e v5 ⟨rfl, c5⟩
    have b5 := below_then c5 b4 b4.size
    go_wp2_with fail
    refine (HX.out _).mono ?_
    rintro e v30 ⟨t2, rfl, hR2, c30⟩
    have b30 := below_then c30 b5 b5.size
    rcases hR2 with rfl | ⟨hne2, hz2, hno2⟩
    · skip
      go_wp2_with fail
      refine (HN.out _).mono ?_
      rintro e v31 ⟨rfl, c31⟩
      have b31 := below_then c31 b30 b30.size
      go_wp2
      go_ret
      exact ⟨rfl, b31⟩
    · obtain ⟨n1, n2⟩ := str_ne hne2
      have HY2 := Lib.hid (fun w => IsNumber_yes kind t2 w (by omega) HK.out)
      rw [hno2 kind (by omega) (by omega) HNB.out] at HY2
      clear hne2 hz2 hno2
      go_wp2_with fail
      refine (HY2.out _).mono ?_
      rintro e v31 ⟨rfl, c31⟩
      have b31 := below_then c31 b30 b30.size
      go_wp2
      go_ret
      exact ⟨rfl, b31⟩

set_option maxHeartbeats 2000000 in
set_option maxRecDepth 100000 in
theorem law_tell_big (kind : Int) (body : ByteArray) (l : List UInt8) (place y : Int) (w : World) (hk : kindB kind = true) (hkc : 4 ≤ kind) (hc : compF kind body.data.toList = some l) (ht : Tab w)
    (hp : -9223372036854775808 ≤ place ∧ place ≤ 9223372036854775807) (hy : -9223372036854775808 ≤ y ∧ y ≤ 9223372036854775807) :
    Calls Tryd.prog 8 #[.int .i64 kind, .string body, .int .i64 place, .int .i64 y] w fun e w' => e = .returned (.bool true) ∧ Below w.heap.size w w' := by
  have hnum := comp_right hc
  have hlen := num_len hnum
  have HC := Lib.hid (fun w ht => Completed_c kind body w ht)
  rw [show cmpF kind body.data.toList = 0 by unfold cmpF; rw [if_pos hk, hc]; rfl, show cmpS kind body.data.toList = ⟨l.toArray⟩ by unfold cmpS; rw [if_pos hk, hc]; rfl] at HC
  obtain ⟨s, hs⟩ : ∃ s : ByteArray, (⟨l.toArray⟩ : ByteArray) = s := ⟨_, rfl⟩
  have hsl : s.data.toList = l := by rw [← hs]
  rw [hs] at HC
  rw [← hsl] at hnum hlen
  rw [szL] at hlen
  have HK := Lib.hid hk
  have HNB := Lib.hid hnum
  have HN := Lib.hid (fun w => IsNumber_yes kind s w (by omega) hk)
  rw [hnum] at HN
  have HG := Lib.hid (fun w => changed_c s place y w (by omega) (by omega) hp hy)
  have k3 : 3 < kind := by omega
  clear hs hsl hc hk hnum hkc hp hy
  go_enter Tryd.func8, Tryd.ntmps8
  go_wp2_with fail
  refine (HC.out _ ht).mono ?_
  rintro e v1 ⟨rfl, b1⟩
  go_wp2_with fail
  refine (HN.out _).mono ?_
  rintro e v2 ⟨rfl, c2⟩
  have b2 := below_then c2 b1 b1.size
  go_wp2_with fail
  refine (awake_c _).mono ?_
  rintro e v3 ⟨rfl, c3⟩
  have b3 := below_then c3 b2 b2.size
  go_wp2_with fail
  refine (HG.out _).mono ?_
  rintro e v4 ⟨t, rfl, hR, c4⟩
  have b4 := below_then c4 b3 b3.size
  rcases hR with rfl | ⟨hne, hz, hno⟩
  · skip
    go_wp2
    go_ret
    exact ⟨rfl, b4⟩
  · obtain ⟨m1, m2⟩ := str_ne hne
    have HY := Lib.hid (fun w => IsNumber_yes kind t w (by omega) HK.out)
    rw [hno kind HNB.out] at HY
    clear hne hz hno
    go_wp2_with fail
    refine (HY.out _).mono ?_
    rintro e v5 ⟨rfl, c5⟩
    have b5 := below_then c5 b4 b4.size
    go_wp2
    go_ret
    exact ⟨rfl, b5⟩

theorem law_tell (kind : Int) (body : ByteArray) (place y : Int) (w : World) (ht : Tab w)
    (hp : -9223372036854775808 ≤ place ∧ place ≤ 9223372036854775807) (hy : -9223372036854775808 ≤ y ∧ y ≤ 9223372036854775807) :
    Calls Tryd.prog 8 #[.int .i64 kind, .string body, .int .i64 place, .int .i64 y] w fun e w' => e = .returned (.bool true) ∧ Below w.heap.size w w' := by
  cases hk : kindB kind with
  | false => exact law_tell_no kind body place y w (by unfold cmpF; rw [hk, if_neg (by simp)]; decide) ht
  | true =>
    cases hc : compF kind body.data.toList with
    | none => exact law_tell_no kind body place y w (by unfold cmpF; rw [hk, if_pos rfl, hc]; decide) ht
    | some l =>
      have h5 := of_decide_eq_true hk
      rcases (show kind = 1 ∨ (kind = 2 ∨ kind = 3) ∨ 4 ≤ kind by omega) with h | h | h
      · exact law_tell_one kind body l place y w hk h hc ht hp hy
      · exact law_tell_mid kind body l place y w hk h hc ht hp hy
      · exact law_tell_big kind body l place y w hk h hc ht hp hy
end Go.Proofs.YtegobkaldedhhaaDoor
