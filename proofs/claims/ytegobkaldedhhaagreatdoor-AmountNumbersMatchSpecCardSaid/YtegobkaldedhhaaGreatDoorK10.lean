
/- The walks of the reference's numbers: Completed. -/
import Derived.Test.YtegobkaldedhhaaGreatDoorK9
import Derived.Laws.Runes
namespace Go.Proofs.YtegobkaldedhhaaGreatDoor
open Go.RowKit Limb Nmb Work
set_option linter.unusedVariables false
set_option linter.unusedSimpArgs false

theorem enc_fin : ∀ i : Fin 10, (Utf8.encode (48 + ((i.val : Nat) : Int))).data.toList = [dB i.val] := by decide +kernel
theorem enc_dig {n : Nat} (h : n < 10) : Utf8.encode (48 + (n : Int)) = ⟨#[dB n]⟩ := by
  have e := enc_fin ⟨n, h⟩
  dsimp only at e
  exact of_list e
/-- A number becomes a rune, and the rune a string. -/
theorem run_rune (x : Int) (h : 0 ≤ x ∧ x ≤ 200) (w : World) : (convert 3 21 (.int .i64 x)).run Tryz.prog w = .ok (.int .i32 x) w := by
  go_simp
  exact IntWalk.i32_in _ (by omega)
theorem run_enc {x : Int} {r : ByteArray} (h : Utf8.encode x = r) (w : World) : (convert 21 9 (.int .i32 x)).run Tryz.prog w = .ok (.string r) w := by
  rw [run_convert_int_string _ _ _ _ _ (by kernel_rfl) (by kernel_rfl), h]
theorem rCompleted_kind (kind : Int) (s : ByteArray) (w : World) (h : kindB kind = false) :
    Calls Tryz.prog 17 #[.int .i64 kind, .string s] w (RetSF ⟨#[]⟩ 4 w) := by
  have H := Lib.hid h; clear h
  go_enter Tryz.func17, Tryz.ntmps17
  go_wp2_with fail
  refine (riskind_c _ _).mono ?_
  rw [H.out]
  rintro e w1 ⟨rfl, rfl⟩
  go_wp2
  go_ret2
  exact ⟨rfl, Below.refl _ _⟩
theorem rCompleted_short (s : ByteArray) (w : World) (h2 : s.size < 2) :
    Calls Tryz.prog 17 #[.int .i64 4, .string s] w (RetSF ⟨#[]⟩ 3 w) := by
  have H := Lib.hid (show kindB 4 = true from rfl)
  go_enter Tryz.func17, Tryz.ntmps17
  go_wp2_with fail
  refine (riskind_c _ _).mono ?_
  rw [H.out]
  rintro e w1 ⟨rfl, rfl⟩
  go_wp2
  go_ret2
  exact ⟨rfl, Below.refl _ _⟩
theorem missN.next2 {kind : Int} {l : List UInt8} {k : Nat} (h : missN kind l k) (h2 : numB kind (l ++ [dB (k % 10)]) = false) : missN kind l (k + 1) := by
  intro m hm
  rcases Nat.lt_or_ge m k with h3 | h3
  · exact h m h3
  · obtain rfl : m = k := by omega
    exact h2
def missB (l : List UInt8) (k : Nat) : Prop := ∀ m, m < k → bankB (bankN l m) = false
theorem missB.next {l : List UInt8} {k : Nat} (h : missB l k) (h2 : bankB (bankN l k) = false) : missB l (k + 1) := by
  intro m hm
  rcases Nat.lt_or_ge m k with h3 | h3
  · exact h m h3
  · obtain rfl : m = k := by omega
    exact h2
theorem optOf {o : Option (List UInt8)} {l : List UInt8} {t : ByteArray} (h : o = some l) (ht : t = ⟨l.toArray⟩) : Ending.returned (.tuple #[.string t, .int .i64 0]) = Ending.returned (.tuple #[.string (optS o), .int .i64 (optF o)]) := by subst h; subst ht; rfl
theorem optNone {o : Option (List UInt8)} (h : o = none) : Ending.returned (.tuple #[.string ⟨#[]⟩, .int .i64 3]) = Ending.returned (.tuple #[.string (optS o), .int .i64 (optF o)]) := by subst h; rfl
set_option maxHeartbeats 1000000 in
set_option maxRecDepth 100000 in
theorem rCompleted_plain (kind : Int) (s : ByteArray) (w : World) (h : kindB kind = true) (h4 : kind ≠ 4) (hl : s.size ≤ 140737488355328) :
    Calls Tryz.prog 17 #[.int .i64 kind, .string s] w (RetSF (optS (compF kind s.data.toList)) (optF (compF kind s.data.toList)) w) := by
  have H := Lib.hid h
  have e4 : (kind == 4) = false := beq_eq_false_iff_ne.2 h4
  obtain ⟨o, ho⟩ : ∃ o, compF kind s.data.toList = o := ⟨_, rfl⟩
  have HO := Lib.hid ho
  have H4 := Lib.hid h4
  rw [ho]
  clear h h4 ho
  go_enter Tryz.func17, Tryz.ntmps17
  go_wp2_with fail
  refine (riskind_c _ _).mono ?_
  rw [H.out]
  rintro e w1 ⟨rfl, rfl⟩
  go_wp2
  go_loopw [18] (fun i wr => ∃ k : Nat, k ≤ 100 ∧ i = .int .i64 k ∧ missN kind s.data.toList k ∧ Below w.heap.size w wr) (fun i _ => 100 - (intOf i).toNat)
  case atStart => exact ⟨0, Nat.zero_le _, rfl, fun m hm => by omega, Below.refl _ _⟩
  case round =>
    obtain ⟨k, hk, rfl, hm, hb⟩ := hrel
    have HM := Lib.hid hm; clear hm
    rcases Nat.lt_or_ge k 100 with hlt | hge
    · obtain ⟨r, hr⟩ : ∃ r : ByteArray, (⟨#[dB (k % 10)]⟩ : ByteArray) = r := ⟨_, rfl⟩
      have hrs : r.size ≤ 1 := by rw [← hr]; exact Nat.le_refl 1
      have hE : Utf8.encode (48 + (k : Int) % 10) = r := by rw [show (k : Int) % 10 = ((k % 10 : Nat) : Int) by omega, enc_dig (by omega), hr]
      have ur1 := run_rune (48 + (k : Int) % 10) (by omega)
      have ur2 := run_enc hE
      have ht := snoc_dB s (k % 10)
      have ht' := snoc_dB' s (k % 10)
      rw [hr] at ht ht'
      have hcond : ¬ 9223372036854775807 < s.size + r.size := by omega
      have HN := Lib.hid (fun w => risnum_c kind (s ++ r) w (by rw [ByteArray.size_append]; omega) H.out)
      rw [ht] at HN
      have HT := Lib.hid ht'
      have hz := hb.size
      cases hb2 : numB kind (s.data.toList ++ [dB (k % 10)]) with
      | true =>
        rw [hb2] at HN
        have HC := Lib.hid (HO.out.symm.trans (comp_hit (n := k) H4.out hb2 HM.out))
        clear hb2 ht ht' hr hrs hE
        go_wp2_with fail
        refine (HN.out _).mono ?_
        rintro e w2 ⟨rfl, hb3⟩
        go_wp2
        go_ret2
        exact ⟨optOf HC.out HT.out, below_then hb3 hb hz⟩
      | false =>
        have HX := Lib.hid (HM.out.next2 hb2)
        rw [hb2] at HN
        clear hb2 ht ht' hr hrs hE
        go_wp2_with fail
        refine (HN.out _).mono ?_
        rintro e w2 ⟨rfl, hb3⟩
        go_wp2
        go_roundw
        case rel => exact ⟨k + 1, by omega, by go_num, HX.out, below_then hb3 hb hz⟩
        case measure => simp [intOf]; omega
    · obtain rfl : k = 100 := by omega
      have HC := Lib.hid (HO.out.symm.trans (comp_none H4.out (fun m hm => HM.out m (by omega))))
      go_wp2
      go_ret2
      exact ⟨optNone HC.out, hb⟩
set_option maxHeartbeats 1000000 in
set_option maxRecDepth 100000 in
theorem rCompleted_bank (s : ByteArray) (w : World) (h2 : 2 ≤ s.size) (hl : s.size ≤ 140737488355328) :
    Calls Tryz.prog 17 #[.int .i64 4, .string s] w (RetSF (optS (compF 4 s.data.toList)) (optF (compF 4 s.data.toList)) w) := by
  have H := Lib.hid (show kindB 4 = true from rfl)
  have hll := szL s
  have q2 : (2 : Int) ≤ (s.size : Int) := by omega
  have H2 := Lib.hid (show 2 ≤ s.data.toList.length by omega)
  obtain ⟨o, ho⟩ : ∃ o, compF 4 s.data.toList = o := ⟨_, rfl⟩
  have HO := Lib.hid ho
  rw [ho]
  obtain ⟨A, hA⟩ : ∃ A, s.extract 0 2 = A := ⟨_, rfl⟩
  obtain ⟨B, hB⟩ : ∃ B, s.extract 2 s.size = B := ⟨_, rfl⟩
  have xA : A.size = 2 := by rw [← hA, ByteArray.size_extract]; omega
  have xB : B.size = s.size - 2 := by rw [← hB, ByteArray.size_extract]; omega
  have yA : A.size ≤ 2 := by omega
  have yB : B.size ≤ 140737488355328 := by omega
  have HAB := Lib.hid (fun (r : ByteArray) (n : Nat) (hr : r.data.toList = [dB (n / 10), dB (n % 10)]) => bankS s n r hr)
  rw [hA, hB] at HAB
  clear ho hll xA xB
  go_enter Tryz.func17, Tryz.ntmps17
  go_wp2_with fail
  refine (riskind_c _ _).mono ?_
  rw [H.out]
  rintro e w1 ⟨rfl, rfl⟩
  go_wp2
  go_loopw [18] (fun i wr => ∃ k : Nat, k ≤ 100 ∧ i = .int .i64 k ∧ missB s.data.toList k ∧ Below w.heap.size w wr) (fun i _ => 100 - (intOf i).toNat)
  case atStart => exact ⟨0, Nat.zero_le _, rfl, fun m hm => by omega, Below.refl _ _⟩
  case round =>
    obtain ⟨k, hk, rfl, hm, hb⟩ := hrel
    have HM := Lib.hid hm; clear hm
    rcases Nat.lt_or_ge k 100 with hlt | hge
    · obtain ⟨r, hr⟩ : ∃ r : ByteArray, (⟨#[dB (k % 10)]⟩ : ByteArray) = r := ⟨_, rfl⟩
      obtain ⟨r2, hr2⟩ : ∃ r : ByteArray, (⟨#[dB (k / 10)]⟩ : ByteArray) = r := ⟨_, rfl⟩
      have hrs : r.size ≤ 1 := by rw [← hr]; exact Nat.le_refl 1
      have hrs2 : r2.size ≤ 1 := by rw [← hr2]; exact Nat.le_refl 1
      have hE : Utf8.encode (48 + (k : Int) % 10) = r := by rw [show (k : Int) % 10 = ((k % 10 : Nat) : Int) by omega, enc_dig (by omega), hr]
      have ur1 := run_rune (48 + (k : Int) % 10) (by omega)
      have ur2 := run_enc hE
      have hE2 : Utf8.encode (48 + (k : Int) / 10) = r2 := by rw [show (k : Int) / 10 = ((k / 10 : Nat) : Int) by omega, enc_dig (by omega), hr2]
      have ur3 := run_rune (48 + (k : Int) / 10) (by omega)
      have ur4 := run_enc hE2
      have hcond : ¬ 9223372036854775807 < s.size + r.size := by omega
      have k1 : ¬ 9223372036854775807 < A.size + r2.size := by omega
      have k2 : ¬ 9223372036854775807 < A.size + r2.size + r.size := by omega
      have k3 : ¬ 9223372036854775807 < A.size + r2.size + r.size + B.size := by omega
      have HN := Lib.hid (fun w => risnum_c 4 (A ++ r2 ++ r ++ B) w (by rw [ByteArray.size_append, ByteArray.size_append, ByteArray.size_append]; omega) H.out)
      have ht : (A ++ r2 ++ r ++ B).data.toList = bankN s.data.toList k := by
        have := HAB.out (r2 ++ r) k (by rw [← hr, ← hr2, ByteArray.data_append]; simp)
        rw [← this]
        simp [ByteArray.data_append]
      rw [ht] at HN
      have HT := Lib.hid (of_list ht)
      have hz := hb.size
      have hz' := hb.drew
      cases hb2 : numB 4 (bankN s.data.toList k) with
      | true =>
        rw [hb2] at HN
        have HC := Lib.hid (HO.out.symm.trans (comp4_hit H2.out (by omega) hb2))
        clear hb2 ht hr hr2 hrs hrs2 hE hE2
        go_wp2_with fail
        go_quiet (fail)
        go_wp2_with fail
        refine (HN.out _).mono ?_
        rintro e w2 ⟨rfl, hb3⟩
        go_wp2
        go_ret2
        exact ⟨optOf HC.out HT.out, below_then hb3 (below_drewN hb _) hz⟩
      | false =>
        have HX := Lib.hid (HM.out.next hb2)
        rw [hb2] at HN
        clear hb2 ht hr hr2 hrs hrs2 hE hE2
        go_wp2_with fail
        go_quiet (fail)
        go_wp2_with fail
        refine (HN.out _).mono ?_
        rintro e w2 ⟨rfl, hb3⟩
        go_wp2
        go_roundw
        case rel => exact ⟨k + 1, by omega, by go_num, HX.out, below_then hb3 (below_drewN hb _) hz⟩
        case measure => simp [intOf]; omega
    · obtain rfl : k = 100 := by omega
      have HC := Lib.hid (HO.out.symm.trans (comp4_none (fun m hm => HM.out m (by omega))))
      go_wp2
      go_ret2
      exact ⟨optNone HC.out, hb⟩
theorem rCompleted_c (kind : Int) (s : ByteArray) (w : World) (hl : s.size ≤ 140737488355328) :
    Calls Tryz.prog 17 #[.int .i64 kind, .string s] w (RetSF (cmpS kind s.data.toList) (cmpF kind s.data.toList) w) := by
  unfold cmpS cmpF
  have hll := szL s
  cases hk : kindB kind with
  | false => rw [if_neg (by simp), if_neg (by simp)]; exact rCompleted_kind kind s w hk
  | true =>
    rw [if_pos rfl, if_pos rfl]
    by_cases h4 : kind = 4
    · subst h4
      by_cases h : s.size < 2
      · obtain ⟨e1, e2⟩ := comp_none_eq (comp4_short (l := s.data.toList) (by omega))
        rw [e1, e2]
        exact rCompleted_short s w h
      · exact rCompleted_bank s w (by omega) hl
    · exact rCompleted_plain kind s w hk h4 hl
end Go.Proofs.YtegobkaldedhhaaGreatDoor
