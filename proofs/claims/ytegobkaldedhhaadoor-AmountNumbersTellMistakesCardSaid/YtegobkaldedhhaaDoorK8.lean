
/- The walks of package amount's numbers: Widened, Completed. -/
import Derived.Test.YtegobkaldedhhaaDoorK7
import Derived.Test.YtegobkaldedhhaaDoorE4
import Derived.Deep.RegionHeld3
import Derived.IntWalk
namespace Go.Proofs.YtegobkaldedhhaaDoor
open Go.RowKit Limb Nmb Work
set_option linter.unusedVariables false
set_option linter.unusedSimpArgs false

/-! ### Widened -/
theorem wide_of (s : ByteArray) {c : Nat} (hc : 14 - s.size = c) : (⟨(Lib.repeatL [48] c).toArray⟩ : ByteArray) ++ s = ⟨(wide s.data.toList).toArray⟩ := by
  apply ByteArray.ext
  rw [ByteArray.data_append]
  unfold wide
  rw [szL, hc, rep_one]
  simp
theorem num1_len {l : List UInt8} (h : numB 1 l = true) : l.length ≤ 14 := by
  rw [num_plain (by decide) (by decide), Bool.and_eq_true] at h
  have h1 : decide (l.length = 8 ∨ l.length = 12 ∨ l.length = 13 ∨ l.length = 14) = true := h.1
  have := of_decide_eq_true h1
  omega
theorem Widened_no (s : ByteArray) (w : World) (hs : s.size ≤ 9223372036854775807) (h : numB 1 s.data.toList = false) :
    Calls Tryd.prog 36 #[.string s] w (RetSF ⟨#[]⟩ 3 w) := by
  have HN := Lib.hid (fun w => isnumber_c 1 s w hs)
  rw [h] at HN
  clear h
  go_enter Tryd.func36, Tryd.ntmps36
  go_wp2_with fail
  refine (HN.out _).mono ?_
  rintro e w1 ⟨rfl, hb1⟩
  go_wp2
  go_ret2
  exact ⟨rfl, hb1⟩
set_option maxRecDepth 100000 in
theorem Widened_yes (s : ByteArray) (w : World) (h : numB 1 s.data.toList = true) :
    Calls Tryd.prog 36 #[.string s] w (RetSF ⟨(wide s.data.toList).toArray⟩ 0 w) := by
  have hl := num1_len h
  rw [szL] at hl
  have HN := Lib.hid (fun w => isnumber_c 1 s w (by omega))
  rw [h] at HN
  obtain ⟨c, hc⟩ : ∃ c : Nat, 14 - s.size = c := ⟨_, rfl⟩
  have E1 := Lib.hid (show (14 : Int) - (s.size : Int) = ((c : Nat) : Int) by omega)
  have HREP := Lib.hid (Tryd.strings_Repeat ⟨#[48]⟩ c)
  have HW := Lib.hid (wide_of s hc)
  obtain ⟨r, hr⟩ : ∃ r : ByteArray, (⟨(Lib.repeatL [48] c).toArray⟩ : ByteArray) = r := ⟨_, rfl⟩
  have hrs : r.size = c := by rw [← hr, rep_one]; show (List.replicate c (48 : UInt8)).toArray.size = c; simp
  have HR := Lib.hid hr
  have hcond : ¬ 9223372036854775807 < r.size + s.size := by omega
  have hc14 : c ≤ 14 := by omega
  clear hc hr hrs h
  go_enter Tryd.func36, Tryd.ntmps36
  go_wp2_with fail
  refine (HN.out _).mono ?_
  rintro e w1 ⟨rfl, hb1⟩
  go_wp2_with fail
  rw [E1.out]
  refine (HREP.out _ (by omega) (by show 1 * c ≤ _; omega)).mono ?_
  rintro e w2 ⟨rfl, hb2⟩
  rw [show (⟨(Lib.repeatL (⟨#[48]⟩ : ByteArray).data.toList c).toArray⟩ : ByteArray) = r from HR.out]
  go_wp2
  go_ret2
  refine ⟨?_, below_then hb2 hb1 hb1.size⟩
  rw [← HW.out, HR.out]; rfl

/-! ### Completed -/
def optS (o : Option (List UInt8)) : ByteArray := match o with
  | some l => ⟨l.toArray⟩
  | none => ⟨#[]⟩
def optF (o : Option (List UInt8)) : Int := match o with
  | some _ => 0
  | none => 3
theorem dec_dB : ∀ i : Fin 10, Lib.decDigits i.val = [dB i.val] := by decide +kernel
theorem pad_dB : ∀ i : Fin 100, padN i.val 2 = [dB (i.val / 10), dB (i.val % 10)] := by decide +kernel
theorem itoa1_c (k : Nat) (w : World) (h : k < 10) : Calls Tryd.prog 56 #[.int .i64 k] w fun e w' => w = w' ∧ e = .returned (.string ⟨#[dB k]⟩) := by
  refine (Tryd.strconv_Itoa_small k (by omega) w).mono ?_
  rintro e w' ⟨rfl, rfl⟩
  have := dec_dB ⟨k, h⟩
  exact ⟨rfl, by rw [show Lib.decDigits k = [dB k] from this]⟩
theorem Completed_kind (kind : Int) (s : ByteArray) (w : World) (h : kindB kind = false) :
    Calls Tryd.prog 33 #[.int .i64 kind, .string s] w (RetSF ⟨#[]⟩ 4 w) := by
  have H := Lib.hid h; clear h
  go_enter Tryd.func33, Tryd.ntmps33
  go_wp2_with fail
  refine (iskind_c _ _).mono ?_
  rw [H.out]
  rintro e w1 ⟨rfl, rfl⟩
  go_wp2
  go_ret2
  exact ⟨rfl, Below.refl _ _⟩
theorem Completed_long (kind : Int) (s : ByteArray) (w : World) (h : kindB kind = true) (hl : 34 < s.size) :
    Calls Tryd.prog 33 #[.int .i64 kind, .string s] w (RetSF ⟨#[]⟩ 3 w) := by
  have H := Lib.hid h; clear h
  go_enter Tryd.func33, Tryd.ntmps33
  go_wp2_with fail
  refine (iskind_c _ _).mono ?_
  rw [H.out]
  rintro e w1 ⟨rfl, rfl⟩
  go_wp2
  go_ret2
  exact ⟨rfl, Below.refl _ _⟩
/-- No digit up to here completes it. -/
def missN (kind : Int) (l : List UInt8) (k : Nat) : Prop := ∀ m, m < k → numB kind (l ++ [dB (m % 10)]) = false
theorem missN.next {kind : Int} {l : List UInt8} {k : Nat} (h : missN kind l k) (hk : k < 10) (h2 : numB kind (l ++ [dB k]) = false) : missN kind l (k + 1) := by
  intro m hm
  rcases Nat.lt_or_ge m k with h3 | h3
  · exact h m h3
  · obtain rfl : m = k := by omega
    rw [Nat.mod_eq_of_lt hk]; exact h2
theorem of_list {t : ByteArray} {l : List UInt8} (h : t.data.toList = l) : t = ⟨l.toArray⟩ := by subst h; apply ByteArray.ext; simp
theorem snoc_dB (s : ByteArray) (k : Nat) : (s ++ ⟨#[dB k]⟩).data.toList = s.data.toList ++ [dB k] := by rw [ByteArray.data_append]; simp
theorem snoc_dB' (s : ByteArray) (k : Nat) : (s ++ ⟨#[dB k]⟩) = ⟨(s.data.toList ++ [dB k]).toArray⟩ := of_list (snoc_dB s k)
set_option maxHeartbeats 1000000 in
set_option maxRecDepth 100000 in
theorem Completed_plain (kind : Int) (s : ByteArray) (w : World) (h : kindB kind = true) (h4 : kind ≠ 4) (hl : s.size ≤ 34) :
    Calls Tryd.prog 33 #[.int .i64 kind, .string s] w (RetSF (optS (compF kind s.data.toList)) (optF (compF kind s.data.toList)) w) := by
  have H := Lib.hid h
  have e4 : (kind == 4) = false := beq_eq_false_iff_ne.2 h4
  obtain ⟨o, ho⟩ : ∃ o, compF kind s.data.toList = o := ⟨_, rfl⟩
  have HO := Lib.hid ho
  have H4 := Lib.hid h4
  rw [ho]
  clear h h4 ho
  go_enter Tryd.func33, Tryd.ntmps33
  go_wp2_with fail
  refine (iskind_c _ _).mono ?_
  rw [H.out]
  rintro e w1 ⟨rfl, rfl⟩
  go_wp2
  go_loopw [49] (fun i wr => ∃ k : Nat, k ≤ 10 ∧ i = .int .i64 k ∧ missN kind s.data.toList k ∧ Below w.heap.size w wr) (fun i _ => 10 - (intOf i).toNat)
  case atStart => exact ⟨0, Nat.zero_le _, rfl, fun m hm => by omega, Below.refl _ _⟩
  case round =>
    obtain ⟨k, hk, rfl, hm, hb⟩ := hrel
    have HM := Lib.hid hm; clear hm
    rcases Nat.lt_or_ge k 10 with hlt | hge
    · have HI := Lib.hid (fun w => itoa1_c k w hlt)
      obtain ⟨r, hr⟩ : ∃ r : ByteArray, (⟨#[dB k]⟩ : ByteArray) = r := ⟨_, rfl⟩
      have hrs : r.size ≤ 1 := by rw [← hr]; exact Nat.le_refl 1
      have ht := snoc_dB s k
      have ht' := snoc_dB' s k
      rw [hr] at HI ht ht'
      have hcond : ¬ 9223372036854775807 < s.size + r.size := by omega
      have HN := Lib.hid (fun w => isnumber_c kind (s ++ r) w (by rw [ByteArray.size_append]; omega))
      rw [ht] at HN
      have HT := Lib.hid ht'
      have hz := hb.size
      cases hb2 : numB kind (s.data.toList ++ [dB k]) with
      | true =>
        rw [hb2] at HN
        have HC := Lib.hid (comp_hit (n := k) H4.out (by rw [Nat.mod_eq_of_lt hlt]; exact hb2) HM.out)
        clear hb2 ht ht' hr hrs
        go_wp2_with fail
        refine (HI.out _).mono ?_
        rintro e w2 ⟨rfl, rfl⟩
        go_wp2_with fail
        refine (HN.out _).mono ?_
        rintro e w2 ⟨rfl, hb3⟩
        go_wp2
        go_ret2
        refine ⟨?_, below_then hb3 hb hz⟩
        rw [← HO.out, HC.out, HT.out, Nat.mod_eq_of_lt hlt]; rfl
      | false =>
        have HX := Lib.hid (HM.out.next hlt hb2)
        rw [hb2] at HN
        clear hb2 ht ht' hr hrs
        go_wp2_with fail
        refine (HI.out _).mono ?_
        rintro e w2 ⟨rfl, rfl⟩
        go_wp2_with fail
        refine (HN.out _).mono ?_
        rintro e w2 ⟨rfl, hb3⟩
        go_wp2
        go_roundw
        case rel => exact ⟨k + 1, by omega, by go_num, HX.out, below_then hb3 hb hz⟩
        case measure => simp [intOf]; omega
    · obtain rfl : k = 10 := by omega
      have HC := Lib.hid (comp_none H4.out HM.out)
      go_wp2
      go_ret2
      refine ⟨?_, hb⟩
      rw [← HO.out, HC.out]; rfl

/-! ### A bank's number -/
theorem ext_drop2 (s : ByteArray) : (s.extract 2 s.size).data.toList = s.data.toList.drop 2 := ext_drop s 2
theorem bankS (s : ByteArray) (n : Nat) (r : ByteArray) (hr : r.data.toList = [dB (n / 10), dB (n % 10)]) : (s.extract 0 2 ++ r ++ s.extract 2 s.size).data.toList = bankN s.data.toList n := by
  unfold bankN
  rw [ByteArray.data_append, ByteArray.data_append, Array.toList_append, Array.toList_append, ext_take, ext_drop, hr, List.append_assoc]
theorem tag_bankN {l : List UInt8} {n : Nat} (h : tagL l = true) (hn : n ≤ 99) : tagL (bankN l n) = true := by
  have h1 : tagL (l.take 2 ++ l.drop 2) = true := by rw [List.take_append_drop]; exact h
  rw [tag_app, Bool.and_eq_true] at h1
  unfold bankN
  rw [tag_app, tag_app, h1.1, h1.2]
  have : ∀ i : Fin 10, tagC ((dB i.val).toNat : Int) = true := by decide +kernel
  have a := this ⟨n / 10, by omega⟩
  have b := this ⟨n % 10, by omega⟩
  show (true && (tagL [dB (n / 10), dB (n % 10)] && true)) = true
  unfold tagL
  simp only [List.all_cons, List.all_nil, Bool.and_true, Bool.true_and]
  rw [a, b]; rfl
theorem comp4_is {l : List UInt8} (h : 2 ≤ l.length) : compF 4 l = if bankB (bankN l (chkN l)) = true then some (bankN l (chkN l)) else none := by
  unfold compF
  rw [if_pos rfl]
  by_cases hb : bankB (bankN l (chkN l)) = true
  · rw [if_pos ⟨h, hb⟩, if_pos hb]
  · rw [if_neg (fun h2 => hb h2.2), if_neg hb]
set_option maxHeartbeats 1000000 in
set_option maxRecDepth 100000 in
theorem Completed_bank_no (s : ByteArray) (w : World) (hl : s.size ≤ 34) (h : s.size < 2 ∨ tagL s.data.toList = false ∨ s.size < 13) :
    Calls Tryd.prog 33 #[.int .i64 4, .string s] w (RetSF ⟨#[]⟩ 3 w) := by
  have H := Lib.hid (show kindB 4 = true from rfl)
  by_cases h2 : s.size < 2
  · clear h
    go_enter Tryd.func33, Tryd.ntmps33
    go_wp2_with fail
    refine (iskind_c _ _).mono ?_
    rw [H.out]
    rintro e w1 ⟨rfl, rfl⟩
    go_wp2
    go_ret2
    exact ⟨rfl, Below.refl _ _⟩
  have hB := Lib.hid (fun w => isbody_c s w (by omega))
  cases ht : tagL s.data.toList with
  | false =>
    rw [ht] at hB
    clear h ht
    go_enter Tryd.func33, Tryd.ntmps33
    go_wp2_with fail
    refine (iskind_c _ _).mono ?_
    rw [H.out]
    rintro e w1 ⟨rfl, rfl⟩
    go_wp2_with fail
    refine (hB.out _).mono ?_
    rintro e w1 ⟨rfl, hb1⟩
    go_wp2
    go_ret2
    exact ⟨rfl, hb1⟩
  | true =>
    have h13 : s.size < 13 := by
      rcases h with h | h | h
      · omega
      · rw [ht] at h; cases h
      · exact h
    rw [ht] at hB
    clear h ht
    go_enter Tryd.func33, Tryd.ntmps33
    go_wp2_with fail
    refine (iskind_c _ _).mono ?_
    rw [H.out]
    rintro e w1 ⟨rfl, rfl⟩
    go_wp2_with fail
    refine (hB.out _).mono ?_
    rintro e w1 ⟨rfl, hb1⟩
    go_wp2
    go_ret2
    exact ⟨rfl, hb1⟩
set_option maxHeartbeats 2000000 in
set_option maxRecDepth 100000 in
theorem Completed_bank (s : ByteArray) (w : World) (hl : s.size ≤ 34) (h13 : 13 ≤ s.size) (ht : tagL s.data.toList = true) (hT : Tab w) :
    Calls Tryd.prog 33 #[.int .i64 4, .string s] w (RetSF (optS (compF 4 s.data.toList)) (optF (compF 4 s.data.toList)) w) := by
  have H := Lib.hid (show kindB 4 = true from rfl)
  have hB := Lib.hid (fun w => isbody_c s w (by omega))
  rw [ht] at hB
  have hll := szL s
  have h2l : 2 ≤ s.data.toList.length := by omega
  have q2 : (2 : Int) ≤ (s.size : Int) := by omega
  have E0 := comp4_is h2l
  obtain ⟨c, hc⟩ : ∃ c, chkN s.data.toList = c := ⟨_, rfl⟩
  have hcb := chkN_bd h2l
  rw [hc] at E0 hcb
  have hs0 : (s.extract 0 2 ++ ⟨#[48, 48]⟩ ++ s.extract 2 s.size).data.toList = bankN s.data.toList 0 := bankS s 0 _ rfl
  have hz0 : (s.extract 0 2 ++ ⟨#[48, 48]⟩ ++ s.extract 2 s.size).size = s.size + 2 := by rw [← szL, hs0, bankN_len 0 h2l, hll]
  have HR := Lib.hid (fun w => bankrest_c (s.extract 0 2 ++ ⟨#[48, 48]⟩ ++ s.extract 2 s.size) w (by omega) (by omega) (by rw [hs0]; exact tag_bankN ht (by omega)))
  rw [hs0] at HR
  have hR : bankR (bankN s.data.toList 0) = 98 - (c : Int) := by unfold chkN at hc; have := bankN_rest (l := s.data.toList) (n := 0) h2l (by omega); omega
  rw [hR] at HR
  obtain ⟨p, hp⟩ : ∃ p, padS (c : Int) 2 = p := ⟨_, rfl⟩
  have hpd : p.data.toList = [dB (c / 10), dB (c % 10)] := by rw [← hp]; exact pad_dB ⟨c, by omega⟩
  have hps : p.size = 2 := by rw [← szL, hpd]; rfl
  have HP := Lib.hid (fun w ht => padded_c (c : Int) 2 2 w rfl (by omega) (by decide) (by decide) (by omega) ht)
  rw [hp] at HP
  have hs1 := bankS s c p hpd
  have hz1 : (s.extract 0 2 ++ p ++ s.extract 2 s.size).size = s.size + 2 := by rw [← szL, hs1, bankN_len c h2l, hll]
  have x2 : (s.extract 0 2).size = 2 := by rw [ByteArray.size_extract]; omega
  have y2 : (s.extract 2 s.size).size = s.size - 2 := by rw [ByteArray.size_extract]; omega
  have k1 : ¬ 9223372036854775807 < (s.extract 0 2).size + (⟨#[48, 48]⟩ : ByteArray).size := by rw [x2]; decide
  have k2 : ¬ 9223372036854775807 < (s.extract 0 2 ++ ⟨#[48, 48]⟩).size + (s.extract 2 s.size).size := by rw [ByteArray.size_append, x2, y2]; show ¬ _ < 2 + 2 + _; omega
  have k3 : ¬ 9223372036854775807 < (s.extract 0 2).size + p.size := by rw [x2, hps]; decide
  have k4 : ¬ 9223372036854775807 < (s.extract 0 2 ++ p).size + (s.extract 2 s.size).size := by rw [ByteArray.size_append, x2, y2, hps]; omega
  obtain ⟨A, hA⟩ : ∃ A, s.extract 0 2 = A := ⟨_, rfl⟩
  obtain ⟨B0, hB0⟩ : ∃ B, s.extract 2 s.size = B := ⟨_, rfl⟩
  rw [hA, hB0] at HR k2 k4
  rw [hA] at k1 k3 x2
  rw [hB0] at y2
  have k1' : ¬ 9223372036854775807 < A.size + 2 := by omega
  have k2' : ¬ 9223372036854775807 < A.size + 2 + B0.size := by omega
  have k4' : ¬ 9223372036854775807 < A.size + p.size + B0.size := by rw [hps]; omega
  have e98 : (98 : Int) - (98 - (c : Int)) = (c : Int) := by omega
  have E98 := Lib.hid e98
  have EW := Lib.hid (show IntKind.i64.wrap (c : Int) = (c : Int) from IntWalk.i64_in _ (by omega))
  obtain ⟨t, hte⟩ : ∃ t, s.extract 0 2 ++ p ++ s.extract 2 s.size = t := ⟨_, rfl⟩
  rw [hte] at hs1 hz1
  have HN := Lib.hid (fun w => isbank_c t w (by omega))
  rw [hs1] at HN
  have hTT : t = ⟨(bankN s.data.toList c).toArray⟩ := of_list hs1
  have HTT := Lib.hid hTT
  rw [hA, hB0] at hte
  have HE := Lib.hid hte
  have E1 := Lib.hid E0
  have hTA := Lib.hid hT
  clear hs0 hz0 hR hp hpd hps hs1 hz1 x2 y2 hte hTT E0 hc e98 hll h2l ht hT
  obtain ⟨B, hB2⟩ : ∃ B, bankB (bankN s.data.toList c) = B := ⟨_, rfl⟩
  have HB2 := Lib.hid hB2
  rw [hB2] at HN
  clear hB2
  obtain ⟨o, ho⟩ : ∃ o, compF 4 s.data.toList = o := ⟨_, rfl⟩
  have HO := Lib.hid ho
  rw [ho]
  clear ho
  go_enter Tryd.func33, Tryd.ntmps33
  go_wp2_with fail
  refine (iskind_c _ _).mono ?_
  rw [H.out]
  rintro e w1 ⟨rfl, rfl⟩
  go_wp2_with fail
  refine (hB.out _).mono ?_
  rintro e w1 ⟨rfl, hb1⟩
  have HB1 := Lib.hid hb1
  have hzz := hb1.size
  clear hb1
  go_wp2_with fail
  go_region_held3 (fun _ => True) (exact trivial) (first | (go_at_call 92; (with_reducible refine (HR.out _).mono ?_); rintro e w2 ⟨rfl, hb2⟩))
  rw [E98.out, EW.out]
  have hd2 := below_then hb2 HB1.out.drew hzz
  have HD2 := Lib.hid hd2
  have hz2 := hd2.size
  clear hb2 hd2
  go_wp2_with fail
  go_region_held3 (fun _ => True) (exact trivial) (first | (go_at_call 54; (with_reducible refine (HP.out _ (hTA.out.below HD2.out.drew)).mono ?_); rintro e w3 ⟨rfl, hb3⟩))
  rw [HE.out]
  have hd3 := below_then hb3 HD2.out.drew hz2
  have HD3 := Lib.hid hd3
  have hz3 := hd3.size
  clear hb3 hd3
  cases B with
  | true =>
    go_wp2_with fail
    refine (HN.out _).mono ?_
    rintro e w4 ⟨rfl, hb4⟩
    go_wp2
    go_ret2
    refine ⟨?_, below_then hb4 HD3.out hz3⟩
    rw [← HO.out, E1.out, if_pos HB2.out, HTT.out]; rfl
  | false =>
    go_wp2_with fail
    refine (HN.out _).mono ?_
    rintro e w4 ⟨rfl, hb4⟩
    go_wp2
    go_ret2
    refine ⟨?_, below_then hb4 HD3.out hz3⟩
    rw [← HO.out, E1.out, if_neg (by rw [HB2.out]; simp)]; rfl

theorem comp_none_eq {kind : Int} {l : List UInt8} (h : compF kind l = none) : optS (compF kind l) = ⟨#[]⟩ ∧ optF (compF kind l) = 3 := by rw [h]; exact ⟨rfl, rfl⟩
/-- What Completed comes to. -/
def cmpS (kind : Int) (l : List UInt8) : ByteArray := if kindB kind = true then optS (compF kind l) else ⟨#[]⟩
def cmpF (kind : Int) (l : List UInt8) : Int := if kindB kind = true then optF (compF kind l) else 4
theorem Completed_c (kind : Int) (s : ByteArray) (w : World) (hT : Tab w) :
    Calls Tryd.prog 33 #[.int .i64 kind, .string s] w (RetSF (cmpS kind s.data.toList) (cmpF kind s.data.toList) w) := by
  unfold cmpS cmpF
  have hll := szL s
  cases hk : kindB kind with
  | false => rw [if_neg (by simp), if_neg (by simp)]; exact Completed_kind kind s w hk
  | true =>
    rw [if_pos rfl, if_pos rfl]
    by_cases hl : s.size ≤ 34
    case neg =>
      obtain ⟨e1, e2⟩ := comp_none_eq (comp_long (kind := kind) (l := s.data.toList) (by omega))
      rw [e1, e2]
      exact Completed_long kind s w hk (by omega)
    by_cases h4 : kind = 4
    · subst h4
      by_cases h : s.size < 2 ∨ tagL s.data.toList = false ∨ s.size < 13
      · have hn : compF 4 s.data.toList = none := by
          rcases h with h | h | h
          · exact comp4_tag (.inr (by omega))
          · exact comp4_tag (.inl h)
          · exact comp4_tag (.inr (by omega))
        obtain ⟨e1, e2⟩ := comp_none_eq hn
        rw [e1, e2]
        exact Completed_bank_no s w hl h
      · refine Completed_bank s w hl (by omega) ?_ hT
        cases ht : tagL s.data.toList with
        | true => rfl
        | false => exact absurd (.inr (.inl ht)) h
    · exact Completed_plain kind s w hk h4 hl
end Go.Proofs.YtegobkaldedhhaaDoor
