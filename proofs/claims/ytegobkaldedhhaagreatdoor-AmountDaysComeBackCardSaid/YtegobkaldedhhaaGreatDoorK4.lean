
/- The walks of package amount's numbers: isBank, isTax, isNumber, IsNumber, Widened. -/
import Derived.Test.YtegobkaldedhhaaGreatDoorK3
namespace Go.Proofs.YtegobkaldedhhaaGreatDoor
open Go.RowKit Limb Nmb
set_option linter.unusedVariables false
set_option linter.unusedSimpArgs false

/-! ### Two digits -/
theorem two_fin : ∀ x y : Fin 10, Op.bytesLess [UInt8.ofNat (48 + x.val), UInt8.ofNat (48 + y.val)] [48, 50] = decide (10 * x.val + y.val < 2) ∧ Op.bytesLess [UInt8.ofNat (48 + x.val), UInt8.ofNat (48 + y.val)] [57, 56] = decide (10 * x.val + y.val < 98) ∧ ([UInt8.ofNat (48 + x.val), UInt8.ofNat (48 + y.val)] == [57, 56]) = decide (10 * x.val + y.val = 98) := by decide +kernel
theorem two_cmp {l : List UInt8} (hl : l.length = 2) (hd : inL l 48 57 = true) : Op.bytesLess l [48, 50] = decide (10 * dgt l 0 + dgt l 1 < 2) ∧ Op.bytesLess l [57, 56] = decide (10 * dgt l 0 + dgt l 1 < 98) ∧ (l == [57, 56]) = decide (10 * dgt l 0 + dgt l 1 = 98) := by
  match l, hl with
  | [a, b], _ =>
    have h0 := inL_yes hd (i := 0) (by simp)
    have h1 := inL_yes hd (i := 1) (by simp)
    have e0 : byA [a, b] 0 = (a.toNat : Int) := rfl
    have e1 : byA [a, b] 1 = (b.toNat : Int) := rfl
    rw [e0] at h0; rw [e1] at h1
    have := two_fin ⟨a.toNat - 48, by omega⟩ ⟨b.toNat - 48, by omega⟩
    have ea : UInt8.ofNat (48 + (a.toNat - 48)) = a := by rw [show 48 + (a.toNat - 48) = a.toNat by omega]; exact UInt8.ofNat_toNat
    have eb : UInt8.ofNat (48 + (b.toNat - 48)) = b := by rw [show 48 + (b.toNat - 48) = b.toNat by omega]; exact UInt8.ofNat_toNat
    simp only [ea, eb] at this
    rw [this.1, this.2.1, this.2.2]
    unfold dgt
    rw [e0, e1]
    refine ⟨?_, ?_, ?_⟩
    · apply decide_eq_decide.2; omega
    · apply decide_eq_decide.2; omega
    · apply decide_eq_decide.2; omega
theorem chk_two {l : List UInt8} (h : 4 ≤ l.length) : 10 * dgt ((l.drop 2).take 2) 0 + dgt ((l.drop 2).take 2) 1 = bankC l := by
  unfold bankC dgt
  rw [byA_take (by decide), byA_take (by decide), byA_drop, byA_drop]
theorem digs_two {l : List UInt8} (h : 4 ≤ l.length) : digs ((l.drop 2).take 2) = inL ((l.drop 2).take 2) 48 57 := by
  unfold digs
  have : ((l.drop 2).take 2).isEmpty = false := by
    rw [Bool.eq_false_iff]
    intro h2
    rw [List.isEmpty_iff] at h2
    have := congrArg List.length h2
    simp at this
    omega
  rw [this]; simp
theorem isdigs_c (s : ByteArray) (w : World) (hs : s.size ≤ 9223372036854775807) :
    Calls Tryz.prog 105 #[.string s] w fun e w' => w = w' ∧ e = .returned (.bool (digs s.data.toList)) := by
  rw [← digB_digs]; exact isdig_c s w hs

theorem form_len {l : List UInt8} (h : ¬ (15 ≤ l.length ∧ l.length ≤ 34)) : bankForm l = false := by unfold bankForm; rw [decide_eq_false h]; rfl
theorem form_in {l : List UInt8} (h : 15 ≤ l.length ∧ l.length ≤ 34) : bankForm l = (inL (l.take 2) 65 90 && (inL ((l.drop 2).take 2) 48 57 && tagL (l.drop 4))) := by unfold bankForm; rw [decide_eq_true h]; rfl
theorem bank_no {l : List UInt8} (h : bankForm l = false) : bankB l = false := by unfold bankB; rw [h]; rfl
theorem bank_is {l : List UInt8} (h : bankForm l = true) : bankB l = decide (bankR l = 1 ∧ 2 ≤ bankC l ∧ bankC l ≤ 98) := by unfold bankB; rw [h]; rfl
theorem form_tag {l : List UInt8} (h : bankForm l = true) : tagL l = true := by
  have hl : 15 ≤ l.length ∧ l.length ≤ 34 := by
    rcases Classical.em (15 ≤ l.length ∧ l.length ≤ 34) with h1 | h1
    · exact h1
    · rw [form_len h1] at h; cases h
  rw [form_in hl] at h
  simp only [Bool.and_eq_true] at h
  obtain ⟨h1, h2, h3⟩ := h
  have e1 : tagL (l.take 2) = true := tag_letters h1
  have e2 : tagL ((l.drop 2).take 2) = true := by
    unfold tagL
    rw [List.all_eq_true]
    intro c hc
    obtain ⟨i, hi, rfl⟩ := List.getElem_of_mem hc
    have := inL_yes h2 hi
    rw [byA_get hi] at this
    exact decide_eq_true (.inr this)
  have e : l = l.take 2 ++ ((l.drop 2).take 2 ++ l.drop 4) := by
    have : l.drop 4 = (l.drop 2).drop 2 := by rw [List.drop_drop]
    rw [this, List.take_append_drop, List.take_append_drop]
  rw [e, tag_app, tag_app, e1, e2, h3]; rfl

def conS (s : ByteArray) (k : Nat) : Prop := s.size ≤ k
set_option maxHeartbeats 2000000 in
set_option maxRecDepth 100000 in
theorem isbank_c (s : ByteArray) (w : World) (hs : s.size ≤ 9223372036854775807) :
    Calls Tryz.prog 63 #[.string s] w (RetB (bankB s.data.toList) w) := by
  have hlen := szL s
  by_cases h1 : 15 ≤ s.size
  case neg =>
    rw [bank_no (form_len (by omega))]
    clear hlen
    go_enter Tryz.func63, Tryz.ntmps63
    go_wp2
    go_ret
    exact ⟨rfl, Below.refl _ _⟩
  by_cases h2 : s.size ≤ 34
  case neg =>
    rw [bank_no (form_len (by omega))]
    clear hlen
    go_enter Tryz.func63, Tryz.ntmps63
    go_wp2
    go_ret
    exact ⟨rfl, Below.refl _ _⟩
  have q2 : (2 : Int) ≤ (s.size : Int) := by omega
  have q4 : (4 : Int) ≤ (s.size : Int) := by omega
  have hf := form_in (l := s.data.toList) (by omega)
  have h2' : ((s.data.toList.drop 2).take 2) = (s.extract 2 4).data.toList := by rw [Lib.extract_data]
  have h1' : (s.data.toList.take 2) = (s.extract 0 2).data.toList := by rw [ext_take]
  have h4' : (s.data.toList.drop 4) = (s.extract 4 s.size).data.toList := by rw [ext_drop]
  have hd2 := digs_two (l := s.data.toList) (by omega)
  have hck := chk_two (l := s.data.toList) (by omega)
  rw [h1', h2', h4'] at hf
  rw [h2'] at hd2 hck
  obtain ⟨a, ha⟩ : ∃ a, s.extract 0 2 = a := ⟨_, rfl⟩
  obtain ⟨b, hb⟩ : ∃ b, s.extract 2 4 = b := ⟨_, rfl⟩
  obtain ⟨c, hc⟩ : ∃ c, s.extract 4 s.size = c := ⟨_, rfl⟩
  have has : a.size = 2 := by rw [← ha, ByteArray.size_extract]; omega
  have hbs : b.size = 2 := by rw [← hb, ByteArray.size_extract]; omega
  have hcs : c.size ≤ 34 := by rw [← hc, ByteArray.size_extract]; omega
  rw [ha, hb, hc] at hf
  rw [hb] at hd2 hck
  have HA := Lib.hid ha; have HB := Lib.hid hb; have HC := Lib.hid hc
  have HLA := Lib.hid (fun w => isletters_c a w (by omega))
  have HLB := Lib.hid (fun w => isdigs_c b w (by omega))
  have HLC := Lib.hid (fun w => isbody_c c w (by omega))
  rw [hd2] at HLB
  cases fa : inL a.data.toList 65 90 with
  | false =>
    rw [fa, Bool.false_and] at hf
    rw [bank_no hf]
    rw [fa] at HLA
    clear hf hd2 hck hlen h1' h2' h4' ha hb hc fa
    go_enter Tryz.func63, Tryz.ntmps63
    go_wp2_with fail
    rw [HA.out]
    refine (HLA.out _).mono ?_
    rintro e w1 ⟨rfl, rfl⟩
    go_wp2
    go_ret
    exact ⟨rfl, Below.refl _ _⟩
  | true =>
  cases fb : inL b.data.toList 48 57 with
  | false =>
    rw [fa, fb] at hf
    rw [bank_no hf]
    rw [fa] at HLA; rw [fb] at HLB
    clear hf hd2 hck hlen h1' h2' h4' ha hb hc fa fb
    go_enter Tryz.func63, Tryz.ntmps63
    go_wp2_with fail
    rw [HA.out]
    refine (HLA.out _).mono ?_
    rintro e w1 ⟨rfl, rfl⟩
    go_wp2_with fail
    rw [HB.out]
    refine (HLB.out _).mono ?_
    rintro e w1 ⟨rfl, rfl⟩
    go_wp2
    go_ret
    exact ⟨rfl, Below.refl _ _⟩
  | true =>
  cases fc : tagL c.data.toList with
  | false =>
    rw [fa, fb, fc] at hf
    rw [bank_no hf]
    rw [fa] at HLA; rw [fb] at HLB; rw [fc] at HLC
    clear hf hd2 hck hlen h1' h2' h4' ha hb hc fa fb fc
    go_enter Tryz.func63, Tryz.ntmps63
    go_wp2_with fail
    rw [HA.out]
    refine (HLA.out _).mono ?_
    rintro e w1 ⟨rfl, rfl⟩
    go_wp2_with fail
    rw [HB.out]
    refine (HLB.out _).mono ?_
    rintro e w1 ⟨rfl, rfl⟩
    go_wp2_with fail
    rw [HC.out]
    refine (HLC.out _).mono ?_
    rintro e w1 ⟨rfl, hb1⟩
    go_wp2
    go_ret
    exact ⟨rfl, hb1⟩
  | true =>
  rw [fa, fb, fc] at hf
  obtain ⟨c1, c2, c3⟩ := two_cmp (l := b.data.toList) (by rw [szL]; exact hbs) fb
  rw [hck] at c1 c2 c3
  rw [bank_is hf]
  have HBR := Lib.hid (fun w => bankrest_c s w (by omega) hs (form_tag hf))
  obtain ⟨R, hR⟩ : ∃ R, bankR s.data.toList = R := ⟨_, rfl⟩
  obtain ⟨C, hC⟩ : ∃ C, bankC s.data.toList = C := ⟨_, rfl⟩
  rw [hR] at HBR ⊢
  rw [hC] at c1 c2 c3 ⊢
  rw [← Lib.toList_data] at c1 c2 c3
  rw [fa] at HLA; rw [fb] at HLB; rw [fc] at HLC
  clear hf hd2 hck hlen h1' h2' h4' ha hb hc fa fb fc hR hC
  by_cases r1 : R = 1
  case neg =>
    rw [decide_eq_false (by omega : ¬ (R = 1 ∧ 2 ≤ C ∧ C ≤ 98))]
    go_enter Tryz.func63, Tryz.ntmps63
    go_wp2_with fail
    rw [HA.out]
    refine (HLA.out _).mono ?_
    rintro e w1 ⟨rfl, rfl⟩
    go_wp2_with fail
    rw [HB.out]
    refine (HLB.out _).mono ?_
    rintro e w1 ⟨rfl, rfl⟩
    go_wp2_with fail
    rw [HC.out]
    refine (HLC.out _).mono ?_
    rintro e w1 ⟨rfl, hb1⟩
    go_wp2_with fail
    refine (HBR.out _).mono ?_
    rintro e w2 ⟨rfl, hb2⟩
    go_wp2
    go_ret
    exact ⟨rfl, below_then hb2 hb1 hb1.size⟩
  subst r1
  rw [← HB.out] at c1 c2 c3
  by_cases k1 : C < 2
  · rw [decide_eq_true k1] at c1
    rw [decide_eq_false (by omega : ¬ ((1 : Int) = 1 ∧ 2 ≤ C ∧ C ≤ 98))]
    clear c2 c3 k1
    go_enter Tryz.func63, Tryz.ntmps63
    go_wp2_with fail
    rw [HA.out]
    refine (HLA.out _).mono ?_
    rintro e w1 ⟨rfl, rfl⟩
    go_wp2_with fail
    rw [HB.out]
    refine (HLB.out _).mono ?_
    rintro e w1 ⟨rfl, rfl⟩
    go_wp2_with fail
    rw [HC.out]
    refine (HLC.out _).mono ?_
    rintro e w1 ⟨rfl, hb1⟩
    go_wp2_with fail
    refine (HBR.out _).mono ?_
    rintro e w2 ⟨rfl, hb2⟩
    go_wp2
    go_ret
    exact ⟨rfl, below_then hb2 hb1 hb1.size⟩
  rw [decide_eq_false k1] at c1
  by_cases k2 : 98 < C
  · rw [decide_eq_false (by omega)] at c2 c3
    rw [decide_eq_false (by omega : ¬ ((1 : Int) = 1 ∧ 2 ≤ C ∧ C ≤ 98))]
    clear k1 k2
    go_enter Tryz.func63, Tryz.ntmps63
    go_wp2_with fail
    rw [HA.out]
    refine (HLA.out _).mono ?_
    rintro e w1 ⟨rfl, rfl⟩
    go_wp2_with fail
    rw [HB.out]
    refine (HLB.out _).mono ?_
    rintro e w1 ⟨rfl, rfl⟩
    go_wp2_with fail
    rw [HC.out]
    refine (HLC.out _).mono ?_
    rintro e w1 ⟨rfl, hb1⟩
    go_wp2_with fail
    refine (HBR.out _).mono ?_
    rintro e w2 ⟨rfl, hb2⟩
    go_wp2
    go_ret
    exact ⟨rfl, below_then hb2 hb1 hb1.size⟩
  rw [decide_eq_true (by omega : ((1 : Int) = 1 ∧ 2 ≤ C ∧ C ≤ 98))]
  by_cases k3 : C < 98
  · rw [decide_eq_true k3] at c2
    clear c3 k1 k2 k3
    go_enter Tryz.func63, Tryz.ntmps63
    go_wp2_with fail
    rw [HA.out]
    refine (HLA.out _).mono ?_
    rintro e w1 ⟨rfl, rfl⟩
    go_wp2_with fail
    rw [HB.out]
    refine (HLB.out _).mono ?_
    rintro e w1 ⟨rfl, rfl⟩
    go_wp2_with fail
    rw [HC.out]
    refine (HLC.out _).mono ?_
    rintro e w1 ⟨rfl, hb1⟩
    go_wp2_with fail
    refine (HBR.out _).mono ?_
    rintro e w2 ⟨rfl, hb2⟩
    go_wp2
    go_ret
    exact ⟨rfl, below_then hb2 hb1 hb1.size⟩
  · rw [decide_eq_false k3] at c2
    rw [decide_eq_true (by omega)] at c3
    clear k1 k2 k3
    go_enter Tryz.func63, Tryz.ntmps63
    go_wp2_with fail
    rw [HA.out]
    refine (HLA.out _).mono ?_
    rintro e w1 ⟨rfl, rfl⟩
    go_wp2_with fail
    rw [HB.out]
    refine (HLB.out _).mono ?_
    rintro e w1 ⟨rfl, rfl⟩
    go_wp2_with fail
    rw [HC.out]
    refine (HLC.out _).mono ?_
    rintro e w1 ⟨rfl, hb1⟩
    go_wp2_with fail
    refine (HBR.out _).mono ?_
    rintro e w2 ⟨rfl, hb2⟩
    go_wp2
    go_ret
    exact ⟨rfl, below_then hb2 hb1 hb1.size⟩
end Go.Proofs.YtegobkaldedhhaaGreatDoor
