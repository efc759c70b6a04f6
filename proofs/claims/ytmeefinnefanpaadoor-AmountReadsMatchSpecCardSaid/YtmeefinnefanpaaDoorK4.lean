
/- The walks of package amount's numbers: isBank, isTax, isNumber, IsNumber, Widened. -/
import Derived.Test.YtmeefinnefanpaaDoorK3
namespace Go.Proofs.YtmeefinnefanpaaDoor
open Go.RowKit Limb Nmb
set_option linter.unusedVariables false
set_option linter.unusedSimpArgs false

/-! ### Two digits -/
theorem two_fin : ∀ x y : Fin 10, Op.bytesLess [UInt8.ofNat (48 + x.val), UInt8.ofNat (48 + y.val)] [48, 50] = decide (10 * x.val + y.val < 2) ∧ Op.bytesLess [UInt8.ofNat (48 + x.val), UInt8.ofNat (48 + y.val)] [57, 56] = decide (10 * x.val + y.val < 98) ∧ ([UInt8.ofNat (48 + x.val), UInt8.ofNat (48 + y.val)] == [57, 56]) = decide (10 * x.val + y.val = 98) := by decide +kernel
theorem two_cmp {l : List UInt8} (hl : l.length = 2) (hd : inL l 48 57 = true) : Op.bytesLess l [48, 50] = decide (10 * dgt l 0 + dgt l 1 < 2) ∧ Op.bytesLess l [57, 56] = decide (10 * dgt l 0 + dgt l 1 < 98) ∧ (l == [57, 56]) = decide (10 * dgt l 0 + dgt l 1 = 98) := by
  match l, hl with
  | [a, b], _ =>
    have h0 := inL_yes hd (i := 0) (by simp)
    have h1 := inL_yes hd (i := 1) (by simp)
    have e0 : byA [a, b] 0 = (a.toNat : Int) := rfl
    have e1 : byA [a, b] 1 = (b.toNat : Int) := rfl
    rw [e0] at h0; rw [e1] at h1
    have := two_fin ⟨a.toNat - 48, by omega⟩ ⟨b.toNat - 48, by omega⟩
    have ea : UInt8.ofNat (48 + (a.toNat - 48)) = a := by rw [show 48 + (a.toNat - 48) = a.toNat by omega]; exact UInt8.ofNat_toNat
    have eb : UInt8.ofNat (48 + (b.toNat - 48)) = b := by rw [show 48 + (b.toNat - 48) = b.toNat by omega]; exact UInt8.ofNat_toNat
    simp only [ea, eb] at this
    rw [this.1, this.2.1, this.2.2]
    unfold dgt
    rw [e0, e1]
    refine ⟨?_, ?_, ?_⟩
    · apply decide_eq_decide.2; omega
    · apply decide_eq_decide.2; omega
    · apply decide_eq_decide.2; omega
theorem chk_two {l : List UInt8} (h : 4 ≤ l.length) : 10 * dgt ((l.drop 2).take 2) 0 + dgt ((l.drop 2).take 2) 1 = bankC l := by
  unfold bankC dgt
  rw [byA_take (by decide), byA_take (by decide), byA_drop, byA_drop]
theorem digs_two {l : List UInt8} (h : 4 ≤ l.length) : digs ((l.drop 2).take 2) = inL ((l.drop 2).take 2) 48 57 := by
  unfold digs
  have : ((l.drop 2).take 2).isEmpty = false := by
    rw [Bool.eq_false_iff]
    intro h2
    rw [List.isEmpty_iff] at h2
    have := congrArg List.length h2
    simp at this
    omega
  rw [this]; simp
theorem isdigs_c (s : ByteArray) (w : World) (hs : s.size ≤ 9223372036854775807) :
    Calls Tryd.prog 14 #[.string s] w fun e w' => w = w' ∧ e = .returned (.bool (digs s.data.toList)) := by
  rw [← digB_digs]; exact isdig_c s w hs

theorem form_len {l : List UInt8} (h : ¬ (15 ≤ l.length ∧ l.length ≤ 34)) : bankForm l = false := by unfold bankForm; rw [decide_eq_false h]; rfl
theorem form_in {l : List UInt8} (h : 15 ≤ l.length ∧ l.length ≤ 34) : bankForm l = (inL (l.take 2) 65 90 && (inL ((l.drop 2).take 2) 48 57 && tagL (l.drop 4))) := by unfold bankForm; rw [decide_eq_true h]; rfl
theorem bank_no {l : List UInt8} (h : bankForm l = false) : bankB l = false := by unfold bankB; rw [h]; rfl
theorem bank_is {l : List UInt8} (h : bankForm l = true) : bankB l = decide (bankR l = 1 ∧ 2 ≤ bankC l ∧ bankC l ≤ 98) := by unfold bankB; rw [h]; rfl
theorem form_tag {l : List UInt8} (h : bankForm l = true) : tagL l = true := by
  have hl : 15 ≤ l.length ∧ l.length ≤ 34 := by
    rcases Classical.em (15 ≤ l.length ∧ l.length ≤ 34) with h1 | h1
    · exact h1
    · rw [form_len h1] at h; cases h
  rw [form_in hl] at h
  simp only [Bool.and_eq_true] at h
  obtain ⟨h1, h2, h3⟩ := h
  have e1 : tagL (l.take 2) = true := tag_letters h1
  have e2 : tagL ((l.drop 2).take 2) = true := by
    unfold tagL
    rw [List.all_eq_true]
    intro c hc
    obtain ⟨i, hi, rfl⟩ := List.getElem_of_mem hc
    have := inL_yes h2 hi
    rw [byA_get hi] at this
    exact decide_eq_true (.inr this)
  have e : l = l.take 2 ++ ((l.drop 2).take 2 ++ l.drop 4) := by
    have : l.drop 4 = (l.drop 2).drop 2 := by rw [List.drop_drop]
    rw [this, List.take_append_drop, List.take_append_drop]
  rw [e, tag_app, tag_app, e1, e2, h3]; rfl

def conS (s : ByteArray) (k : Nat) : Prop := s.size ≤ k
end Go.Proofs.YtmeefinnefanpaaDoor
