
/- The walk of awake: ReadText at one text. -/
import Derived.Test.YtlkidhfjkgppoaaDoorA3
import Derived.Lib.Strings
import Derived.Lib.IndexBytes
namespace Go.Proofs.YtlkidhfjkgppoaaDoor
open Go.RowKit Limb

/-! ### A string without one byte ahead -/
def hasB (s : ByteArray) (c : UInt8) : Bool := s.data.toList.head? == some c
theorem hasB_ext {s : ByteArray} {c : UInt8} (h : 0 < s.size) : ((s.extract 0 1).toList == [c]) = hasB s c := by
  rw [Lib.extract_toList]
  unfold hasB
  have hl : 0 < s.data.toList.length := by simpa using h
  cases hd : s.data.toList with
  | nil => rw [hd] at hl; simp at hl
  | cons x xs => simp
theorem hasB_empty {s : ByteArray} {c : UInt8} (h : s.size = 0) : hasB s c = false := by
  unfold hasB
  have hl : s.data.toList = [] := List.length_eq_zero_iff.1 (by simpa using h)
  rw [hl]; rfl

/-- What CutPrefix comes to. -/
def CutP (s : ByteArray) (c : UInt8) (w : World) (e : Ending) (w' : World) : Prop :=
  w = w' ∧ ∃ t : ByteArray, e = .returned (.tuple #[.string t, .bool (hasB s c)]) ∧ t.data.toList = (if hasB s c then s.data.toList.tail else s.data.toList)

theorem ix150 (w : World) : (callFunc 85 #[.string ⟨#[49, 46, 53, 48]⟩, .int .u8 46]).run Tryd.prog w = .ok (.value (.int .i64 1)) w := by kernel_rfl

/-! ### Digits -/
def inB (l : List UInt8) (lo hi : Nat) : Bool := l.all fun c => decide (lo ≤ c.toNat ∧ c.toNat ≤ hi)
theorem data_get (s : ByteArray) (j : Nat) (h : j < s.size) : s.data.toList[j]'(by simpa using h) = s[j] := rfl
theorem inB_at {s : ByteArray} {lo hi : Nat} (h : inB s.data.toList lo hi = true) (j : Nat) (hj : j < s.size) : lo ≤ s[j].toNat ∧ s[j].toNat ≤ hi := by
  have := List.all_eq_true.1 h _ (List.getElem_mem (l := s.data.toList) (n := j) (by simpa using hj))
  rw [data_get s j hj] at this
  exact of_decide_eq_true this
theorem inB_bad {l : List UInt8} {lo hi : Nat} (h : inB l lo hi = false) : ∃ j, ∃ hj : j < l.length, ¬ (lo ≤ l[j].toNat ∧ l[j].toNat ≤ hi) ∧ ∀ i, ∀ hi' : i < j, lo ≤ (l[i]'(by omega)).toNat ∧ (l[i]'(by omega)).toNat ≤ hi := by
  induction l with
  | nil => simp [inB] at h
  | cons c l ih =>
    by_cases hc : lo ≤ c.toNat ∧ c.toNat ≤ hi
    · have h2 : inB l lo hi = false := by
        unfold inB at h ⊢
        rw [List.all_cons, decide_eq_true hc] at h
        simpa using h
      obtain ⟨j, hj, h3, h4⟩ := ih h2
      refine ⟨j + 1, by simpa using hj, by simpa using h3, fun i hi' => ?_⟩
      cases i with
      | zero => simpa using hc
      | succ i => simpa using h4 i (by omega)
    · exact ⟨0, by simp, by simpa using hc, fun i hi' => by omega⟩

/-- Digits, at least one. -/
def digB (l : List UInt8) : Bool := !l.isEmpty && inB l 48 57
end Go.Proofs.YtlkidhfjkgppoaaDoor
