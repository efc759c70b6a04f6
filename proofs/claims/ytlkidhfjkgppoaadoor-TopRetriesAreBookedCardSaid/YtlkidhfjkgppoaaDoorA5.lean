
/- The walks of Cut at one byte, isWhole, read, ReadText. -/
import Derived.Test.YtlkidhfjkgppoaaDoorA4
import Derived.Lib.Bytealg
import Derived.Lib.IndexLaws
namespace Go.Proofs.YtlkidhfjkgppoaaDoor
open Go.RowKit Limb

/-- What lies ahead of the first such byte, what lies behind it, whether there is one. -/
def cutL : List UInt8 → UInt8 → List UInt8 × List UInt8 × Bool
  | [], _ => ([], [], false)
  | x :: l, c => if x == c then ([], l, true) else (x :: (cutL l c).1, (cutL l c).2.1, (cutL l c).2.2)

theorem cutL_index (l : List UInt8) (c : UInt8) : (Lib.indexByte l c = -1 ∧ cutL l c = (l, [], false)) ∨ ∃ o : Nat, o < l.length ∧ Lib.indexByte l c = o ∧ cutL l c = (l.take o, l.drop (o + 1), true) := by
  induction l with
  | nil => exact .inl ⟨rfl, rfl⟩
  | cons x l ih =>
    unfold Lib.indexByte cutL
    by_cases h : (x == c) = true
    · rw [if_pos h, if_pos h]
      exact .inr ⟨0, by simp, rfl, by simp⟩
    · rw [if_neg h, if_neg h]
      rcases ih with ⟨h1, h2⟩ | ⟨o, ho, h1, h2⟩
      · rw [h1, h2]
        exact .inl ⟨rfl, rfl⟩
      · rw [h1, h2]
        refine .inr ⟨o + 1, by simpa using ho, ?_, by simp⟩
        rw [if_neg (by simp)]
        simp

theorem ixb (s : ByteArray) (c : UInt8) (w : World) : (callFunc 85 #[.string s, .int .u8 (c.toNat : Int)]).run Tryd.prog w = .ok (.value (.int .i64 (Lib.indexByte s.data.toList c))) w := by
  rw [run_callFunc_extern Tryd.func85 (by kernel_rfl) (by kernel_rfl) (by kernel_rfl) (e := Extern.BytealgIndexByte.indexByte) (by kernel_rfl), Lib.run_indexByteString]
  simp [Result.andThen]

/-- What Cut at one byte comes to. -/
def Cut1 (s : ByteArray) (c : UInt8) (w : World) (e : Ending) (w' : World) : Prop :=
  (∃ n, w' = w.drewN n) ∧ ∃ t u : ByteArray, e = .returned (.tuple #[.string t, .string u, .bool (cutL s.data.toList c).2.2]) ∧ t.data.toList = (cutL s.data.toList c).1 ∧ u.data.toList = (cutL s.data.toList c).2.1

/-- Digits without a needless 0. -/
def wholeB (l : List UInt8) : Bool := digB l && (l.length == 1 || !(l.head? == some 48))
theorem head_get {s : ByteArray} (h : 0 < s.size) : s.data.toList.head? = some s[0] := by
  rw [List.head?_eq_getElem?, List.getElem?_eq_getElem (by simpa using h)]
  rfl
theorem dig_size {s : ByteArray} (h : digB s.data.toList = true) : 0 < s.size := by
  unfold digB at h
  rcases Nat.eq_zero_or_pos s.size with h0 | h0
  · have hl : s.data.toList = [] := List.length_eq_zero_iff.1 (by simpa using h0)
    rw [hl] at h; simp at h
  · exact h0
end Go.Proofs.YtlkidhfjkgppoaaDoor
