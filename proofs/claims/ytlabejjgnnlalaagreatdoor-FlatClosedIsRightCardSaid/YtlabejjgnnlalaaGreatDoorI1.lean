/- Numbers as text, plain: what is read is written so; how long it is. The walks of Told and valueOf. -/
import Derived.Test.YtlabejjgnnlalaaGreatDoorT14
import Derived.Test.YtlabejjgnnlalaaGreatDoorM2
import Derived.Test.YtlabejjgnnlalaaGreatDoorT16
import Derived.Test.YtlabejjgnnlalaaGreatDoorV2
import Derived.Test.YtlabejjgnnlalaaGreatDoorY1
-- merged: ZC I1
namespace Go.Proofs.YtlabejjgnnlalaaGreatDoor
open Limb Nmb Work
set_option linter.unusedVariables false
set_option linter.unusedSimpArgs false
theorem textL_len (u : Int) (q : Nat) : (textL u q).length = (if u < 0 then 1 else 0) + (if (Lib.decDigits u.natAbs).length ≤ q then 1 else (Lib.decDigits u.natAbs).length - q) + (if q = 0 then 0 else 1 + q) := by
  unfold textL befL behL sgL padL digL
  have hd := dec_ne u.natAbs
  simp only [List.length_append, List.length_take, List.length_replicate]
  have hs : (if u < 0 then ([45] : List UInt8) else []).length = if u < 0 then 1 else 0 := by split <;> rfl
  rw [hs]
  by_cases hq : q = 0
  · subst hq
    have h2 : ¬ (Lib.decDigits u.natAbs).length ≤ 0 := by omega
    rw [if_pos rfl, if_pos rfl, if_neg h2]
    simp only [List.length_nil]
    omega
  · rw [if_neg hq, if_neg hq]
    simp only [List.length_cons, List.length_drop, List.length_append, List.length_replicate]
    by_cases h1 : (Lib.decDigits u.natAbs).length ≤ q
    · rw [if_pos h1]; omega
    · rw [if_neg h1]; omega
end Go.Proofs.YtlabejjgnnlalaaGreatDoor
namespace Go.Proofs.YtlabejjgnnlalaaGreatDoor
open Go.RowKit Limb Nmb Work
set_option linter.unusedVariables false
set_option linter.unusedSimpArgs false
set_option maxRecDepth 100000 in
theorem told6_c (u p : Int) (w : World) : Calls Tryz.prog 43 #[.agg #[.int .i64 u, .int .i64 p]] w fun e w' => ∃ s : ByteArray, e = .returned (.string s) ∧ s.data.toList = textR u p ∧ Below w.heap.size w w' := by
  have HT := Lib.hid (fun w => wtext_c u p w)
  have hD := heap_new w (.cells #[.int .i64 u, .int .i64 p] 69) rfl
  have HB : Hid (Below w.heap.size w (w.alloc (.cells #[.int .i64 u, .int .i64 p] 69))) := Lib.hid (by go_grown)
  unfold RetST at HT
  go_enter Tryz.func43, Tryz.ntmps43
  obtain ⟨d0, d1, -, -, -⟩ := box2 hD
  go_wp2_with fail
  refine (HT.out _).mono ?_
  rintro _ w2 ⟨s, rfl, hs, hb2⟩
  have HS := Lib.hid hs
  have hB2 := below_then hb2 HB.out HB.out.size
  clear hs
  go_wp2
  go_ret
  exact ⟨s, rfl, HS.out, hB2⟩
theorem bs_of {s : ByteArray} {l : List UInt8} (h : s.data.toList = l) : s = bs l := by rw [← h]; exact (bs_self s).symm
end Go.Proofs.YtlabejjgnnlalaaGreatDoor
