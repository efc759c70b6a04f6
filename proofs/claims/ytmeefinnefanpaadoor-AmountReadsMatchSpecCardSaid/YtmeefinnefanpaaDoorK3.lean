
/- The walks of package amount's numbers: bankRestOf, isBank, isTax, isNumber, IsNumber, Widened. -/
import Derived.Test.YtmeefinnefanpaaDoorK2
import Derived.Laws.IdiomStrings
namespace Go.Proofs.YtmeefinnefanpaaDoor
open Go.RowKit Limb Nmb
set_option linter.unusedVariables false
set_option linter.unusedSimpArgs false

/-! ### Letters and digits -/
def tagSet : ByteArray := ⟨#[65, 66, 67, 68, 69, 70, 71, 72, 73, 74, 75, 76, 77, 78, 79, 80, 81, 82, 83, 84, 85, 86, 87, 88, 89, 90, 48, 49, 50, 51, 52, 53, 54, 55, 56, 57]⟩
theorem tagSet_fin : ∀ i : Fin 256, tagSet.data.toList.contains (UInt8.ofNat i.val) = tagC ((UInt8.ofNat i.val).toNat : Int) := by decide +kernel
theorem tagSet_c (c : UInt8) : tagSet.data.toList.contains c = tagC (c.toNat : Int) := by
  have := tagSet_fin ⟨c.toNat, c.toNat_lt⟩
  simp only [UInt8.ofNat_toNat] at this
  exact this
theorem trim_tag (l : List UInt8) : (Lib.trimS l tagSet.data.toList).isEmpty = tagL l := by
  rw [trimS_nil]
  unfold tagL
  congr 1
  funext c
  exact tagSet_c c
theorem inb_c (s : ByteArray) (lo hi : Nat) (w : World) (hs : s.size ≤ 9223372036854775807) :
    Calls Tryd.prog 29 #[.string s, .int .u8 (lo : Int), .int .u8 (hi : Int)] w fun e w' => w = w' ∧ e = .returned (.bool (inL s.data.toList lo hi)) := by
  rw [← inB_inL]
  cases h : inB s.data.toList lo hi with
  | true => exact inb_yes s lo hi w h hs
  | false => exact inb_no s lo hi w h hs
/-! ### What a number of a bank leaves -/
theorem tag_app {a b : List UInt8} : tagL (a ++ b) = (tagL a && tagL b) := by unfold tagL; rw [List.all_append]
theorem tag_take_drop {l : List UInt8} (k : Nat) (h : tagL l = true) : tagL (l.drop k ++ l.take k) = true := by
  have : tagL (l.take k ++ l.drop k) = true := by rw [List.take_append_drop]; exact h
  rw [tag_app, Bool.and_eq_true] at this
  rw [tag_app, this.1, this.2]; rfl
theorem ext_drop (s : ByteArray) (k : Nat) : (s.extract k s.size).data.toList = s.data.toList.drop k := by rw [Lib.extract_to_end]
theorem ext_take (s : ByteArray) (k : Nat) : (s.extract 0 k).data.toList = s.data.toList.take k := by rw [Lib.extract_data]; simp
theorem row_facts (w : World) (t : ByteArray) (cap : Nat) (W : World) (h : (w.alloc (.cells (bytesRow t cap) 5 ((bytesRow t cap).size, (bytesRow t cap).size + 1))).drew.drew = W) :
    (∀ k, (hk : k < t.size) → W.cell? ⟨w.heap.size, k, none⟩ = some (.int .u8 (t[k].toNat : Int))) ∧ Below w.heap.size w W := by
  subst h
  refine ⟨fun k hk => ?_, by go_grown⟩
  have := World.cell?_alloc_mark w (bytesRow t cap) 5 ((bytesRow t cap).size, (bytesRow t cap).size + 1) k
  exact this.trans (bytesRow_at t cap k hk)
theorem rest_next {l : List UInt8} {k : Nat} (h : k < l.length) : restF (l.take (k + 1)) 0 = stBk (restF (l.take k) 0) (byA l k) := restF_take h 0
end Go.Proofs.YtmeefinnefanpaaDoor
