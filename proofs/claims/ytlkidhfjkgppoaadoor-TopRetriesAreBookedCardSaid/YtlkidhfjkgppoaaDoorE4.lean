
/- The walks of days and dates: padded, and the text of a day, in the program. -/
import Derived.Test.YtlkidhfjkgppoaaDoorE2
import Derived.Test.YtlkidhfjkgppoaaDoorShelf
import Derived.Lib.AppendIntMem
import Derived.Lib.ItoaLen
import Derived.Deep.QuietTactic
import Derived.BigQuiet
import Derived.Lib.Repeat
namespace Go.Proofs.YtlkidhfjkgppoaaDoor
open Go.RowKit Limb Work
set_option linter.unusedVariables false
set_option linter.unusedSimpArgs false

/-- A number with so many digits. -/
def padN (n k : Nat) : List UInt8 := List.replicate (k - (Lib.decDigits n).length) 48 ++ Lib.decDigits n
def padS (n : Int) (k : Nat) : ByteArray := ⟨(padN n.toNat k).toArray⟩
theorem nd_le : ∀ (k u : Nat), u < 10 ^ (k + 1) → Lib.nDigits u ≤ k + 1
  | 0, u, h => by rw [Lib.nDigits_small (by simpa using h)]; exact Nat.le_refl _
  | k + 1, u, h => by
    by_cases h1 : u < 10
    · rw [Lib.nDigits_small h1]; omega
    · rw [Lib.nDigits_big h1]
      have := nd_le k (u / 10) (by rw [Nat.pow_succ] at h; omega)
      omega
theorem dec_len {n k : Nat} (hk : 1 ≤ k) (h : n < 10 ^ k) : 1 ≤ (Lib.decDigits n).length ∧ (Lib.decDigits n).length ≤ k := by
  rw [Lib.decDigits_length]
  refine ⟨Lib.nDigits_pos n, ?_⟩
  have := nd_le (k - 1) n (by rw [show k - 1 + 1 = k by omega]; exact h)
  omega
theorem padN_len {n k : Nat} (hk : 1 ≤ k) (h : n < 10 ^ k) : (padN n k).length = k := by
  have := dec_len hk h
  unfold padN
  simp
  omega
theorem padS_size {n : Int} {k : Nat} (hk : 1 ≤ k) (h : n.toNat < 10 ^ k) : (padS n k).size = k := by
  have := padN_len hk h
  unfold padS
  show (padN n.toNat k).toArray.size = k
  simpa using this
theorem padS_one {n : Int} (h : 0 ≤ n ∧ n ≤ 9) : padS n 1 = (⟨(Lib.decDigits n.toNat).toArray⟩ : ByteArray) := by
  have := dec_len (n := n.toNat) (k := 1) (by decide) (by omega)
  unfold padS padN
  rw [show 1 - (Lib.decDigits n.toNat).length = 0 by omega]
  rfl
/-- The library's table of powers lies in memory. -/
def Tab (w : World) : Prop := Lib.TabIs Tryd.prog w "internal/strconv.uint64pow10" .u64 Lib.pow10Tab
theorem Tab.below {w w' : World} (h : Tab w) (hb : Below w.heap.size w w') : Tab w' := Lib.tabBelow_of_tabIs h w' hb
theorem itoa_c (n : Int) (w : World) (h0 : 0 ≤ n) (h1 : n ≤ 9223372036854775807) (ht : Tab w) :
    Calls Tryd.prog 7 #[.int .i64 n] w fun e w' => e = .returned (.string ⟨(Lib.decDigits n.toNat).toArray⟩) ∧ Below w.heap.size w w' := by
  refine (Tryd.strconv_Itoa n (by omega) h1 w ht).mono ?_
  rintro e w' ⟨rfl, k, os, rfl⟩
  refine ⟨?_, Lib.below_grow _ w (Nat.le_refl _) k os⟩
  unfold Lib.itoa
  rw [if_neg (by omega)]
def RetS (s : ByteArray) (w : World) (e : Ending) (w' : World) : Prop := e = .returned (.string s) ∧ Below w.heap.size w w'
theorem rep_one (c : UInt8) : ∀ n, Lib.repeatL [c] n = List.replicate n c
  | 0 => rfl
  | n + 1 => by rw [Lib.repeatL, rep_one c n, List.replicate_succ]; rfl
/-! ### The text of a day -/
def formB (f : Int) : Bool := decide (1 ≤ f ∧ f ≤ 5)
def dash : ByteArray := ⟨#[45]⟩
/-- The text of a day: y m d its date, z the year of its week. -/
def dtS (form day y m d z : Int) : ByteArray :=
  if form = 1 then padS y 4 ++ padS m 2 ++ padS d 2
  else if form = 2 then padS (y % 100) 2 ++ padS m 2 ++ padS d 2
  else if form = 3 then padS d 2 ++ padS m 2 ++ padS y 4
  else if form = 4 then padS y 4 ++ ⟨#[45]⟩ ++ padS m 2 ++ ⟨#[45]⟩ ++ padS d 2
  else padS z 4 ++ padS (wk day z) 2 ++ padS ((day - 1) % 7 + 1) 1
def RetSF (s : ByteArray) (f : Int) (w : World) (e : Ending) (w' : World) : Prop := e = .returned (.tuple #[.string s, .int .i64 f]) ∧ Below w.heap.size w w'
theorem RetSF.eq {s t : ByteArray} {f : Int} {w : World} {e : Ending} {w' : World} (h : RetSF s f w e w') (he : s = t) : RetSF t f w e w' := he ▸ h
end Go.Proofs.YtlkidhfjkgppoaaDoor
