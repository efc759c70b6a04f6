
/- The walks of package amount: marksFault, sign, pointed, grouped. -/
import Derived.Test.YtmeefinnefanpaaDoorA7
import Derived.Test.YtmeefinnefanpaaDoorShelf
import Derived.Deep.QuietTactic
import Derived.BigQuiet
import Derived.IntWalk
import Derived.Lib.Repeat
namespace Go.Proofs.YtmeefinnefanpaaDoor
open Go.RowKit Limb
set_option linter.unusedVariables false
set_option linter.unusedSimpArgs false

/-! ### Marks -/
def wrongB (b : Int) : Bool := decide ((48 ≤ b ∧ b ≤ 57) ∨ b = 45 ∨ b < 32 ∨ 126 < b)
theorem wrong_c (b : Int) (w : World) (h0 : 0 ≤ b) (h1 : b ≤ 255) : Calls Tryd.prog 43 #[.int .u8 b] w fun e w' => w = w' ∧ e = .returned (.bool (wrongB b)) := by
  by_cases h : (48 ≤ b ∧ b ≤ 57) ∨ b = 45 ∨ b < 32 ∨ 126 < b
  · rw [show wrongB b = true from decide_eq_true h]
    rcases h with ⟨k1, k2⟩ | k | k | k
    · go_enter Tryd.func43, Tryd.ntmps43
      go_wp2
      go_ret
      exact ⟨rfl, rfl⟩
    · subst k
      go_enter Tryd.func43, Tryd.ntmps43
      go_wp2
      go_ret
      exact ⟨rfl, rfl⟩
    · go_enter Tryd.func43, Tryd.ntmps43
      go_wp2
      go_ret
      exact ⟨rfl, rfl⟩
    · go_enter Tryd.func43, Tryd.ntmps43
      go_wp2
      go_ret
      exact ⟨rfl, rfl⟩
  · rw [show wrongB b = false from decide_eq_false h]
    have k3 : (b == 45) = false := by simp; omega
    have k4 : ¬ b < 32 := by omega
    have k5 : ¬ 126 < b := by omega
    by_cases k1 : b < 48
    · clear h
      go_enter Tryd.func43, Tryd.ntmps43
      go_wp2
      go_ret
      exact ⟨rfl, rfl⟩
    · have k2 : 57 < b := by omega
      have k2b : decide (b ≤ 57) = false := decide_eq_false (by omega)
      clear h
      go_enter Tryd.func43, Tryd.ntmps43
      go_wp2
      go_ret
      exact ⟨rfl, rfl⟩
def marksF (p g : Int) : Int := if p = g ∨ wrongB p = true ∨ wrongB g = true then 12 else 0
theorem marks_c (p g : Int) (w : World) (h0 : 0 ≤ p ∧ p ≤ 255) (h1 : 0 ≤ g ∧ g ≤ 255) : Calls Tryd.prog 21 #[.int .u8 p, .int .u8 g] w fun e w' => w = w' ∧ e = .returned (.int .i64 (marksF p g)) := by
  have W1 := Lib.hid (fun W => wrong_c p W h0.1 h0.2)
  have W2 := Lib.hid (fun W => wrong_c g W h1.1 h1.2)
  by_cases he : p = g
  · subst he
    rw [show marksF p p = 12 from if_pos (.inl rfl)]
    go_enter Tryd.func21, Tryd.ntmps21
    go_wp2
    go_ret
    exact ⟨rfl, rfl⟩
  · have he' : (p == g) = false := by simpa using he
    cases hp : wrongB p with
    | true =>
      have HP := Lib.hid hp
      rw [show marksF p g = 12 from if_pos (.inr (.inl hp))]
      clear hp he
      go_enter Tryd.func21, Tryd.ntmps21
      go_wp2_with (go_at_call_of 43 (Value.int IntKind.u8 p); refine (W1.out _).mono ?_; rintro e w1 ⟨rfl, rfl⟩; rw [HP.out])
      go_ret
      exact ⟨rfl, rfl⟩
    | false =>
      have HP := Lib.hid hp
      cases hg : wrongB g with
      | true =>
        have HG := Lib.hid hg
        rw [show marksF p g = 12 from if_pos (.inr (.inr hg))]
        clear hp he hg
        go_enter Tryd.func21, Tryd.ntmps21
        go_wp2_with (first | (go_at_call_of 43 (Value.int IntKind.u8 p); refine (W1.out _).mono ?_; rintro e w1 ⟨rfl, rfl⟩; rw [HP.out]) | (go_at_call_of 43 (Value.int IntKind.u8 g); refine (W2.out _).mono ?_; rintro e w1 ⟨rfl, rfl⟩; rw [HG.out]))
        go_ret
        exact ⟨rfl, rfl⟩
      | false =>
        have HG := Lib.hid hg
        rw [show marksF p g = 0 from if_neg (by rw [hp, hg]; simpa using he)]
        clear hp he hg
        go_enter Tryd.func21, Tryd.ntmps21
        go_wp2_with (first | (go_at_call_of 43 (Value.int IntKind.u8 p); refine (W1.out _).mono ?_; rintro e w1 ⟨rfl, rfl⟩; rw [HP.out]) | (go_at_call_of 43 (Value.int IntKind.u8 g); refine (W2.out _).mono ?_; rintro e w1 ⟨rfl, rfl⟩; rw [HG.out]))
        go_ret
        exact ⟨rfl, rfl⟩

/-! ### sign -/
def signS (u : Int) : ByteArray := if u < 0 then ⟨#[45]⟩ else ⟨#[]⟩
/-! ### pointed -/
theorem repeat_one (c : UInt8) : ∀ n, Lib.repeatL [c] n = List.replicate n c
  | 0 => rfl
  | n + 1 => by rw [Lib.repeatL, repeat_one c n, List.replicate_succ]; rfl
def padL (l : List UInt8) (p : Nat) : List UInt8 := List.replicate (p + 1 - l.length) 48 ++ l
theorem padL_len (l : List UInt8) (p : Nat) : (padL l p).length = max (p + 1) l.length := by unfold padL; simp; omega
/-- What pointed comes to. -/
def Pointed (l : List UInt8) (p : Nat) (w : World) (e : Ending) (w' : World) : Prop :=
  Below w.heap.size w w' ∧ ∃ a b : ByteArray, e = .returned (.tuple #[.string a, .string b]) ∧ a.data.toList = (padL l p).take ((padL l p).length - p) ∧ b.data.toList = (padL l p).drop ((padL l p).length - p)
end Go.Proofs.YtmeefinnefanpaaDoor
