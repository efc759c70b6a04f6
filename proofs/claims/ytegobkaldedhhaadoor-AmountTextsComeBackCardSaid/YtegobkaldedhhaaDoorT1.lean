
/- The walks of package amount: marksFault, sign, pointed, grouped. -/
import Derived.Test.YtegobkaldedhhaaDoorA7
import Derived.Test.YtegobkaldedhhaaDoorShelf
import Derived.Deep.QuietTactic
import Derived.BigQuiet
import Derived.IntWalk
namespace Go.Proofs.YtegobkaldedhhaaDoor
open Go.RowKit Limb
set_option linter.unusedVariables false
set_option linter.unusedSimpArgs false

/-! ### Marks -/
def wrongB (b : Int) : Bool := decide ((48 ≤ b ∧ b ≤ 57) ∨ b = 45 ∨ b < 32 ∨ 126 < b)
theorem wrong_c (b : Int) (w : World) (h0 : 0 ≤ b) (h1 : b ≤ 255) : Calls Tryd.prog 121 #[.int .u8 b] w fun e w' => w = w' ∧ e = .returned (.bool (wrongB b)) := by
  by_cases h : (48 ≤ b ∧ b ≤ 57) ∨ b = 45 ∨ b < 32 ∨ 126 < b
  · rw [show wrongB b = true from decide_eq_true h]
    rcases h with ⟨k1, k2⟩ | k | k | k
    · go_enter Tryd.func121, Tryd.ntmps121
      go_wp2
      go_ret
      exact ⟨rfl, rfl⟩
    · subst k
      go_enter Tryd.func121, Tryd.ntmps121
      go_wp2
      go_ret
      exact ⟨rfl, rfl⟩
    · go_enter Tryd.func121, Tryd.ntmps121
      go_wp2
      go_ret
      exact ⟨rfl, rfl⟩
    · go_enter Tryd.func121, Tryd.ntmps121
      go_wp2
      go_ret
      exact ⟨rfl, rfl⟩
  · rw [show wrongB b = false from decide_eq_false h]
    have k3 : (b == 45) = false := by simp; omega
    have k4 : ¬ b < 32 := by omega
    have k5 : ¬ 126 < b := by omega
    by_cases k1 : b < 48
    · clear h
      go_enter Tryd.func121, Tryd.ntmps121
      go_wp2
      go_ret
      exact ⟨rfl, rfl⟩
    · have k2 : 57 < b := by omega
      have k2b : decide (b ≤ 57) = false := decide_eq_false (by omega)
      clear h
      go_enter Tryd.func121, Tryd.ntmps121
      go_wp2
      go_ret
      exact ⟨rfl, rfl⟩
def marksF (p g : Int) : Int := if p = g ∨ wrongB p = true ∨ wrongB g = true then 12 else 0
theorem marks_c (p g : Int) (w : World) (h0 : 0 ≤ p ∧ p ≤ 255) (h1 : 0 ≤ g ∧ g ≤ 255) : Calls Tryd.prog 72 #[.int .u8 p, .int .u8 g] w fun e w' => w = w' ∧ e = .returned (.int .i64 (marksF p g)) := by
  have W1 := Lib.hid (fun W => wrong_c p W h0.1 h0.2)
  have W2 := Lib.hid (fun W => wrong_c g W h1.1 h1.2)
  by_cases he : p = g
  · subst he
    rw [show marksF p p = 12 from if_pos (.inl rfl)]
    go_enter Tryd.func72, Tryd.ntmps72
    go_wp2
    go_ret
    exact ⟨rfl, rfl⟩
  · have he' : (p == g) = false := by simpa using he
    cases hp : wrongB p with
    | true =>
      have HP := Lib.hid hp
      rw [show marksF p g = 12 from if_pos (.inr (.inl hp))]
      clear hp he
      go_enter Tryd.func72, Tryd.ntmps72
      go_wp2_with (go_at_call_of 121 (Value.int IntKind.u8 p); refine (W1.out _).mono ?_; rintro e w1 ⟨rfl, rfl⟩; rw [HP.out])
      go_ret
      exact ⟨rfl, rfl⟩
    | false =>
      have HP := Lib.hid hp
      cases hg : wrongB g with
      | true =>
        have HG := Lib.hid hg
        rw [show marksF p g = 12 from if_pos (.inr (.inr hg))]
        clear hp he hg
        go_enter Tryd.func72, Tryd.ntmps72
        go_wp2_with (first | (go_at_call_of 121 (Value.int IntKind.u8 p); refine (W1.out _).mono ?_; rintro e w1 ⟨rfl, rfl⟩; rw [HP.out]) | (go_at_call_of 121 (Value.int IntKind.u8 g); refine (W2.out _).mono ?_; rintro e w1 ⟨rfl, rfl⟩; rw [HG.out]))
        go_ret
        exact ⟨rfl, rfl⟩
      | false =>
        have HG := Lib.hid hg
        rw [show marksF p g = 0 from if_neg (by rw [hp, hg]; simpa using he)]
        clear hp he hg
        go_enter Tryd.func72, Tryd.ntmps72
        go_wp2_with (first | (go_at_call_of 121 (Value.int IntKind.u8 p); refine (W1.out _).mono ?_; rintro e w1 ⟨rfl, rfl⟩; rw [HP.out]) | (go_at_call_of 121 (Value.int IntKind.u8 g); refine (W2.out _).mono ?_; rintro e w1 ⟨rfl, rfl⟩; rw [HG.out]))
        go_ret
        exact ⟨rfl, rfl⟩

/-! ### sign -/
def signS (u : Int) : ByteArray := if u < 0 then ⟨#[45]⟩ else ⟨#[]⟩
theorem sgn_c (u p : Int) (w : World) : Calls Tryd.prog 66 #[.agg #[.int .i64 u, .int .i64 p]] w fun e w' => e = .returned (.string (signS u)) ∧ Below w.heap.size w w' := by
  by_cases h : u < 0
  · rw [show signS u = ⟨#[45]⟩ from if_pos h]
    go_enter Tryd.func66, Tryd.ntmps66
    go_wp2
    go_ret
    exact ⟨rfl, by go_grown⟩
  · rw [show signS u = ⟨#[]⟩ from if_neg h]
    go_enter Tryd.func66, Tryd.ntmps66
    go_wp2
    go_ret
    exact ⟨rfl, by go_grown⟩

/-! ### pointed -/
theorem repeat_one (c : UInt8) : ∀ n, Lib.repeatL [c] n = List.replicate n c
  | 0 => rfl
  | n + 1 => by rw [Lib.repeatL, repeat_one c n, List.replicate_succ]; rfl
def padL (l : List UInt8) (p : Nat) : List UInt8 := List.replicate (p + 1 - l.length) 48 ++ l
theorem padL_len (l : List UInt8) (p : Nat) : (padL l p).length = max (p + 1) l.length := by unfold padL; simp; omega
/-- What pointed comes to. -/
def Pointed (l : List UInt8) (p : Nat) (w : World) (e : Ending) (w' : World) : Prop :=
  Below w.heap.size w w' ∧ ∃ a b : ByteArray, e = .returned (.tuple #[.string a, .string b]) ∧ a.data.toList = (padL l p).take ((padL l p).length - p) ∧ b.data.toList = (padL l p).drop ((padL l p).length - p)
set_option maxHeartbeats 2000000 in
set_option maxRecDepth 100000 in
theorem pointed_c (s : ByteArray) (p : Nat) (w : World) (hp : p ≤ 9) (hs : s.size ≤ 1000) :
    Calls Tryd.prog 62 #[.string s, .int .i64 (p : Int)] w (Pointed s.data.toList p w) := by
  have hl : s.data.toList.length = s.size := by simp
  obtain ⟨c, hc⟩ : ∃ c : Nat, p + 1 - s.size = c := ⟨_, rfl⟩
  have hrep := Tryd.strings_Repeat ⟨#[48]⟩ c
  have HREP := Lib.hid hrep; clear hrep
  have HPL := Lib.hid (show padL s.data.toList p = List.replicate c 48 ++ s.data.toList by unfold padL; rw [hl, hc])
  have hcb : c ≤ 10 := by omega
  have fin : ∀ (r : ByteArray) (W : World), r = (⟨(Lib.repeatL [48] c).toArray⟩ : ByteArray) → Below w.heap.size w W → p + 1 ≤ c + s.size →
      ∃ t : ByteArray, r ++ s = t ∧ t.size = c + s.size ∧ t.data.toList = padL s.data.toList p := by
    intro r W hr _ _
    refine ⟨r ++ s, rfl, ?_, ?_⟩
    · rw [hr, ByteArray.size_append, repeat_one]; congr 1; show (List.replicate c (48 : UInt8)).toArray.size = c; simp
    · rw [HPL.out, hr]; simp [repeat_one]
  have FIN := Lib.hid fin; clear fin
  have e1 : max (0 : Int) ((p : Int) + 1 - (s.size : Int)) = ((c : Nat) : Int) := by omega
  have HH := Lib.hid (show p + 1 ≤ c + s.size by omega)
  have E1 := Lib.hid e1; clear e1 hc
  go_enter Tryd.func62, Tryd.ntmps62
  go_wp2_with fail
  rw [E1.out]
  refine (HREP.out _ (by omega) (by show 1 * c ≤ _; omega)).mono ?_
  rintro e w1 ⟨rfl, hb1⟩
  obtain ⟨r, hr⟩ : ∃ r : ByteArray, (⟨(Lib.repeatL [48] c).toArray⟩ : ByteArray) = r := ⟨_, rfl⟩
  obtain ⟨t, ht, hts, htd⟩ := FIN.out r w1 hr.symm hb1 HH.out
  have hrs : r.size = c := by rw [← hr, repeat_one]; show (List.replicate c (48 : UInt8)).toArray.size = c; simp
  have hr2 : (⟨(Lib.repeatL (⟨#[48]⟩ : ByteArray).data.toList c).toArray⟩ : ByteArray) = r := hr
  rw [hr2]
  clear hr hr2
  have hcond : ¬ 9223372036854775807 < r.size + s.size := by omega
  have HT := Lib.hid ht; have HTD := Lib.hid htd
  clear ht htd
  go_upto_region 2 with fail
  rw [HT.out]
  have hts2 : t.size ≤ 1010 := by omega
  have hpt : p ≤ t.size := by have := HH.out; omega
  clear hts hrs hcond
  have e1 : IntKind.i64.wrap ((t.size : Int) - (p : Int)) = (t.size : Int) - (p : Int) := IntWalk.i64_in _ (by omega)
  have e2 : (p : Int) ≤ (t.size : Int) := by omega
  have e2' : (0 : Int) ≤ (t.size : Int) - (p : Int) := by omega
  have e3 : ((t.size : Int) - (p : Int)).toNat = t.size - p := by omega
  have e4 : (t.size : Int) - (p : Int) ≤ (t.size : Int) := by omega
  go_quiet (fail)
  have E4 := Lib.hid e3
  clear e1 e2 e2' e3 e4
  go_wp2
  go_ret2
  refine ⟨below_drewN hb1 _, t.extract 0 (t.size - p), t.extract (t.size - p) t.size, rfl, ?_, ?_⟩
  · have hts3 : t.data.toList.length = t.size := by simp
    rw [← HTD.out, hts3, Lib.extract_data]; simp
  · have hts3 : t.data.toList.length = t.size := by simp
    rw [← HTD.out, hts3, Lib.extract_to_end]
end Go.Proofs.YtegobkaldedhhaaDoor
