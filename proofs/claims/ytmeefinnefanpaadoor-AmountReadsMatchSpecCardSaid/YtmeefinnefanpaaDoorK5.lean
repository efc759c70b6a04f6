
/- The walks of the reference's numbers: threes, taxDigit, isLetters, isDigits, remainder. -/
import Derived.Test.YtmeefinnefanpaaDoorK4
namespace Go.Proofs.YtmeefinnefanpaaDoor
open Go.RowKit Limb Nmb
set_option linter.unusedVariables false
set_option linter.unusedSimpArgs false

theorem inL_all {l : List UInt8} {a b : Int} : inL l a b = l.all (fun c => decide (a ≤ (c.toNat : Int) ∧ (c.toNat : Int) ≤ b)) := by
  rw [Bool.eq_iff_iff, List.all_eq_true]
  constructor
  · intro h c hc
    obtain ⟨i, hi, rfl⟩ := List.getElem_of_mem hc
    have := inL_yes h hi
    rw [byA_get hi] at this
    exact decide_eq_true this
  · intro h
    refine inL_mk (fun i hi => ?_)
    have := of_decide_eq_true (h l[i] (List.getElem_mem hi))
    rw [byA_get hi]
    exact this
theorem all_at {s : ByteArray} {p : UInt8 → Bool} (h : ∀ i, (hi : i < s.size) → p s[i] = true) : s.data.toList.all p = true := by
  rw [List.all_eq_true]
  intro c hc
  obtain ⟨i, hi, rfl⟩ := List.getElem_of_mem hc
  exact h i (by simpa using hi)
theorem all_not {s : ByteArray} {p : UInt8 → Bool} {i : Nat} (hi : i < s.size) (h : p s[i] = false) : s.data.toList.all p = false := by
  rw [Bool.eq_false_iff]
  intro h2
  have := List.all_eq_true.1 h2 s[i] (by have := List.getElem_mem (l := s.data.toList) (n := i) (by simpa using hi); exact this)
  rw [h] at this; cases this
def upC (c : UInt8) : Bool := decide ((65 : Int) ≤ (c.toNat : Int) ∧ (c.toNat : Int) ≤ 90)
def diC (c : UInt8) : Bool := decide ((48 : Int) ≤ (c.toNat : Int) ∧ (c.toNat : Int) ≤ 57)
def upS (s : ByteArray) (j : Nat) : Prop := ∀ i, i < j → (hi : i < s.size) → upC s[i] = true
def tgS (s : ByteArray) (j : Nat) : Prop := ∀ i, i < j → (hi : i < s.size) → tagC (s[i].toNat : Int) = true
def diS (s : ByteArray) (j : Nat) : Prop := ∀ i, i < j → (hi : i < s.size) → diC s[i] = true
theorem next_all {s : ByteArray} {p : UInt8 → Bool} {j : Nat} (h : ∀ i, i < j → (hi : i < s.size) → p s[i] = true) (hj : j < s.size) (hp : p s[j] = true) : ∀ i, i < j + 1 → (hi : i < s.size) → p s[i] = true := by
  intro i hi h2
  rcases Nat.lt_or_ge i j with h3 | h3
  · exact h i h3 h2
  · obtain rfl : i = j := by omega
    exact hp
set_option maxHeartbeats 1000000 in
set_option maxRecDepth 100000 in
theorem rdigs_c (s : ByteArray) (w : World) (hs : s.size ≤ 9223372036854775807) :
    Calls Tryd.prog 16 #[.string s] w fun e w' => w = w' ∧ e = .returned (.bool (digs s.data.toList)) := by
  have hlen := szL s
  have hem : s.toList.isEmpty = s.data.toList.isEmpty := by rw [Lib.toList_data]
  have e0 : digs s.data.toList = (inL s.data.toList 48 57 && !s.data.toList.isEmpty) := rfl
  rw [e0, ← hem]
  cases he : s.toList.isEmpty with
  | true =>
    rw [Bool.not_true, Bool.and_false]
    clear hlen hem e0
    go_enter Tryd.func16, Tryd.ntmps16
    go_wp2
    go_ret
    exact ⟨rfl, rfl⟩
  | false =>
  rw [Bool.not_false, Bool.and_true]
  obtain ⟨X, hX⟩ : ∃ X, inL s.data.toList 48 57 = X := ⟨_, rfl⟩
  have HX := Lib.hid (hX.symm.trans inL_all)
  rw [hX]
  clear hlen hem e0 hX
  go_enter Tryd.func16, Tryd.ntmps16
  go_wp2
  go_loop [8] (fun i => ∃ j : Nat, j ≤ s.size ∧ i = .int .i64 j ∧ diS s j) (fun i => s.size - (intOf i).toNat)
  case atStart => exact ⟨0, Nat.zero_le _, rfl, fun i hi => by omega⟩
  case round =>
    obtain ⟨j, hj, rfl, hall⟩ := hrel
    rcases Nat.lt_or_ge j s.size with hjn | hjn
    · by_cases h1 : (s[j].toNat : Int) < 48
      · have hr := all_not (p := diC) hjn (decide_eq_false (by omega))
        unfold diC at hr
        have hr := Lib.hid (HX.out.trans hr)
        clear hall
        go_wp2
        go_ret
        exact ⟨rfl, retB hr.out.symm⟩
      by_cases h2 : (57 : Int) < (s[j].toNat : Int)
      · have hr := all_not (p := diC) hjn (decide_eq_false (by omega))
        unfold diC at hr
        have hr := Lib.hid (HX.out.trans hr)
        clear hall
        go_wp2
        go_ret
        exact ⟨rfl, retB hr.out.symm⟩
      · have hn := Lib.hid (next_all hall hjn (decide_eq_true (by omega)))
        clear hall
        go_wp2
        go_round
        case rel => exact ⟨j + 1, by omega, by go_num, hn.out⟩
        case measure => simp [intOf]; omega
    · have hr := all_at (s := s) (p := diC) (fun i hi => hall i (by omega) hi)
      unfold diC at hr
      have hr := Lib.hid (HX.out.trans hr)
      clear hall
      go_wp2
      go_ret
      exact ⟨rfl, retB hr.out.symm⟩
theorem remF_bd {l : List UInt8} {r : Int} (h : 0 ≤ r ∧ r ≤ 96) : 0 ≤ remF l r ∧ remF l r ≤ 96 := by
  induction l generalizing r with
  | nil => exact h
  | cons c l ih => exact ih (by omega)
end Go.Proofs.YtmeefinnefanpaaDoor
