/- Plain facts on numbers with check digits. No program in sight. Plain facts on units: names in order, the chain from a unit to its base, products that are cancelled. No program in sight. Plain: a list of bytes is cut at each of one byte; the library's split at one byte is this. Plain facts on dates: years, months and the number of a day. No program in sight. Plain facts on dates: each day has a date; weeks; months later. No program in sight. Plain laws on numbers with check digits: the completed one, and mistakes. No program in sight. Plain facts on reading days: parts of digits, weeks. No program in sight. -/
import Derived.Test.YtcfhaljkemaefaaGreatDoorA5
import Derived.Lib.Bytealg
import Derived.Lib.SplitLaws
import Derived.Lib.IndexBytes
import Derived.Lib.Hide
import Derived.Test.YtcfhaljkemaefaaGreatDoorProg
import Derived.Lib.Atoi
-- merged: K0 U1 Q0 D2 E0 K1 M0

namespace Go.Proofs.YtcfhaljkemaefaaGreatDoor.Nmb
set_option linter.unusedVariables false

/-- The byte at a place, and its digit. -/
def byA (l : List UInt8) (i : Nat) : Int := ((l.getD i 48).toNat : Int)
def dgt (l : List UInt8) (i : Nat) : Int := byA l i - 48
theorem byA_bd (l : List UInt8) (i : Nat) : 0 ≤ byA l i ∧ byA l i ≤ 255 := by
  unfold byA
  have := (l.getD i 48).toNat_lt
  omega
theorem byA_get {l : List UInt8} {i : Nat} (h : i < l.length) : byA l i = (l[i].toNat : Int) := by
  unfold byA
  rw [List.getD_eq_getElem?_getD, List.getElem?_eq_getElem h]; rfl
def sumF (f : Nat → Int) : Nat → Int
  | 0 => 0
  | k + 1 => sumF f k + f k
theorem sumF_congr {f g : Nat → Int} {n : Nat} (h : ∀ i, i < n → f i = g i) : sumF f n = sumF g n := by
  induction n with
  | zero => rfl
  | succ n ih => rw [sumF, sumF, ih (fun i hi => h i (by omega)), h n (by omega)]
/-- The weight of a place, from the right. -/
def tr (i : Nat) : Int := if i % 2 = 1 then 3 else 1
theorem tr_cases (i : Nat) : (i % 2 = 1 ∧ tr i = 3) ∨ (i % 2 = 0 ∧ tr i = 1) := by
  unfold tr; split <;> omega
def wt (l : List UInt8) (i : Nat) : Int := dgt l (l.length - 1 - i) * tr i
def sumB (l : List UInt8) : Bool := decide (sumF (wt l) l.length % 10 = 0)
/-- All bytes from a low one to a high one. -/
def inL (l : List UInt8) (a b : Int) : Bool := decide (∀ i, i < l.length → a ≤ byA l i ∧ byA l i ≤ b)
theorem inL_yes {l : List UInt8} {a b : Int} (h : inL l a b = true) {i : Nat} (hi : i < l.length) : a ≤ byA l i ∧ byA l i ≤ b := of_decide_eq_true h i hi
theorem inL_mk {l : List UInt8} {a b : Int} (h : ∀ i, i < l.length → a ≤ byA l i ∧ byA l i ≤ b) : inL l a b = true := decide_eq_true h
theorem inL_no {l : List UInt8} {a b : Int} {i : Nat} (hi : i < l.length) (h : ¬ (a ≤ byA l i ∧ byA l i ≤ b)) : inL l a b = false := decide_eq_false (fun k => h (k i hi))
def digs (l : List UInt8) : Bool := inL l 48 57 && !l.isEmpty
theorem digs_yes {l : List UInt8} (h : digs l = true) : 0 < l.length ∧ ∀ i, i < l.length → 0 ≤ dgt l i ∧ dgt l i ≤ 9 := by
  unfold digs at h
  rw [Bool.and_eq_true] at h
  refine ⟨?_, fun i hi => ?_⟩
  · cases l with
    | nil => simp at h
    | cons a b => simp
  · have := inL_yes h.1 hi
    unfold dgt
    omega
theorem digs_mk {l : List UInt8} (h0 : 0 < l.length) (h : ∀ i, i < l.length → 0 ≤ dgt l i ∧ dgt l i ≤ 9) : digs l = true := by
  unfold digs
  rw [inL_mk (fun i hi => by have := h i hi; unfold dgt at this; omega)]
  cases l with
  | nil => simp at h0
  | cons a b => rfl
/-- Capital letters and digits. -/
def tagC (c : Int) : Bool := decide ((65 ≤ c ∧ c ≤ 90) ∨ (48 ≤ c ∧ c ≤ 57))
def tagL (l : List UInt8) : Bool := l.all fun c => tagC (c.toNat : Int)
theorem tagL_at {l : List UInt8} (h : tagL l = true) {i : Nat} (hi : i < l.length) : (65 ≤ byA l i ∧ byA l i ≤ 90) ∨ (48 ≤ byA l i ∧ byA l i ≤ 57) := by
  unfold tagL at h
  rw [List.all_eq_true] at h
  have := h l[i] (List.getElem_mem hi)
  rw [byA_get hi]
  exact of_decide_eq_true this

/-! ### What a number of a bank leaves -/
def stBk (r c : Int) : Int := if 65 ≤ c then (r * 100 + (c - 65) + 10) % 97 else (r * 10 + (c - 48)) % 97
theorem stBk_bd (r c : Int) : 0 ≤ stBk r c ∧ stBk r c ≤ 96 := by unfold stBk; split <;> omega
theorem stBk_inj {r r' c : Int} (h1 : 0 ≤ r ∧ r ≤ 96) (h2 : 0 ≤ r' ∧ r' ≤ 96) (h : stBk r c = stBk r' c) : r = r' := by
  unfold stBk at h; split at h <;> omega
theorem stBk_dig {r c c' : Int} (h1 : 48 ≤ c ∧ c ≤ 57) (h2 : 48 ≤ c' ∧ c' ≤ 57) (h : stBk r c = stBk r c') : c = c' := by
  unfold stBk at h; rw [if_neg (by omega), if_neg (by omega)] at h; omega
def restF : List UInt8 → Int → Int
  | [], r => r
  | c :: l, r => restF l (stBk r (c.toNat : Int))
theorem restF_append (a b : List UInt8) (r : Int) : restF (a ++ b) r = restF b (restF a r) := by
  induction a generalizing r with
  | nil => rfl
  | cons c a ih => exact ih _
theorem restF_bd {l : List UInt8} {r : Int} (h : 0 ≤ r ∧ r ≤ 96) : 0 ≤ restF l r ∧ restF l r ≤ 96 := by
  induction l generalizing r with
  | nil => exact h
  | cons c l ih => exact ih (stBk_bd _ _)
theorem restF_inj {l : List UInt8} {r r' : Int} (h1 : 0 ≤ r ∧ r ≤ 96) (h2 : 0 ≤ r' ∧ r' ≤ 96) (h : restF l r = restF l r') : r = r' := by
  induction l generalizing r r' with
  | nil => exact h
  | cons c l ih => exact stBk_inj h1 h2 (ih (stBk_bd _ _) (stBk_bd _ _) h)
/-- The step at a place. -/
theorem restF_take {l : List UInt8} {k : Nat} (h : k < l.length) (r : Int) : restF (l.take (k + 1)) r = stBk (restF (l.take k) r) (byA l k) := by
  rw [List.take_succ_eq_append_getElem h, restF_append, byA_get h]; rfl
/-- The reference's: the values of letters as digits, then the remainder. -/
def valC (c : UInt8) : List UInt8 := if 65 ≤ (c.toNat : Int) ∧ (c.toNat : Int) ≤ 90 then [UInt8.ofNat (48 + (c.toNat - 55) / 10), UInt8.ofNat (48 + (c.toNat - 55) % 10)] else [c]
def vals (l : List UInt8) : List UInt8 := l.flatMap valC
def remF : List UInt8 → Int → Int
  | [], r => r
  | c :: l, r => remF l ((10 * r + ((c.toNat : Int) - 48)) % 97)
theorem remF_append (a b : List UInt8) (r : Int) : remF (a ++ b) r = remF b (remF a r) := by
  induction a generalizing r with
  | nil => rfl
  | cons c a ih => exact ih _
theorem remF_take {l : List UInt8} {k : Nat} (h : k < l.length) (r : Int) : remF (l.take (k + 1)) r = (10 * remF (l.take k) r + dgt l k) % 97 := by
  rw [List.take_succ_eq_append_getElem h, remF_append]
  unfold dgt
  rw [byA_get h]
  rfl
theorem ofNat_toNat {n : Nat} (h : n < 256) : ((UInt8.ofNat n).toNat : Int) = n := by
  rw [UInt8.toNat_ofNat_of_lt' (by simpa using h)]
theorem vals_rem {l : List UInt8} (h : tagL l = true) {r : Int} (hr : 0 ≤ r ∧ r ≤ 96) : remF (vals l) r = restF l r := by
  induction l generalizing r with
  | nil => rfl
  | cons c l ih =>
    unfold tagL at h
    rw [List.all_cons, Bool.and_eq_true] at h
    have hc := of_decide_eq_true h.1
    have hcn := c.toNat_lt
    show remF (valC c ++ vals l) r = restF l (stBk r (c.toNat : Int))
    rw [remF_append]
    have e : remF (valC c) r = stBk r (c.toNat : Int) := by
      unfold valC stBk
      by_cases hk : 65 ≤ (c.toNat : Int) ∧ (c.toNat : Int) ≤ 90
      · rw [if_pos hk, if_pos hk.1]
        show (10 * ((10 * r + (((UInt8.ofNat (48 + (c.toNat - 55) / 10)).toNat : Int) - 48)) % 97) + (((UInt8.ofNat (48 + (c.toNat - 55) % 10)).toNat : Int) - 48)) % 97 = _
        rw [ofNat_toNat (by omega), ofNat_toNat (by omega)]
        omega
      · rw [if_neg hk, if_neg (by omega)]
        show (10 * r + ((c.toNat : Int) - 48)) % 97 = _
        omega
    rw [e]
    exact ih h.2 (stBk_bd _ _)

/-! ### The digit of a tax number -/
def stTx (p c : Int) : Int := 2 * (if (c - 48 + p) % 10 = 0 then 10 else (c - 48 + p) % 10) % 11
theorem stTx_bd {p c : Int} (hc : 48 ≤ c) (hp : 0 ≤ p) : 1 ≤ stTx p c ∧ stTx p c ≤ 10 := by unfold stTx; split <;> omega
theorem stTx_inj {p p' c : Int} (h1 : 1 ≤ p ∧ p ≤ 10) (h2 : 1 ≤ p' ∧ p' ≤ 10) (hc : 48 ≤ c ∧ c ≤ 57) (h : stTx p c = stTx p' c) : p = p' := by
  unfold stTx at h; split at h <;> split at h <;> omega
theorem stTx_dig {p c c' : Int} (h1 : 1 ≤ p ∧ p ≤ 10) (hc : 48 ≤ c ∧ c ≤ 57) (hc' : 48 ≤ c' ∧ c' ≤ 57) (h : stTx p c = stTx p c') : c = c' := by
  unfold stTx at h; split at h <;> split at h <;> omega
def taxP (l : List UInt8) : Nat → Int
  | 0 => 10
  | k + 1 => stTx (taxP l k) (byA l k)
theorem taxP_bd {l : List UInt8} {k : Nat} (h : ∀ i, i < k → 48 ≤ byA l i) : 1 ≤ taxP l k ∧ taxP l k ≤ 10 := by
  induction k with
  | zero => show 1 ≤ (10 : Int) ∧ (10 : Int) ≤ 10; decide
  | succ k ih =>
    have a := ih (fun i hi => h i (by omega))
    exact stTx_bd (h k (by omega)) (by omega)
def taxD (l : List UInt8) : Int := 48 + (11 - taxP l 10) % 10

/-! ### Numbers -/
def lenB (kind : Int) (n : Nat) : Bool := if kind = 1 then decide (n = 8 ∨ n = 12 ∨ n = 13 ∨ n = 14) else if kind = 2 then decide (n = 13) else decide (n = 18)
def plainB (kind : Int) (l : List UInt8) : Bool := lenB kind l.length && (digs l && sumB l)
/-- The form of a number of a bank. -/
def bankForm (l : List UInt8) : Bool := decide (15 ≤ l.length ∧ l.length ≤ 34) && (inL (l.take 2) 65 90 && (inL ((l.drop 2).take 2) 48 57 && tagL (l.drop 4)))
def bankR (l : List UInt8) : Int := restF (l.drop 4 ++ l.take 4) 0
def bankC (l : List UInt8) : Int := 10 * dgt l 2 + dgt l 3
def bankB (l : List UInt8) : Bool := bankForm l && decide (bankR l = 1 ∧ 2 ≤ bankC l ∧ bankC l ≤ 98)
def taxB (l : List UInt8) : Bool := decide (l.length = 11) && (digs l && decide (byA l 0 ≠ 48 ∧ taxD l = byA l 10))
def numB (kind : Int) (l : List UInt8) : Bool := if kind = 4 then bankB l else if kind = 5 then taxB l else plainB kind l
end Go.Proofs.YtcfhaljkemaefaaGreatDoor.Nmb

namespace Go.Proofs.YtcfhaljkemaefaaGreatDoor
open Go.RowKit
set_option linter.unusedVariables false
set_option linter.unusedSimpArgs false

/-! ### Rows of bytes in order -/
theorem cb_self : ∀ a : List UInt8, Lib.compareBytes a a = 0
  | [] => rfl
  | x :: a => by
    unfold Lib.compareBytes
    rw [if_neg (UInt8.lt_irrefl x), if_neg (UInt8.lt_irrefl x)]
    exact cb_self a
theorem cb_eq : ∀ {a b : List UInt8}, Lib.compareBytes a b = 0 → a = b
  | [], [], _ => rfl
  | [], _ :: _, h => by simp [Lib.compareBytes] at h
  | _ :: _, [], h => by simp [Lib.compareBytes] at h
  | x :: a, y :: b, h => by
    unfold Lib.compareBytes at h
    split at h
    · simp at h
    · split at h
      · simp at h
      · have e : x = y := by
          rename_i h1 h2
          exact UInt8.le_antisymm (UInt8.not_lt.1 h2) (UInt8.not_lt.1 h1)
        rw [e, cb_eq h]
theorem cb_neg : ∀ {a b : List UInt8}, Lib.compareBytes a b = - Lib.compareBytes b a
  | [], [] => rfl
  | [], _ :: _ => by simp [Lib.compareBytes]
  | _ :: _, [] => by simp [Lib.compareBytes]
  | x :: a, y :: b => by
    have ih := cb_neg (a := a) (b := b)
    unfold Lib.compareBytes
    by_cases h1 : x < y
    · rw [if_pos h1, if_neg (UInt8.lt_asymm h1), if_pos h1]
    · by_cases h2 : y < x
      · rw [if_neg h1, if_pos h2, if_pos h2]; rfl
      · rw [if_neg h1, if_neg h2, if_neg h2, if_neg h1]; exact ih
theorem cb_trans : ∀ {a b c : List UInt8}, Lib.compareBytes a b < 0 → Lib.compareBytes b c < 0 → Lib.compareBytes a c < 0
  | [], [], _, h, _ => by simp [Lib.compareBytes] at h
  | [], _ :: _, [], _, h => by simp [Lib.compareBytes] at h
  | [], _ :: _, _ :: _, _, _ => by simp [Lib.compareBytes]
  | _ :: _, [], _, h, _ => by simp [Lib.compareBytes] at h
  | _ :: _, _ :: _, [], _, h => by simp [Lib.compareBytes] at h
  | x :: a, y :: b, z :: c, h1, h2 => by
    unfold Lib.compareBytes at h1 h2 ⊢
    by_cases a1 : x < y
    · by_cases b1 : y < z
      · rw [if_pos (UInt8.lt_trans a1 b1)]; decide
      · rw [if_neg b1] at h2
        by_cases b2 : z < y
        · rw [if_pos b2] at h2; simp at h2
        · have e : y = z := UInt8.le_antisymm (UInt8.not_lt.1 b2) (UInt8.not_lt.1 b1)
          rw [← e, if_pos a1]; decide
    · rw [if_neg a1] at h1
      by_cases a2 : y < x
      · rw [if_pos a2] at h1; simp at h1
      · rw [if_neg a2] at h1
        have e : x = y := UInt8.le_antisymm (UInt8.not_lt.1 a2) (UInt8.not_lt.1 a1)
        rw [e]
        by_cases b1 : y < z
        · rw [if_pos b1]; decide
        · rw [if_neg b1] at h2 ⊢
          by_cases b2 : z < y
          · rw [if_pos b2] at h2; simp at h2
          · rw [if_neg b2] at h2 ⊢
            exact cb_trans h1 h2
theorem less_cb : ∀ (a b : List UInt8), Op.bytesLess a b = decide (Lib.compareBytes a b < 0)
  | [], [] => by simp [Op.bytesLess, Lib.compareBytes]
  | [], _ :: _ => by simp [Op.bytesLess, Lib.compareBytes]
  | _ :: _, [] => by simp [Op.bytesLess, Lib.compareBytes]
  | x :: a, y :: b => by
    have ih := less_cb a b
    unfold Op.bytesLess Lib.compareBytes
    by_cases h1 : x < y
    · simp [h1]
    · by_cases h2 : y < x
      · have : x ≠ y := by intro e; rw [e] at h2; exact UInt8.lt_irrefl y h2
        simp [h1, h2, this]
      · have e : x = y := UInt8.le_antisymm (UInt8.not_lt.1 h2) (UInt8.not_lt.1 h1)
        rw [if_neg h1, if_neg h2, ih]
        simp [e]

/-! ### Units -/
structure Unt where
  name : ByteArray
  of : ByteArray
  num : Int
  den : Int
def u0 : Unt := ⟨⟨#[]⟩, ⟨#[]⟩, 0, 0⟩
def uA (us : List Unt) (j : Nat) : Unt := us.getD j u0
def nmU (us : List Unt) (j : Nat) : List UInt8 := (uA us j).name.data.toList
def ofU (us : List Unt) (j : Nat) : List UInt8 := (uA us j).of.data.toList

/-- The first fault among some. -/
def firstF (f : Nat → Int) : Nat → Int
  | 0 => 0
  | n + 1 => if firstF f n = 0 then f n else firstF f n
theorem firstF_cases (f : Nat → Int) (n : Nat) : (firstF f n = 0 ∧ ∀ i, i < n → f i = 0) ∨ ∃ m, m < n ∧ firstF f n = f m ∧ f m ≠ 0 ∧ ∀ i, i < m → f i = 0 := by
  induction n with
  | zero => exact .inl ⟨rfl, fun i h => by omega⟩
  | succ n ih =>
    unfold firstF
    rcases ih with ⟨h1, h2⟩ | ⟨m, hm, h1, h2, h3⟩
    · rw [if_pos h1]
      by_cases h : f n = 0
      · refine .inl ⟨h, fun i hi => ?_⟩
        rcases Nat.lt_or_ge i n with g | g
        · exact h2 i g
        · rw [show i = n by omega]; exact h
      · exact .inr ⟨n, by omega, rfl, h, h2⟩
    · rw [if_neg (by rw [h1]; exact h2)]
      exact .inr ⟨m, by omega, h1, h2, h3⟩

def lowB (c : UInt8) : Bool := decide (97 ≤ c.toNat ∧ c.toNat ≤ 122)
def nameC (c : UInt8) : Bool := lowB c || decide (48 ≤ c.toNat ∧ c.toNat ≤ 57) || c.toNat == 45
def nameB (l : List UInt8) : Bool := decide (1 ≤ l.length ∧ l.length ≤ 40) && lowB (l.headD 0) && l.all nameC

/-- What is wrong with a unit by itself. -/
def uFault (us : List Unt) (i : Nat) : Int :=
  if nameB (nmU us i) = false then 5
  else if 0 < i ∧ ¬ Lib.compareBytes (nmU us (i - 1)) (nmU us i) < 0 then 8
  else if ¬ (1 ≤ (uA us i).num ∧ (uA us i).num ≤ 1000000) ∨ ¬ (1 ≤ (uA us i).den ∧ (uA us i).den ≤ 1000000) then 1
  else if ofU us i = [] ∧ ((uA us i).num ≠ 1 ∨ (uA us i).den ≠ 1) then 3 else 0

def idxU (us : List Unt) (x : List UInt8) : Option Nat := us.findIdx? fun u => u.name.data.toList == x
def nxtU (us : List Unt) (i : Nat) : Option Nat := if ofU us i = [] then none else idxU us (ofU us i)

/-- The chain from a number on; none: it does not end in so many steps. -/
def chainF (nx : Nat → Option Nat) : Nat → Nat → Option (List Nat)
  | 0, i => match nx i with
    | none => some [i]
    | some _ => none
  | f + 1, i => match nx i with
    | none => some [i]
    | some j => (chainF nx f j).map (i :: ·)
def chainU (us : List Unt) (i : Nat) : Option (List Nat) := chainF (nxtU us) us.length i
def chF (us : List Unt) (i : Nat) : Int := match chainU us i with
  | none => 17
  | some c => if 5 < c.length then 2 else 0
def knownU (us : List Unt) (i : Nat) : Bool := (ofU us i).isEmpty || (idxU us (ofU us i)).isSome

/-- What is wrong with units. -/
def chkU (us : List Unt) : Int :=
  if 200 < us.length then 2
  else if firstF (uFault us) us.length ≠ 0 then firstF (uFault us) us.length
  else if firstF (fun i => if knownU us i then 0 else 9) us.length ≠ 0 then 9
  else firstF (chF us) us.length

theorem uA_get {us : List Unt} {j : Nat} (h : j < us.length) : us[j] = uA us j := by
  unfold uA; rw [List.getD_eq_getElem?_getD, List.getElem?_eq_getElem h]; rfl

/-! ### Where a name stands -/
theorem idxU_some {us : List Unt} {x : List UInt8} {i : Nat} (h : idxU us x = some i) : i < us.length ∧ nmU us i = x := by
  unfold idxU at h
  rw [List.findIdx?_eq_some_iff_getElem] at h
  obtain ⟨hi, hp, _⟩ := h
  refine ⟨hi, ?_⟩
  rw [uA_get hi] at hp
  exact beq_iff_eq.1 hp
theorem idxU_none {us : List Unt} {x : List UInt8} (h : idxU us x = none) : ∀ i, i < us.length → nmU us i ≠ x := by
  unfold idxU at h
  rw [List.findIdx?_eq_none_iff] at h
  intro i hi e
  have := h us[i] (List.getElem_mem hi)
  rw [uA_get hi] at this
  simp at this
  exact this (by unfold nmU at e; simpa using e)
/-- Names in order. -/
def SortU (us : List Unt) : Prop := ∀ i j, i < j → j < us.length → Lib.compareBytes (nmU us i) (nmU us j) < 0
theorem sortU_of {us : List Unt} (h : ∀ i, 0 < i → i < us.length → Lib.compareBytes (nmU us (i - 1)) (nmU us i) < 0) : SortU us := by
  intro i j
  induction j with
  | zero => intro h; omega
  | succ j ih =>
    intro h1 h2
    have h3 := h (j + 1) (by omega) h2
    simp only [Nat.add_sub_cancel] at h3
    rcases Nat.lt_or_ge i j with g | g
    · exact cb_trans (ih g (by omega)) h3
    · rw [show i = j by omega]; exact h3
theorem SortU.inj {us : List Unt} (h : SortU us) {i j : Nat} (hi : i < us.length) (hj : j < us.length) (e : nmU us i = nmU us j) : i = j := by
  rcases Nat.lt_trichotomy i j with g | g | g
  · have := h i j g hj; rw [e, cb_self] at this; omega
  · exact g
  · have := h j i g hi; rw [e, cb_self] at this; omega
theorem idxU_of {us : List Unt} (h : SortU us) {x : List UInt8} {i : Nat} (hi : i < us.length) (e : nmU us i = x) : idxU us x = some i := by
  cases h' : idxU us x with
  | none => exact absurd e (idxU_none h' i hi)
  | some j =>
    obtain ⟨hj, e2⟩ := idxU_some h'
    rw [h.inj hj hi (e2.trans e.symm)]

/-! ### Chains -/
def PathU (nx : Nat → Option Nat) : List Nat → Prop
  | [] => False
  | [_] => True
  | i :: j :: r => nx i = some j ∧ PathU nx (j :: r)
theorem PathU.snoc {nx : Nat → Option Nat} {i j : Nat} : ∀ {l : List Nat}, PathU nx (l ++ [i]) → nx i = some j → PathU nx (l ++ [i] ++ [j])
  | [], _, h => ⟨h, trivial⟩
  | [_], h, h2 => ⟨h.1, h2, trivial⟩
  | _ :: b :: l, h, h2 => ⟨h.1, PathU.snoc (l := b :: l) h.2 h2⟩
theorem chainF_path {nx : Nat → Option Nat} : ∀ {l : List Nat} {i e : Nat} {f : Nat}, PathU nx (l ++ [e]) → nx e = none → (l ++ [e]).head? = some i → l.length ≤ f → chainF nx f i = some (l ++ [e])
  | [], i, e, f, _, he, hi, _ => by
    simp at hi; subst hi
    cases f <;> simp [chainF, he]
  | [a], i, e, f, hp, he, hi, hf => by
    simp at hi; subst hi
    cases f with
    | zero => simp at hf
    | succ f =>
      have h1 := hp.1
      simp only [chainF, h1]
      rw [chainF_path (l := []) (e := e) trivial he rfl (Nat.zero_le _)]; rfl
  | a :: b :: l, i, e, f, hp, he, hi, hf => by
    simp at hi; subst hi
    cases f with
    | zero => simp at hf
    | succ f =>
      have h1 := hp.1
      simp only [chainF, h1]
      rw [chainF_path (l := b :: l) (e := e) (i := b) hp.2 he rfl (by simpa using hf)]; rfl
theorem chainF_loop {nx : Nat → Option Nat} {C : List Nat} (h : ∀ x ∈ C, ∃ y ∈ C, nx x = some y) : ∀ (f : Nat) (x : Nat), x ∈ C → chainF nx f x = none := by
  intro f
  induction f with
  | zero =>
    intro x hx
    obtain ⟨y, _, e⟩ := h x hx
    simp [chainF, e]
  | succ f ih =>
    intro x hx
    obtain ⟨y, hy, e⟩ := h x hx
    simp [chainF, e, ih y hy]
theorem path_next {nx : Nat → Option Nat} {e : Nat} : ∀ {l : List Nat}, PathU nx (l ++ [e]) → ∀ x ∈ l, ∃ y ∈ l ++ [e], nx x = some y
  | [], _, x, hx => by simp at hx
  | [a], h, x, hx => by
    simp at hx; subst hx
    exact ⟨e, by simp, h.1⟩
  | a :: b :: l, h, x, hx => by
    rcases List.mem_cons.1 hx with rfl | hx
    · exact ⟨b, by simp, h.1⟩
    · obtain ⟨y, hy, e2⟩ := path_next (l := b :: l) h.2 x hx
      exact ⟨y, List.mem_cons_of_mem _ hy, e2⟩
theorem chainF_back {nx : Nat → Option Nat} {l : List Nat} {e i j : Nat} {f : Nat} (h : PathU nx (l ++ [e])) (he : nx e = some j) (hj : j ∈ l ++ [e]) (hi : i ∈ l ++ [e]) : chainF nx f i = none := by
  refine chainF_loop (C := l ++ [e]) ?_ f i hi
  intro x hx
  rcases List.mem_append.1 hx with g | g
  · exact path_next h x g
  · simp at g; subst g; exact ⟨j, hj, he⟩
theorem nodup_le : ∀ (n : Nat) (l : List Nat), l.Nodup → (∀ x ∈ l, x < n) → l.length ≤ n
  | 0, l, _, h => by
    cases l with
    | nil => simp
    | cons a l => have := h a (by simp); omega
  | n + 1, l, hd, h => by
    by_cases hn : n ∈ l
    · have h1 := nodup_le n (l.erase n) (hd.erase n) (fun x hx => by
        have := hd.mem_erase_iff.1 hx
        have := h x this.2
        omega)
      rw [List.length_erase_of_mem hn] at h1
      omega
    · have := nodup_le n l hd (fun x hx => by
        have := h x hx
        have : x ≠ n := by rintro rfl; exact hn hx
        omega)
      omega
end Go.Proofs.YtcfhaljkemaefaaGreatDoor

namespace Go.Proofs.YtcfhaljkemaefaaGreatDoor
set_option linter.unusedVariables false
set_option linter.unusedSimpArgs false

def qHd (x : UInt8) : List (List UInt8) → List (List UInt8)
  | [] => [[x]]
  | p :: ps => (x :: p) :: ps
/-- The pieces of a list between bytes g. -/
def pcs (g : UInt8) : List UInt8 → List (List UInt8)
  | [] => [[]]
  | x :: l => if x = g then [] :: pcs g l else qHd x (pcs g l)
/-- The pieces put together again. -/
def jn (g : UInt8) : List (List UInt8) → List UInt8
  | [] => []
  | [p] => p
  | p :: q :: ps => p ++ g :: jn g (q :: ps)
theorem pcs_ne (g : UInt8) : ∀ l, pcs g l ≠ []
  | [] => by simp [pcs]
  | x :: l => by
    unfold pcs
    split
    · simp
    · cases pcs g l <;> simp [qHd]
theorem jn_cons {g : UInt8} {p : List UInt8} {ps : List (List UInt8)} (h : ps ≠ []) : jn g (p :: ps) = p ++ g :: jn g ps := by
  cases ps with
  | nil => exact absurd rfl h
  | cons q ps => rfl
theorem jn_hd {g x : UInt8} : ∀ {ps : List (List UInt8)}, jn g (qHd x ps) = x :: jn g ps
  | [] => rfl
  | [p] => rfl
  | p :: q :: ps => rfl
theorem jn_pcs (g : UInt8) : ∀ l, jn g (pcs g l) = l
  | [] => rfl
  | x :: l => by
    unfold pcs
    split
    next h => rw [jn_cons (pcs_ne g l), jn_pcs g l, h]; rfl
    next h => rw [jn_hd, jn_pcs g l]
theorem pcs_no (g : UInt8) : ∀ l, ∀ p ∈ pcs g l, g ∉ p
  | [], p, h => by simp [pcs] at h; subst h; simp
  | x :: l, p, h => by
    have ih := pcs_no g l
    unfold pcs at h
    split at h
    next hx =>
      rcases List.mem_cons.1 h with h | h
      · subst h; simp
      · exact ih p h
    next hx =>
      rcases hp : pcs g l with _ | ⟨q, qs⟩
      · exact absurd hp (pcs_ne g l)
      · rw [hp] at h ih
        rcases List.mem_cons.1 h with h | h
        · subst h
          have := ih q (by simp)
          simp only [List.mem_cons, not_or]
          exact ⟨fun e => hx e.symm, this⟩
        · exact ih p (by simp [h])
theorem pcs_none {g : UInt8} : ∀ {l}, g ∉ l → pcs g l = [l]
  | [], _ => rfl
  | x :: l, h => by
    have h1 : x ≠ g := fun e => h (by simp [e])
    have h2 : g ∉ l := fun e => h (by simp [e])
    unfold pcs
    rw [if_neg h1, pcs_none h2]
    rfl
theorem pcs_hit {g : UInt8} : ∀ {a b}, g ∉ a → pcs g (a ++ g :: b) = a :: pcs g b
  | [], b, _ => by show (if g = g then _ else _) = _; rw [if_pos rfl]
  | x :: a, b, h => by
    have h1 : x ≠ g := fun e => h (by simp [e])
    have h2 : g ∉ a := fun e => h (by simp [e])
    have ih := pcs_hit (b := b) h2
    rw [List.cons_append, pcs, if_neg h1, ih]
    rfl
theorem pcs_app {g : UInt8} : ∀ {a b}, g ∉ b → pcs g (a ++ g :: b) = pcs g a ++ [b]
  | [], b, h => by show (if g = g then _ else _) = _; rw [if_pos rfl, pcs_none h]; rfl
  | x :: a, b, h => by
    have ih := pcs_app (a := a) h
    rw [List.cons_append, pcs, pcs, ih]
    split
    · rfl
    · rcases hp : pcs g a with _ | ⟨q, qs⟩
      · exact absurd hp (pcs_ne g a)
      · rfl
theorem pcs_len (g : UInt8) : ∀ l, (pcs g l).length = l.count g + 1
  | [] => rfl
  | x :: l => by
    have ih := pcs_len g l
    unfold pcs
    split
    next h => subst h; rw [List.length_cons, ih, List.count_cons_self]
    next h =>
      rw [List.count_cons_of_ne h, ← ih]
      rcases hp : pcs g l with _ | ⟨q, qs⟩
      · exact absurd hp (pcs_ne g l)
      · rfl
theorem pcs_sum (g : UInt8) : ∀ l, ∀ p ∈ pcs g l, p.length ≤ l.length
  | [], p, h => by simp [pcs] at h; subst h; simp
  | x :: l, p, h => by
    have ih := pcs_sum g l
    unfold pcs at h
    split at h
    next hx =>
      rcases List.mem_cons.1 h with h | h
      · subst h; simp
      · have := ih p h; simp; omega
    next hx =>
      rcases hp : pcs g l with _ | ⟨q, qs⟩
      · exact absurd hp (pcs_ne g l)
      · rw [hp] at h ih
        rcases List.mem_cons.1 h with h | h
        · subst h
          have := ih q (by simp)
          simp; omega
        · have := ih p (by simp [h]); simp; omega
theorem idx_cases (g : UInt8) : ∀ l, (Lib.indexByte l g = -1 ∧ g ∉ l) ∨ ∃ i : Nat, Lib.indexByte l g = i ∧ i < l.length ∧ l = l.take i ++ g :: l.drop (i + 1) ∧ g ∉ l.take i
  | [] => .inl ⟨rfl, by simp⟩
  | x :: l => by
    unfold Lib.indexByte
    by_cases hx : x = g
    · subst hx
      right
      exact ⟨0, by simp, by simp, by simp, by simp⟩
    · rw [if_neg (by simpa using hx)]
      rcases idx_cases g l with ⟨h1, h2⟩ | ⟨i, h1, h2, h3, h4⟩
      · left
        rw [h1]
        exact ⟨by simp, by simp only [List.mem_cons, not_or]; exact ⟨fun e => hx e.symm, h2⟩⟩
      · right
        rw [h1]
        refine ⟨i + 1, by rw [if_neg (by simp)]; rfl, by simp only [List.length_cons]; omega, ?_, ?_⟩
        · rw [List.take_succ_cons, List.drop_succ_cons, List.cons_append, ← h3]
        · rw [List.take_succ_cons]
          simp only [List.mem_cons, not_or]
          exact ⟨fun e => hx e.symm, h4⟩
theorem splitK_pcs (g : UInt8) : ∀ (k : Nat) (l : List UInt8), l.count g = k → Lib.splitK [g] 0 k l = pcs g l
  | 0, l, h => by
    have : g ∉ l := fun e => by have := List.count_pos_iff.2 e; omega
    rw [pcs_none this]; rfl
  | k + 1, l, h => by
    have hm : g ∈ l := List.count_pos_iff.1 (by omega)
    rcases idx_cases g l with ⟨h1, h2⟩ | ⟨i, h1, h2, h3, h4⟩
    · exact absurd hm h2
    · unfold Lib.splitK
      rw [Lib.index_one, h1, if_neg (by simp), Int.toNat_natCast, Nat.add_zero, List.length_singleton]
      have hc : (l.drop (i + 1)).count g = k := by
        have h5 := congrArg (List.count g) h3
        rw [List.count_append, List.count_cons_self, List.count_eq_zero.2 h4] at h5
        omega
      rw [splitK_pcs g k _ hc]
      conv => rhs; rw [h3]
      rw [pcs_hit h4]
/-- The library's cut at one byte, in lists. -/
theorem split_pcs (s sep : ByteArray) (g : UInt8) (h : sep.data.toList = [g]) : (Lib.splitB sep 0 (Lib.countB s sep) s).map (fun x => x.data.toList) = pcs g s.data.toList := by
  have e : Lib.countB s sep = s.data.toList.count g := by unfold Lib.countB; rw [h, Lib.count_one]
  rw [Lib.splitB_data, h, e]
  exact splitK_pcs g _ _ rfl
end Go.Proofs.YtcfhaljkemaefaaGreatDoor

namespace Go.Proofs.YtcfhaljkemaefaaGreatDoor.Work

def leapB (y : Int) : Bool := decide (y % 4 = 0 ∧ (y % 100 ≠ 0 ∨ y % 400 = 0))
theorem leapB_yes {y : Int} (h : leapB y = true) : y % 4 = 0 ∧ (y % 100 ≠ 0 ∨ y % 400 = 0) := by simpa [leapB] using h
theorem leapB_no {y : Int} (h : leapB y = false) : ¬ (y % 4 = 0 ∧ (y % 100 ≠ 0 ∨ y % 400 = 0)) := of_decide_eq_false h
/-- The days of a month. -/
def dim (y m : Int) : Int := if m = 2 then (if leapB y = true then 29 else 28) else if m = 4 ∨ m = 6 ∨ m = 9 ∨ m = 11 then 30 else 31
theorem dim_bd (y m : Int) : 28 ≤ dim y m ∧ dim y m ≤ 31 := by unfold dim; split <;> split <;> omega
/-- The days before a year. -/
def bef (y : Int) : Int := 365 * (y - 1) + (y - 1) / 4 - (y - 1) / 100 + (y - 1) / 400
/-- The days of the first months of a year. -/
def cum (y : Int) : Nat → Int
  | 0 => 0
  | k + 1 => cum y k + dim y ((k : Int) + 1)
theorem cum_12 (y : Int) : cum y 12 = 365 + if leapB y = true then 1 else 0 := by
  simp only [cum, dim]
  simp
  split <;> omega
theorem bef_succ (y : Int) : bef (y + 1) = bef y + cum y 12 := by
  rw [cum_12]
  unfold bef
  by_cases h : leapB y = true
  · rw [if_pos h]
    have := leapB_yes h
    omega
  · rw [if_neg h]
    have := leapB_no (by simpa using h)
    omega
theorem cum_12_bd (y : Int) : 365 ≤ cum y 12 ∧ cum y 12 ≤ 366 := by rw [cum_12]; split <;> omega
theorem cum_lt (y : Int) {i j : Nat} (h : i < j) : cum y i + 28 ≤ cum y j := by
  obtain ⟨k, rfl⟩ : ∃ k, j = i + k + 1 := ⟨j - i - 1, by omega⟩
  clear h
  induction k with
  | zero => rw [Nat.add_zero, cum]; have := dim_bd y ((i : Int) + 1); omega
  | succ k ih =>
    rw [show i + (k + 1) + 1 = i + k + 1 + 1 by omega, cum]
    have := dim_bd y (((i + k + 1 : Nat) : Int) + 1)
    omega
theorem cum_le (y : Int) {i j : Nat} (h : i ≤ j) : cum y i ≤ cum y j := by
  rcases Nat.eq_or_lt_of_le h with e | e
  · rw [e]; exact Int.le_refl _
  · have := cum_lt y e; omega
theorem bef_mono {a b : Int} (h : a ≤ b) : bef a ≤ bef b := by unfold bef; omega
theorem bef_guess {day : Int} (h : 1 ≤ day) : bef (day / 366 + 1) < day := by unfold bef; omega
theorem bef_guess_le {day : Int} (h : 1 ≤ day) (h2 : day ≤ 3652059) : 1 ≤ day / 366 + 1 ∧ day / 366 + 1 ≤ 9999 := by omega
theorem bef_end : bef 10000 = 3652059 := by decide
theorem bef_bd {y : Int} (h : 1 ≤ y) (h2 : y ≤ 10000) : 0 ≤ bef y ∧ bef y ≤ 3652059 := by unfold bef; omega

/-- The number of a date. -/
def num (y m d : Int) : Int := bef y + cum y (m - 1).toNat + d
/-- There is such a date. -/
def dateB (y m d : Int) : Bool := decide ((1 ≤ y ∧ y ≤ 9999) ∧ (1 ≤ m ∧ m ≤ 12) ∧ (1 ≤ d ∧ d ≤ dim y m))
theorem dateB_yes {y m d : Int} (h : dateB y m d = true) : (1 ≤ y ∧ y ≤ 9999) ∧ (1 ≤ m ∧ m ≤ 12) ∧ (1 ≤ d ∧ d ≤ dim y m) := of_decide_eq_true h
theorem dateB_no {y m d : Int} (h : dateB y m d = false) : ¬ ((1 ≤ y ∧ y ≤ 9999) ∧ (1 ≤ m ∧ m ≤ 12) ∧ (1 ≤ d ∧ d ≤ dim y m)) := of_decide_eq_false h
theorem dateB_mk {y m d : Int} (h : (1 ≤ y ∧ y ≤ 9999) ∧ (1 ≤ m ∧ m ≤ 12) ∧ (1 ≤ d ∧ d ≤ dim y m)) : dateB y m d = true := decide_eq_true h
theorem dateB_not {y m d : Int} (h : ¬ ((1 ≤ y ∧ y ≤ 9999) ∧ (1 ≤ m ∧ m ≤ 12) ∧ (1 ≤ d ∧ d ≤ dim y m))) : dateB y m d = false := decide_eq_false h

theorem num_year {y m d : Int} (h : dateB y m d = true) : bef y < num y m d ∧ num y m d ≤ bef (y + 1) := by
  obtain ⟨h1, h2, h3⟩ := dateB_yes h
  obtain ⟨k, rfl⟩ : ∃ k : Nat, m = (k : Int) + 1 := ⟨(m - 1).toNat, by omega⟩
  have e : ((k : Int) + 1 - 1).toNat = k := by omega
  unfold num
  rw [e, bef_succ]
  have a := cum_le y (i := 0) (j := k) (by omega)
  have b := cum_le y (i := k + 1) (j := 12) (by omega)
  rw [cum] at a
  rw [cum] at b
  omega
theorem num_day {y m d : Int} (h : dateB y m d = true) : 1 ≤ num y m d ∧ num y m d ≤ 3652059 := by
  have h1 := num_year h
  have h2 := dateB_yes h
  have a := bef_bd (y := y) (by omega) (by omega)
  have b := bef_bd (y := y + 1) (by omega) (by omega)
  omega
/-- The date of a day. -/
def DateIs (day y m d : Int) : Prop := dateB y m d = true ∧ num y m d = day
theorem year_unique {a b day : Int} (h1 : bef a < day) (h2 : day ≤ bef (a + 1)) (h3 : bef b < day) (h4 : day ≤ bef (b + 1)) : a = b := by
  rcases Int.lt_trichotomy a b with h | h | h
  · have := bef_mono (a := a + 1) (b := b) (by omega); omega
  · exact h
  · have := bef_mono (a := b + 1) (b := a) (by omega); omega
theorem DateIs.unique {day y m d y' m' d' : Int} (h : DateIs day y m d) (h' : DateIs day y' m' d') : y = y' ∧ m = m' ∧ d = d' := by
  obtain ⟨h1, h2⟩ := h
  obtain ⟨h3, h4⟩ := h'
  have a := num_year h1
  have b := num_year h3
  rw [h2] at a
  rw [h4] at b
  obtain rfl := year_unique a.1 a.2 b.1 b.2
  obtain ⟨_, p2, p3⟩ := dateB_yes h1
  obtain ⟨_, q2, q3⟩ := dateB_yes h3
  obtain ⟨k, rfl⟩ : ∃ k : Nat, m = (k : Int) + 1 := ⟨(m - 1).toNat, by omega⟩
  obtain ⟨j, rfl⟩ : ∃ k : Nat, m' = (k : Int) + 1 := ⟨(m' - 1).toNat, by omega⟩
  have e1 : ((k : Int) + 1 - 1).toNat = k := by omega
  have e2 : ((j : Int) + 1 - 1).toNat = j := by omega
  unfold num at h2 h4
  rw [e1] at h2
  rw [e2] at h4
  have hk : k = j := by
    rcases Nat.lt_trichotomy k j with h | h | h
    · have := cum_le y (i := k + 1) (j := j) (by omega)
      rw [cum] at this
      omega
    · exact h
    · have := cum_le y (i := j + 1) (j := k) (by omega)
      rw [cum] at this
      omega
  subst hk
  refine ⟨rfl, rfl, ?_⟩
  omega

end Go.Proofs.YtcfhaljkemaefaaGreatDoor.Work

namespace Go.Proofs.YtcfhaljkemaefaaGreatDoor.Work

theorem year_ex {day : Int} (h2 : day ≤ 3652059) : ∀ (n : Nat) (y : Int), y + n = 9999 → bef y < day → ∃ z, y ≤ z ∧ z ≤ 9999 ∧ bef z < day ∧ day ≤ bef (z + 1)
  | 0, y, hn, hb => ⟨y, by omega, by omega, hb, by rw [show y + 1 = 10000 by omega, bef_end]; exact h2⟩
  | n + 1, y, hn, hb => by
    by_cases h : day ≤ bef (y + 1)
    · exact ⟨y, by omega, by omega, hb, h⟩
    · obtain ⟨z, h3, h4, h5, h6⟩ := year_ex h2 n (y + 1) (by omega) (by omega)
      exact ⟨z, by omega, h4, h5, h6⟩
theorem month_ex {y r : Int} (hr : r ≤ cum y 12) : ∀ (n k : Nat), k + n = 11 → cum y k < r → ∃ j : Nat, k ≤ j ∧ j ≤ 11 ∧ cum y j < r ∧ r ≤ cum y (j + 1)
  | 0, k, hn, hb => ⟨k, by omega, by omega, hb, by rw [show k + 1 = 12 by omega]; exact hr⟩
  | n + 1, k, hn, hb => by
    by_cases h : r ≤ cum y (k + 1)
    · exact ⟨k, by omega, by omega, hb, h⟩
    · obtain ⟨z, h3, h4, h5, h6⟩ := month_ex hr n (k + 1) (by omega) (by omega)
      exact ⟨z, by omega, h4, h5, h6⟩
theorem date_ex {day : Int} (h : 1 ≤ day) (h2 : day ≤ 3652059) : ∃ y m d, DateIs day y m d := by
  obtain ⟨y, y1, y2, y3, y4⟩ := year_ex h2 9998 1 (by omega) (by have : bef 1 = 0 := by decide
                                                                 omega)
  rw [bef_succ] at y4
  obtain ⟨k, -, k2, k3, k4⟩ := month_ex (y := y) (r := day - bef y) (by omega) 11 0 (by omega) (by rw [cum]; omega)
  rw [cum] at k4
  refine ⟨y, (k : Int) + 1, day - bef y - cum y k, dateB_mk ⟨by omega, by omega, by omega, by omega⟩, ?_⟩
  unfold num
  rw [show ((k : Int) + 1 - 1).toNat = k by omega]
  omega
/-- What is known of the date of a day. -/
theorem DateIs.facts {day y m d : Int} (h : DateIs day y m d) : (1 ≤ y ∧ y ≤ 9999) ∧ (1 ≤ m ∧ m ≤ 12) ∧ (1 ≤ d ∧ d ≤ 31) ∧ d ≤ dim y m ∧ bef y < day ∧ day ≤ bef (y + 1) := by
  obtain ⟨h1, h2⟩ := h
  have a := num_year h1
  have b := dateB_yes h1
  have c := dim_bd y m
  rw [h2] at a
  exact ⟨b.1, b.2.1, by omega, by omega, a.1, a.2⟩

/-- The Thursday of the week of a day. -/
def thu (day : Int) : Int := day - (day - 1) % 7 + 3
theorem thu_bd {day : Int} (h : 1 ≤ day) (h2 : day ≤ 3652059) : 1 ≤ thu day ∧ thu day ≤ 3652059 := by unfold thu; omega
theorem thu_ex {day : Int} (h : 1 ≤ day) (h2 : day ≤ 3652059) : ∃ y m d, DateIs (thu day) y m d := by
  have := thu_bd h h2
  exact date_ex this.1 this.2
/-- The number of the week of a day whose Thursday is in a year. -/
def wk (day y : Int) : Int := (thu day - bef y - 1) / 7 + 1
theorem wk_bd {day y : Int} (h : bef y < thu day) (h2 : thu day ≤ bef (y + 1)) : 1 ≤ wk day y ∧ wk day y ≤ 53 := by
  have a := bef_succ y
  have b := cum_12_bd y
  unfold wk
  omega

/-- The months since the year 0, so many months later. -/
def monN (y m k : Int) : Int := 12 * y + m - 1 + k
def monF (y m d k : Int) : Int × Int :=
  if monN y m k < 12 ∨ 9999 < monN y m k / 12 then (0, 1)
  else (num (monN y m k / 12) (monN y m k % 12 + 1) (min d (dim (monN y m k / 12) (monN y m k % 12 + 1))), 0)
def laterF (day k y m d : Int) : Int × Int := if ¬ (1 ≤ day ∧ day ≤ 3652059) ∨ ¬ (-120000 ≤ k ∧ k ≤ 120000) then (0, 1) else monF y m d k

end Go.Proofs.YtcfhaljkemaefaaGreatDoor.Work

namespace Go.Proofs.YtcfhaljkemaefaaGreatDoor.Nmb
set_option linter.unusedVariables false

theorem byA_left {a b : List UInt8} {i : Nat} (h : i < a.length) : byA (a ++ b) i = byA a i := by
  unfold byA
  rw [List.getD_eq_getElem?_getD, List.getD_eq_getElem?_getD, List.getElem?_append_left h]
theorem byA_right {a b : List UInt8} {i : Nat} (h : a.length ≤ i) : byA (a ++ b) i = byA b (i - a.length) := by
  unfold byA
  rw [List.getD_eq_getElem?_getD, List.getD_eq_getElem?_getD, List.getElem?_append_right h]
theorem byA_take {a : List UInt8} {i n : Nat} (h : i < n) : byA (a.take n) i = byA a i := by
  unfold byA
  rw [List.getD_eq_getElem?_getD, List.getD_eq_getElem?_getD, List.getElem?_take, if_pos h]
theorem byA_drop {a : List UInt8} {i n : Nat} : byA (a.drop n) i = byA a (n + i) := by
  unfold byA
  rw [List.getD_eq_getElem?_getD, List.getD_eq_getElem?_getD, List.getElem?_drop]
/-- A digit's byte. -/
def dB (d : Nat) : UInt8 := UInt8.ofNat (48 + d)
theorem dB_nat {d : Nat} (h : d ≤ 9) : ((dB d).toNat : Int) = 48 + d := by
  unfold dB
  rw [ofNat_toNat (by omega)]
  omega

/-! ### The completed number -/
def compT (kind : Int) (l : List UInt8) : Nat → Nat → Option (List UInt8)
  | 0, _ => none
  | k + 1, d => if numB kind (l ++ [dB d]) = true then some (l ++ [dB d]) else compT kind l k (d + 1)
theorem compT_hit {kind : Int} {l : List UInt8} : ∀ (k d j : Nat), d ≤ j → j < d + k → numB kind (l ++ [dB j]) = true → (∀ i, d ≤ i → i < j → numB kind (l ++ [dB i]) = false) → compT kind l k d = some (l ++ [dB j])
  | 0, d, j, h1, h2, _, _ => by omega
  | k + 1, d, j, h1, h2, h3, h4 => by
    rw [compT]
    by_cases e : d = j
    · subst e; rw [if_pos h3]
    · rw [if_neg (by rw [h4 d (by omega) (by omega)]; simp)]
      exact compT_hit k (d + 1) j (by omega) (by omega) h3 (fun i a b => h4 i (by omega) b)
theorem compT_none {kind : Int} {l : List UInt8} : ∀ (k d : Nat), (∀ i, d ≤ i → i < d + k → numB kind (l ++ [dB i]) = false) → compT kind l k d = none
  | 0, d, _ => rfl
  | k + 1, d, h => by
    rw [compT, if_neg (by rw [h d (by omega) (by omega)]; simp)]
    exact compT_none k (d + 1) (fun i a b => h i (by omega) (by omega))
/-- The number of a bank with a body and a check. -/
def bankN (l : List UInt8) (n : Nat) : List UInt8 := l.take 2 ++ ([dB (n / 10), dB (n % 10)] ++ l.drop 2)
def chkN (l : List UInt8) : Nat := (98 - bankR (bankN l 0)).toNat
def compF (kind : Int) (l : List UInt8) : Option (List UInt8) :=
  if kind = 4 then (if 2 ≤ l.length ∧ bankB (bankN l (chkN l)) = true then some (bankN l (chkN l)) else none) else compT kind l 10 0

theorem comp_hit {kind : Int} {l : List UInt8} {n : Nat} (hk : kind ≠ 4) (h : numB kind (l ++ [dB (n % 10)]) = true) (h2 : ∀ m, m < n → numB kind (l ++ [dB (m % 10)]) = false) : compF kind l = some (l ++ [dB (n % 10)]) := by
  have hn : n < 10 := by
    rcases Nat.lt_or_ge n 10 with e | e
    · exact e
    · have := h2 (n % 10) (by omega)
      rw [Nat.mod_mod] at this
      rw [this] at h; cases h
  unfold compF
  rw [if_neg hk]
  rw [Nat.mod_eq_of_lt hn] at h ⊢
  refine compT_hit 10 0 n (by omega) (by omega) h (fun i a b => ?_)
  have := h2 i b
  rw [Nat.mod_eq_of_lt (by omega)] at this
  exact this
theorem comp_none {kind : Int} {l : List UInt8} (hk : kind ≠ 4) (h2 : ∀ m, m < 10 → numB kind (l ++ [dB (m % 10)]) = false) : compF kind l = none := by
  unfold compF
  rw [if_neg hk]
  refine compT_none 10 0 (fun i a b => ?_)
  have := h2 i (by omega)
  rw [Nat.mod_eq_of_lt (by omega)] at this
  exact this

theorem bankN_len {l : List UInt8} (n : Nat) (h : 2 ≤ l.length) : (bankN l n).length = l.length + 2 := by
  unfold bankN; simp; omega
theorem bankN_take2 {l : List UInt8} (n : Nat) (h : 2 ≤ l.length) : (bankN l n).take 2 = l.take 2 := by
  unfold bankN
  rw [List.take_append_of_le_length (by simp; omega), List.take_of_length_le (by simp; omega)]
theorem bankN_drop2 {l : List UInt8} (n : Nat) (h : 2 ≤ l.length) : (bankN l n).drop 2 = [dB (n / 10), dB (n % 10)] ++ l.drop 2 := by
  unfold bankN
  have e : (l.take 2).length = 2 := by simp; omega
  have := List.drop_left (l₁ := l.take 2) (l₂ := [dB (n / 10), dB (n % 10)] ++ l.drop 2)
  rw [e] at this
  exact this
theorem bankN_mid {l : List UInt8} (n : Nat) (h : 2 ≤ l.length) : ((bankN l n).drop 2).take 2 = [dB (n / 10), dB (n % 10)] := by
  rw [bankN_drop2 n h]; rfl
theorem bankN_drop4 {l : List UInt8} (n : Nat) (h : 2 ≤ l.length) : (bankN l n).drop 4 = l.drop 2 := by
  have : (bankN l n).drop 4 = ((bankN l n).drop 2).drop 2 := by rw [List.drop_drop]
  rw [this, bankN_drop2 n h]; rfl
theorem bankN_take4 {l : List UInt8} (n : Nat) (h : 2 ≤ l.length) : (bankN l n).take 4 = l.take 2 ++ [dB (n / 10), dB (n % 10)] := by
  have : (bankN l n).take (2 + 2) = (bankN l n).take 2 ++ ((bankN l n).drop 2).take 2 := List.take_add
  rw [show (4 : Nat) = 2 + 2 from rfl, this, bankN_take2 n h, bankN_mid n h]
theorem bankN_rest {l : List UInt8} {n : Nat} (h : 2 ≤ l.length) (hn : n ≤ 99) : bankR (bankN l n) = (100 * restF (l.drop 2 ++ l.take 2) 0 + n) % 97 := by
  unfold bankR
  rw [bankN_drop4 n h, bankN_take4 n h, ← List.append_assoc, restF_append]
  have hb := restF_bd (l := l.drop 2 ++ l.take 2) (r := 0) ⟨by decide, by decide⟩
  show stBk (stBk _ ((dB (n / 10)).toNat : Int)) ((dB (n % 10)).toNat : Int) = _
  rw [dB_nat (by omega), dB_nat (by omega)]
  unfold stBk
  rw [if_neg (by omega), if_neg (by omega)]
  omega
theorem bankN_chk {l : List UInt8} {n : Nat} (h : 2 ≤ l.length) (hn : n ≤ 99) : bankC (bankN l n) = n := by
  have hl : (l.take 2).length = 2 := by simp; omega
  unfold bankC dgt bankN
  rw [byA_right (i := 2) (by omega), byA_right (i := 3) (by omega), hl]
  show 10 * (((dB (n / 10)).toNat : Int) - 48) + (((dB (n % 10)).toNat : Int) - 48) = n
  rw [dB_nat (by omega), dB_nat (by omega)]
  omega
theorem chkN_bd {l : List UInt8} (h : 2 ≤ l.length) : 2 ≤ chkN l ∧ chkN l ≤ 98 := by
  unfold chkN
  rw [bankN_rest h (by omega)]
  omega
theorem chkN_rest {l : List UInt8} (h : 2 ≤ l.length) : bankR (bankN l (chkN l)) = 1 := by
  have hb := chkN_bd h
  rw [bankN_rest h (by omega)]
  unfold chkN at hb ⊢
  rw [bankN_rest h (by omega)] at hb ⊢
  omega
theorem bank_uniq {l : List UInt8} {n : Nat} (h : 2 ≤ l.length) (hn : n ≤ 99) (hb : bankB (bankN l n) = true) : n = chkN l := by
  unfold bankB at hb
  rw [Bool.and_eq_true] at hb
  obtain ⟨b1, b2, b3⟩ := of_decide_eq_true hb.2
  rw [bankN_chk h hn] at b2 b3
  rw [bankN_rest h hn] at b1
  unfold chkN
  rw [bankN_rest h (by omega)]
  omega
/-- The form does not tell the check. -/
theorem bank_form {l : List UInt8} (n m : Nat) (h : 2 ≤ l.length) (hn : n ≤ 99) (hm : m ≤ 99) : bankForm (bankN l n) = bankForm (bankN l m) := by
  unfold bankForm
  have hd : ∀ k, k ≤ 99 → inL [dB (k / 10), dB (k % 10)] 48 57 = true := by
    intro k hk
    refine inL_mk (fun i hi => ?_)
    have : i = 0 ∨ i = 1 := by simp at hi; omega
    rcases this with rfl | rfl
    · show 48 ≤ ((dB (k / 10)).toNat : Int) ∧ ((dB (k / 10)).toNat : Int) ≤ 57
      rw [dB_nat (by omega)]; omega
    · show 48 ≤ ((dB (k % 10)).toNat : Int) ∧ ((dB (k % 10)).toNat : Int) ≤ 57
      rw [dB_nat (by omega)]; omega
  rw [bankN_len n h, bankN_len m h, bankN_take2 n h, bankN_take2 m h, bankN_mid n h, bankN_mid m h, bankN_drop4 n h, bankN_drop4 m h, hd n hn, hd m hm]
theorem bank_yes {l : List UInt8} (h : 2 ≤ l.length) : bankB (bankN l (chkN l)) = bankForm (bankN l (chkN l)) := by
  unfold bankB
  have := chkN_bd h
  rw [chkN_rest h, bankN_chk h (by omega), decide_eq_true (by omega), Bool.and_true]
theorem tag_letters {l : List UInt8} (h : inL l 65 90 = true) : tagL l = true := by
  unfold tagL
  rw [List.all_eq_true]
  intro c hc
  obtain ⟨i, hi, rfl⟩ := List.getElem_of_mem hc
  have := inL_yes h hi
  rw [byA_get hi] at this
  exact decide_eq_true (Or.inl this)
/-- A body that has other bytes is of no number. -/
theorem bank_tag {l : List UInt8} (n : Nat) (h : 2 ≤ l.length) (hb : bankForm (bankN l n) = true) : tagL l = true ∧ 13 ≤ l.length ∧ l.length ≤ 32 := by
  unfold bankForm at hb
  rw [bankN_len n h, bankN_take2 n h, bankN_mid n h, bankN_drop4 n h] at hb
  simp only [Bool.and_eq_true] at hb
  obtain ⟨h1, h2, h3, h4⟩ := hb
  have := of_decide_eq_true h1
  refine ⟨?_, by omega, by omega⟩
  have a := tag_letters h2
  unfold tagL at a h4 ⊢
  rw [← List.take_append_drop 2 l, List.all_append, a, h4]
  rfl
theorem comp4_hit {l : List UInt8} {n : Nat} (h : 2 ≤ l.length) (hn : n ≤ 99) (hb : bankB (bankN l n) = true) : compF 4 l = some (bankN l n) := by
  have e := bank_uniq h hn hb
  unfold compF
  rw [if_pos rfl, ← e, if_pos ⟨h, hb⟩]
theorem comp4_none {l : List UInt8} (h : ∀ n, n < 100 → bankB (bankN l n) = false) : compF 4 l = none := by
  unfold compF
  rw [if_pos rfl, if_neg]
  rintro ⟨h1, h2⟩
  have := chkN_bd h1
  rw [h (chkN l) (by omega)] at h2; cases h2
theorem comp4_short {l : List UInt8} (h : l.length < 2) : compF 4 l = none := by
  unfold compF; rw [if_pos rfl, if_neg (by omega)]
theorem comp4_tag {l : List UInt8} (h : tagL l = false ∨ l.length < 13) : compF 4 l = none := by
  unfold compF
  rw [if_pos rfl, if_neg]
  rintro ⟨h1, h2⟩
  rw [bank_yes h1] at h2
  have := bank_tag _ h1 h2
  rcases h with h | h
  · rw [h] at this; cases this.1
  · omega
theorem comp_long {kind : Int} {l : List UInt8} (h : 34 < l.length) : compF kind l = none := by
  by_cases h4 : kind = 4
  · subst h4
    refine comp4_none (fun n hn => ?_)
    unfold bankB bankForm
    rw [bankN_len n (by omega), decide_eq_false (p := 15 ≤ l.length + 2 ∧ l.length + 2 ≤ 34) (by omega)]
    rfl
  · refine comp_none h4 (fun m hm => ?_)
    unfold numB
    rw [if_neg h4]
    split
    · unfold taxB
      rw [decide_eq_false (by simp; omega)]
      rfl
    · unfold plainB lenB
      rw [show (l ++ [dB (m % 10)]).length = l.length + 1 by simp]
      repeat' split
      all_goals (rw [decide_eq_false (by omega)]; rfl)
/-- A completed number is right. -/
theorem comp_right {kind : Int} {l s : List UInt8} (h : compF kind l = some s) : numB kind s = true := by
  unfold compF at h
  split at h
  · rename_i h4
    subst h4
    split at h
    · rename_i hb
      injection h with h
      rw [← h]
      show bankB _ = true
      exact hb.2
    · cases h
  · have key : ∀ (k d : Nat), compT kind l k d = some s → numB kind s = true := by
      intro k
      induction k with
      | zero => intro d hd; cases hd
      | succ k ih =>
        intro d hd
        rw [compT] at hd
        split at hd
        · rename_i hb
          injection hd with hd
          rw [← hd]; exact hb
        · exact ih _ hd
    exact key _ _ h

/-! ### Mistakes -/
/-- A number with another byte at a place. -/
theorem wt_other {l l' : List UInt8} {j : Nat} (hl : l'.length = l.length) (he : ∀ i, i ≠ j → byA l' i = byA l i) {i : Nat} (hi : i ≠ l.length - 1 - j) (hj : j < l.length) (hin : i < l.length) : wt l' i = wt l i := by
  unfold wt dgt
  rw [hl, he _ (by omega)]
theorem sumF_one {f g : Nat → Int} {n k : Nat} (hk : k < n) (h : ∀ i, i ≠ k → i < n → g i = f i) : sumF g n = sumF f n + (g k - f k) := by
  induction n with
  | zero => omega
  | succ n ih =>
    rw [sumF, sumF]
    by_cases e : k = n
    · subst e
      rw [sumF_congr (f := g) (g := f) (n := k) (fun i hi => h i (by omega) (by omega))]
      omega
    · rw [ih (by omega) (fun i a b => h i a (by omega)), h n (fun e' => e e'.symm) (by omega)]
      omega
theorem sum_digit {l l' : List UInt8} {j : Nat} (hj : j < l.length) (hl : l'.length = l.length) (he : ∀ i, i ≠ j → byA l' i = byA l i) (hd : 0 ≤ dgt l j ∧ dgt l j ≤ 9) (hd' : 0 ≤ dgt l' j ∧ dgt l' j ≤ 9) (hne : dgt l' j ≠ dgt l j) (hs : sumB l = true) : sumB l' = false := by
  have h1 : sumF (wt l) l.length % 10 = 0 := of_decide_eq_true hs
  have h2 := sumF_one (f := wt l) (g := wt l') (n := l.length) (k := l.length - 1 - j) (by omega) (fun i a b => wt_other hl he a hj b)
  refine decide_eq_false ?_
  rw [hl, h2]
  have e : l.length - 1 - (l.length - 1 - j) = j := by omega
  unfold wt
  rw [hl, e]
  rcases tr_cases (l.length - 1 - j) with ⟨_, ht⟩ | ⟨_, ht⟩ <;> rw [ht] <;> unfold wt at h1 <;> omega
theorem inL_other {l l' : List UInt8} {j : Nat} {a b : Int} (hl : l'.length = l.length) (he : ∀ i, i ≠ j → byA l' i = byA l i) (hd : a ≤ byA l' j ∧ byA l' j ≤ b) (h : inL l a b = true) : inL l' a b = true := by
  refine inL_mk (fun i hi => ?_)
  by_cases e : i = j
  · rw [e]; exact hd
  · rw [he i e]; exact inL_yes h (by omega)
theorem plain_digit {kind : Int} {l l' : List UInt8} {j : Nat} (hj : j < l.length) (hl : l'.length = l.length) (he : ∀ i, i ≠ j → byA l' i = byA l i) (hd' : 0 ≤ dgt l' j ∧ dgt l' j ≤ 9) (hne : dgt l' j ≠ dgt l j) (hs : plainB kind l = true) : plainB kind l' = false := by
  unfold plainB at hs ⊢
  simp only [Bool.and_eq_true] at hs
  rw [sum_digit hj hl he ((digs_yes hs.2.1).2 j hj) hd' hne hs.2.2]
  simp

/-- The row of digits that is divided. -/
theorem list_ext {a b : List UInt8} (hl : a.length = b.length) (h : ∀ i, i < a.length → byA a i = byA b i) : a = b := by
  refine List.ext_getElem hl (fun i h1 h2 => ?_)
  have := h i h1
  rw [byA_get h1, byA_get h2] at this
  exact UInt8.toNat_inj.1 (by omega)
theorem split_at {l : List UInt8} {j : Nat} (hj : j < l.length) : l = l.take j ++ (l[j] :: l.drop (j + 1)) := by
  rw [List.getElem_cons_drop, List.take_append_drop]
theorem other_parts {l l' : List UInt8} {j : Nat} (hj : j < l.length) (hl : l'.length = l.length) (he : ∀ i, i ≠ j → byA l' i = byA l i) : l'.take j = l.take j ∧ l'.drop (j + 1) = l.drop (j + 1) := by
  constructor
  · refine list_ext (by simp [hl]) (fun i hi => ?_)
    simp at hi
    rw [byA_take (by omega), byA_take (by omega), he i (by omega)]
  · refine list_ext (by simp [hl]) (fun i hi => ?_)
    rw [byA_drop, byA_drop, he _ (by omega)]
theorem rest_digit {l l' : List UInt8} {j : Nat} (hj : j < l.length) (hl : l'.length = l.length) (he : ∀ i, i ≠ j → byA l' i = byA l i) (hd : 0 ≤ dgt l j ∧ dgt l j ≤ 9) (hd' : 0 ≤ dgt l' j ∧ dgt l' j ≤ 9) (hne : dgt l' j ≠ dgt l j) : restF l' 0 ≠ restF l 0 := by
  obtain ⟨h1, h2⟩ := other_parts hj hl he
  have hj' : j < l'.length := by omega
  rw [split_at hj, split_at hj', h1, h2, restF_append, restF_append]
  intro e
  have hb := restF_bd (l := l.take j) (r := 0) ⟨by decide, by decide⟩
  have := restF_inj (stBk_bd _ _) (stBk_bd _ _) (show restF (l.drop (j + 1)) (stBk (restF (l.take j) 0) (l'[j].toNat : Int)) = restF (l.drop (j + 1)) (stBk (restF (l.take j) 0) (l[j].toNat : Int)) from e)
  rw [← byA_get hj, ← byA_get hj'] at this
  unfold dgt at hd hd' hne
  have := stBk_dig (by omega) (by omega) this
  omega
/-- The rotated number has the byte at another place. -/
theorem rot_at {l : List UInt8} (h : 4 ≤ l.length) {i : Nat} (hi : i < l.length) : byA (l.drop 4 ++ l.take 4) i = byA l (if i < l.length - 4 then i + 4 else i - (l.length - 4)) := by
  by_cases h1 : i < l.length - 4
  · rw [if_pos h1, byA_left (by simp; omega), byA_drop, Nat.add_comm]
  · rw [if_neg h1, byA_right (by simp; omega), byA_take (by simp; omega)]
    simp
theorem bank_digit {l l' : List UInt8} {j : Nat} (h4 : 4 ≤ l.length) (hj : j < l.length) (hl : l'.length = l.length) (he : ∀ i, i ≠ j → byA l' i = byA l i) (hd : 0 ≤ dgt l j ∧ dgt l j ≤ 9) (hd' : 0 ≤ dgt l' j ∧ dgt l' j ≤ 9) (hne : dgt l' j ≠ dgt l j) : bankR l' ≠ bankR l := by
  have hlen : (l.drop 4 ++ l.take 4).length = l.length := by simp; omega
  have hlen' : (l'.drop 4 ++ l'.take 4).length = l'.length := by simp; omega
  have hJ : ∃ J, J < l.length ∧ (if J < l.length - 4 then J + 4 else J - (l.length - 4)) = j := by
    by_cases h : 4 ≤ j
    · exact ⟨j - 4, by omega, by rw [if_pos (by omega)]; omega⟩
    · exact ⟨j + (l.length - 4), by omega, by rw [if_neg (by omega)]; omega⟩
  obtain ⟨J, hJ1, hJ2⟩ := hJ
  have e1 : dgt (l.drop 4 ++ l.take 4) J = dgt l j := by unfold dgt; rw [rot_at h4 hJ1, hJ2]
  have e2 : dgt (l'.drop 4 ++ l'.take 4) J = dgt l' j := by unfold dgt; rw [rot_at (by omega) (by omega), hl, hJ2]
  refine rest_digit (j := J) (by omega) (by omega) (fun i hi => ?_) (by rw [e1]; exact hd) (by rw [e2]; exact hd') (by rw [e1, e2]; exact hne)
  rcases Nat.lt_or_ge i l.length with h | h
  · rw [rot_at (by omega) (by omega), rot_at h4 h, hl]
    refine he _ ?_
    intro e
    rw [← hJ2] at e
    split at e <;> split at e <;> omega
  · unfold byA
    rw [List.getD_eq_getElem?_getD, List.getD_eq_getElem?_getD, List.getElem?_eq_none (by omega), List.getElem?_eq_none (by omega)]
theorem taxP_congr {l l' : List UInt8} {k : Nat} (h : ∀ i, i < k → byA l' i = byA l i) : taxP l' k = taxP l k := by
  induction k with
  | zero => rfl
  | succ k ih => rw [taxP, taxP, ih (fun i hi => h i (by omega)), h k (by omega)]
theorem taxP_ne {l l' : List UInt8} {j : Nat} : ∀ k, (∀ i, i < k → 48 ≤ byA l i ∧ byA l i ≤ 57) → (∀ i, i ≠ j → byA l' i = byA l i) → 48 ≤ byA l' j ∧ byA l' j ≤ 57 → byA l' j ≠ byA l j → j < k → taxP l' k ≠ taxP l k
  | 0, _, _, _, _, hj => by omega
  | k + 1, h, he, hd, hne, hj => by
    have hb := taxP_bd (l := l) (k := k) (fun i hi => (h i (by omega)).1)
    have hb' : 1 ≤ taxP l' k ∧ taxP l' k ≤ 10 := taxP_bd (fun i hi => by
      by_cases e : i = j
      · rw [e]; exact hd.1
      · rw [he i e]; exact (h i (by omega)).1)
    rw [taxP, taxP]
    by_cases e : j = k
    · subst e
      rw [taxP_congr (l := l) (l' := l') (k := j) (fun i hi => he i (by omega))]
      intro e2
      exact hne (stTx_dig hb hd (h j (by omega)) e2)
    · rw [he k (fun e' => e e'.symm)]
      intro e2
      exact taxP_ne k (fun i hi => h i (by omega)) he hd hne (by omega) (stTx_inj hb' hb (h k (by omega)) e2)
theorem tax_digit {l l' : List UInt8} {j : Nat} (hj : j < l.length) (hl : l'.length = l.length) (he : ∀ i, i ≠ j → byA l' i = byA l i) (hd' : 0 ≤ dgt l' j ∧ dgt l' j ≤ 9) (hne : dgt l' j ≠ dgt l j) (hs : taxB l = true) : taxB l' = false := by
  unfold taxB at hs ⊢
  simp only [Bool.and_eq_true] at hs
  obtain ⟨h1, h2, h3⟩ := hs
  have h1 := of_decide_eq_true h1
  obtain ⟨-, h3⟩ := of_decide_eq_true h3
  have h2 := (digs_yes h2).2
  unfold dgt at hd' hne h2
  have : decide (byA l' 0 ≠ 48 ∧ taxD l' = byA l' 10) = false := by
    refine decide_eq_false (fun ⟨_, h4⟩ => ?_)
    have hb := taxP_bd (l := l) (k := 10) (fun i hi => by have := h2 i (by omega); omega)
    have hb' : 1 ≤ taxP l' 10 ∧ taxP l' 10 ≤ 10 := taxP_bd (fun i hi => by
      by_cases e : i = j
      · rw [e]; omega
      · rw [he i e]; have := h2 i (by omega); omega)
    unfold taxD at h3 h4
    by_cases e : j = 10
    · subst e
      rw [taxP_congr (l := l) (l' := l') (k := 10) (fun i hi => he i (by omega))] at h4
      omega
    · rw [he 10 (fun e' => e e'.symm)] at h4
      have hne2 := taxP_ne (l := l) (l' := l') (j := j) 10 (fun i hi => by have := h2 i (by omega); omega) he (by omega) (by omega) (by omega)
      omega
  rw [this]
  simp
/-- A right number with another digit is none. -/
theorem num_digit {kind : Int} {l l' : List UInt8} {j : Nat} (hj : j < l.length) (hl : l'.length = l.length) (he : ∀ i, i ≠ j → byA l' i = byA l i) (hd : 0 ≤ dgt l j ∧ dgt l j ≤ 9) (hd' : 0 ≤ dgt l' j ∧ dgt l' j ≤ 9) (hne : dgt l' j ≠ dgt l j) (hs : numB kind l = true) : numB kind l' = false := by
  unfold numB at hs ⊢
  split at hs
  · rename_i h4
    rw [if_pos h4]
    unfold bankB bankForm at hs ⊢
    simp only [Bool.and_eq_true] at hs
    obtain ⟨⟨f1, -⟩, f2⟩ := hs
    have f1 := of_decide_eq_true f1
    have f2 := of_decide_eq_true f2
    have := bank_digit (by omega) hj hl he hd hd' hne
    rw [decide_eq_false (p := bankR l' = 1 ∧ 2 ≤ bankC l' ∧ bankC l' ≤ 98) (by omega)]
    simp
  · rename_i h4
    rw [if_neg h4]
    split at hs
    · rename_i h5
      rw [if_pos h5]
      exact tax_digit hj hl he hd' hne hs
    · rename_i h5
      rw [if_neg h5]
      exact plain_digit hj hl he hd' hne hs

theorem sumF_two {f g : Nat → Int} {n k : Nat} (hk : k + 1 < n) (h : ∀ i, i ≠ k → i ≠ k + 1 → i < n → g i = f i) : sumF g n = sumF f n + (g k - f k) + (g (k + 1) - f (k + 1)) := by
  induction n with
  | zero => omega
  | succ n ih =>
    rw [sumF, sumF]
    by_cases e : k + 1 = n
    · subst e
      rw [sumF_one (f := f) (g := g) (n := k + 1) (k := k) (by omega) (fun i a b => h i a (by omega) (by omega))]
      omega
    · rw [ih (by omega) (fun i a b c => h i a b (by omega)), h n (by omega) (fun e' => e e'.symm) (by omega)]
      omega
/-- Two neighbours exchanged. -/
theorem num_swap {kind : Int} {l l' : List UInt8} {j : Nat} (hk : kind ≠ 4 ∧ kind ≠ 5) (hj : j + 1 < l.length) (hl : l'.length = l.length) (he : ∀ i, i ≠ j → i ≠ j + 1 → byA l' i = byA l i) (h0 : byA l' j = byA l (j + 1)) (h1 : byA l' (j + 1) = byA l j)
    (hne : byA l j - byA l (j + 1) ≠ 0 ∧ byA l j - byA l (j + 1) ≠ 5 ∧ byA l j - byA l (j + 1) ≠ -5) (hs : numB kind l = true) : numB kind l' = false := by
  unfold numB at hs ⊢
  rw [if_neg hk.1, if_neg hk.2] at hs ⊢
  unfold plainB at hs ⊢
  simp only [Bool.and_eq_true] at hs
  have hd := (digs_yes hs.2.1).2
  have d0 := hd j (by omega)
  have d1 := hd (j + 1) hj
  have hsum : sumB l' = false := by
    have h2 : sumF (wt l) l.length % 10 = 0 := of_decide_eq_true hs.2.2
    have h3 := sumF_two (f := wt l) (g := wt l') (n := l.length) (k := l.length - 2 - j) (by omega) (fun i a b c => by
      unfold wt dgt
      rw [hl, he _ (by omega) (by omega)])
    refine decide_eq_false ?_
    rw [hl, h3]
    have e1 : l.length - 1 - (l.length - 2 - j) = j + 1 := by omega
    have e2 : l.length - 1 - (l.length - 2 - j + 1) = j := by omega
    unfold wt dgt
    rw [hl, e1, e2, h0, h1]
    unfold dgt at d0 d1
    unfold wt dgt at h2
    rcases tr_cases (l.length - 2 - j) with ⟨a, ht⟩ | ⟨a, ht⟩ <;> rcases tr_cases (l.length - 2 - j + 1) with ⟨b, ht'⟩ | ⟨b, ht'⟩ <;> rw [ht, ht'] <;> omega
  rw [hsum]
  simp

/-- Widened. -/
def wide (l : List UInt8) : List UInt8 := List.replicate (14 - l.length) 48 ++ l
theorem wide_num {l : List UInt8} (h : numB 1 l = true) : numB 1 (wide l) = true := by
  have h : plainB 1 l = true := h
  show plainB 1 (wide l) = true
  unfold plainB at h ⊢
  simp only [Bool.and_eq_true] at h
  obtain ⟨h1, h2, h3⟩ := h
  have hl : l.length ≤ 14 := by
    have h1 : decide (l.length = 8 ∨ l.length = 12 ∨ l.length = 13 ∨ l.length = 14) = true := h1
    have := of_decide_eq_true h1
    omega
  have hw : (wide l).length = 14 := by unfold wide; simp; omega
  have hd := digs_yes h2
  have hat : ∀ i, i < 14 → byA (wide l) i = if i < 14 - l.length then 48 else byA l (i - (14 - l.length)) := by
    intro i hi
    unfold wide
    by_cases e : i < 14 - l.length
    · rw [if_pos e, byA_left (by simpa using e)]
      rw [byA_get (by simpa using e), List.getElem_replicate]; rfl
    · rw [if_neg e, byA_right (by simp; omega)]
      simp
  have hdw : digs (wide l) = true := by
    refine digs_mk (by omega) (fun i hi => ?_)
    unfold dgt
    rw [hat i (by omega)]
    split
    · omega
    · have := hd.2 (i - (14 - l.length)) (by omega)
      unfold dgt at this
      omega
  rw [hdw, hw]
  have hsum : sumF (wt (wide l)) 14 = sumF (wt l) l.length := by
    have step : ∀ k, l.length + k ≤ 14 → sumF (wt (wide l)) (l.length + k) = sumF (wt l) l.length := by
      intro k
      induction k with
      | zero =>
        intro _
        refine sumF_congr (fun i hi => ?_)
        unfold wt dgt
        rw [hw, hat _ (by omega), if_neg (by omega), show 14 - 1 - i - (14 - l.length) = l.length - 1 - i by omega]
      | succ k ih =>
        intro hk
        rw [show l.length + (k + 1) = l.length + k + 1 by omega, sumF, ih (by omega)]
        unfold wt dgt
        rw [hw, hat _ (by omega), if_pos (by omega)]
        omega
    have := step (14 - l.length) (by omega)
    rw [show l.length + (14 - l.length) = 14 by omega] at this
    exact this
  unfold sumB at h3 ⊢
  rw [hw, hsum, h3]
  rfl
end Go.Proofs.YtcfhaljkemaefaaGreatDoor.Nmb

namespace Go.Proofs.YtcfhaljkemaefaaGreatDoor.Work
open Nmb
set_option linter.unusedVariables false

/-! ### The number that digits spell -/
def dvF : List UInt8 → Nat → Nat
  | [], a => a
  | c :: l, a => dvF l (10 * a + (c.toNat - 48))
theorem dvF_cons (c : UInt8) (l : List UInt8) (a : Nat) : dvF (c :: l) a = dvF l (10 * a + (c.toNat - 48)) := rfl
def dv (l : List UInt8) : Nat := dvF l 0
theorem dvF_append (l m : List UInt8) : ∀ a, dvF (l ++ m) a = dvF m (dvF l a) := by
  induction l with
  | nil => intro a; rfl
  | cons c l ih => intro a; exact ih _
theorem dv_take {l : List UInt8} {k : Nat} (h : k < l.length) : dv (l.take (k + 1)) = 10 * dv (l.take k) + (l[k].toNat - 48) := by
  unfold dv
  rw [List.take_succ_eq_append_getElem h, dvF_append]; rfl
theorem digs_mem {l : List UInt8} (h : digs l = true) : ∀ c ∈ l, 48 ≤ c.toNat ∧ c.toNat ≤ 57 := by
  intro c hc
  obtain ⟨i, hi, rfl⟩ := List.getElem_of_mem hc
  have := (digs_yes h).2 i hi
  unfold dgt at this
  rw [byA_get hi] at this
  omega
theorem mem_digs {l : List UInt8} (h0 : 0 < l.length) (h : ∀ c ∈ l, 48 ≤ c.toNat ∧ c.toNat ≤ 57) : digs l = true := by
  refine digs_mk h0 (fun i hi => ?_)
  have := h l[i] (List.getElem_mem hi)
  unfold dgt
  rw [byA_get hi]
  omega
theorem dvF_lt : ∀ (l : List UInt8) (a : Nat), (∀ c ∈ l, 48 ≤ c.toNat ∧ c.toNat ≤ 57) → dvF l a < (a + 1) * 10 ^ l.length
  | [], a, _ => by show a < (a + 1) * 1; omega
  | c :: l, a, h => by
    have h1 := h c (by simp)
    have := dvF_lt l (10 * a + (c.toNat - 48)) (fun d hd => h d (by simp [hd]))
    rw [dvF_cons, List.length_cons, Nat.pow_succ]
    have h2 : (10 * a + (c.toNat - 48) + 1) * 10 ^ l.length ≤ (10 * (a + 1)) * 10 ^ l.length := Nat.mul_le_mul_right _ (by omega)
    have h3 : (10 * (a + 1)) * 10 ^ l.length = (a + 1) * (10 ^ l.length * 10) := by rw [Nat.mul_comm 10 (a + 1), Nat.mul_assoc, Nat.mul_comm 10]
    omega
theorem dv_lt {l : List UInt8} (h : digs l = true) : dv l < 10 ^ l.length := by
  have := dvF_lt l 0 (digs_mem h)
  unfold dv
  omega
theorem dv_lt4 {l : List UInt8} (h : digs l = true) (hl : l.length ≤ 4) : dv l < 10000 := by
  have := dv_lt h
  have h2 : 10 ^ l.length ≤ 10 ^ 4 := Nat.pow_le_pow_right (by decide) hl
  omega
theorem dec_dv : ∀ (l : List UInt8) (a : Nat), (∀ c ∈ l, 48 ≤ c.toNat ∧ c.toNat ≤ 57) → Lib.decFrom a l = some (dvF l a)
  | [], a, _ => rfl
  | c :: l, a, h => by
    have h1 := h c (by simp)
    have e : Lib.digitVal c = some (c.toNat - 48) := by unfold Lib.digitVal; rw [if_pos h1]
    rw [Lib.decFrom, e]
    show Lib.decFrom (a * 10 + (c.toNat - 48)) l = some (dvF l (10 * a + (c.toNat - 48)))
    rw [Nat.mul_comm a 10]
    exact dec_dv l _ (fun d hd => h d (by simp [hd]))
theorem atoi_dv {l : List UInt8} (h : digs l = true) : Lib.atoi l = some ((dv l : Nat) : Int) := by
  have hm := digs_mem h
  have h0 := (digs_yes h).1
  match l, hm, h0 with
  | c :: l, hm, _ =>
    have h1 := hm c (by simp)
    have n45 : (c == 45) = false := by
      rw [beq_eq_false_iff_ne]; intro e; subst e; revert h1; decide
    have n43 : (c == 43) = false := by
      rw [beq_eq_false_iff_ne]; intro e; subst e; revert h1; decide
    rw [Lib.atoi, n45, n43]
    show (Lib.decNat (c :: l)).map _ = _
    unfold Lib.decNat
    rw [if_neg (by simp), dec_dv (c :: l) 0 hm]
    rfl
def numF (l : List UInt8) : Int := if digs l = true then (dv l : Int) else -1
theorem numF_yes {l : List UInt8} (h : digs l = true) : numF l = (dv l : Int) := if_pos h
theorem numF_no {l : List UInt8} (h : digs l = false) : numF l = -1 := if_neg (by rw [h]; simp)
theorem numF_bd {l : List UInt8} (hl : l.length ≤ 4) : -1 ≤ numF l ∧ numF l ≤ 9999 := by
  cases h : digs l with
  | true => rw [numF_yes h]; have := dv_lt4 h hl; omega
  | false => rw [numF_no h]; omega

/-! ### Parts -/
def prt : List Nat → List UInt8 → Option (List Int)
  | [], l => if l.isEmpty = true then some [] else none
  | n :: ws, l => if n ≤ l.length ∧ digs (l.take n) = true then (prt ws (l.drop n)).map (fun r => ((dv (l.take n) : Nat) : Int) :: r) else none
theorem prt_short {n : Nat} {ws : List Nat} {l : List UInt8} (h : l.length < n) : prt (n :: ws) l = none := by rw [prt, if_neg (by omega)]
theorem prt_bad {n : Nat} {ws : List Nat} {l : List UInt8} (h : digs (l.take n) = false) : prt (n :: ws) l = none := by rw [prt, if_neg (by rw [h]; simp)]
theorem prt_next {n : Nat} {ws : List Nat} {l : List UInt8} (h : n ≤ l.length) (hd : digs (l.take n) = true) : prt (n :: ws) l = (prt ws (l.drop n)).map (fun r => ((dv (l.take n) : Nat) : Int) :: r) := by rw [prt, if_pos ⟨h, hd⟩]
theorem prt3 {a b c : Nat} (hc : 0 < c) (l : List UInt8) : prt [a, b, c] l =
    if l.length = a + b + c ∧ digs (l.take a) = true ∧ digs ((l.drop a).take b) = true ∧ digs (l.drop (a + b)) = true then some [(dv (l.take a) : Int), (dv ((l.drop a).take b) : Int), (dv (l.drop (a + b)) : Int)] else none := by
  have hd : (l.drop a).drop b = l.drop (a + b) := by rw [List.drop_drop]
  have hlen : (l.drop (a + b)).length = l.length - (a + b) := by simp
  by_cases h1 : a ≤ l.length ∧ digs (l.take a) = true
  case neg => rw [prt, if_neg h1, if_neg (fun h => h1 ⟨by omega, h.2.1⟩)]
  rw [prt_next h1.1 h1.2]
  by_cases h2 : b ≤ (l.drop a).length ∧ digs ((l.drop a).take b) = true
  case neg =>
    rw [prt, if_neg h2, if_neg (fun h => h2 ⟨by simp; omega, h.2.2.1⟩)]; rfl
  rw [prt_next h2.1 h2.2, hd]
  have hb : b ≤ l.length - a := by have := h2.1; simpa using this
  by_cases h3 : c ≤ (l.drop (a + b)).length ∧ digs ((l.drop (a + b)).take c) = true
  case neg =>
    rw [prt, if_neg h3, if_neg (fun h => h3 ⟨by omega, by rw [List.take_of_length_le (by omega)]; exact h.2.2.2⟩)]; rfl
  rw [prt_next h3.1 h3.2, prt]
  by_cases h4 : ((l.drop (a + b)).drop c).isEmpty = true
  · have h5 : (l.drop (a + b)).length ≤ c := by rw [List.isEmpty_iff] at h4; have := congrArg List.length h4; simp at this; simp; omega
    rw [if_pos h4, List.take_of_length_le h5]
    rw [List.take_of_length_le h5] at h3
    rw [if_pos ⟨by have := h3.1; omega, h1.2, h2.2, h3.2⟩]; rfl
  · rw [if_neg h4, if_neg (fun h => h4 (by rw [List.isEmpty_iff]; apply List.eq_nil_of_length_eq_zero; simp; omega))]; rfl

/-! ### Days that are read -/
def dayO (y m d : Int) : Option Int := if dateB y m d = true then some (num y m d) else none
theorem dayO_neg {y m d : Int} (h : y < 1 ∨ m < 1 ∨ d < 1) : dayO y m d = none := by
  unfold dayO; rw [if_neg]; intro h2; have := dateB_yes h2; omega
/-- The day of a year, a week and a day in it. -/
def weekN (y w d : Int) : Int := bef y + 4 - (bef y + 4 - 1) % 7 + (w - 1) * 7 + d - 1
def weekB (y w d : Int) : Bool := decide ((1 ≤ y ∧ y ≤ 9999) ∧ (1 ≤ d ∧ d ≤ 7) ∧ (1 ≤ weekN y w d ∧ weekN y w d ≤ 3652059) ∧ bef y < thu (weekN y w d) ∧ thu (weekN y w d) ≤ bef (y + 1) ∧ wk (weekN y w d) y = w)
def weekO (y w d : Int) : Option Int := if weekB y w d = true then some (weekN y w d) else none
/-- A day with this year, week and day in it is that one. -/
theorem week_day {day y w d : Int} (h1 : bef y < thu day) (h2 : wk day y = w) (h3 : (day - 1) % 7 + 1 = d) : day = weekN y w d := by
  subst h2 h3
  unfold weekN wk
  unfold thu at h1 ⊢
  omega
theorem week_in {y w d : Int} (h : weekB y w d = true) : 1 ≤ w ∧ w ≤ 53 ∧ (weekN y w d - 1) % 7 + 1 = d ∧ bef y + 1 - 7 ≤ weekN y w d ∧ weekN y w d ≤ bef y + 1 + 380 := by
  obtain ⟨a, b, c, e, f, g⟩ := of_decide_eq_true h
  have hw := wk_bd e f
  rw [g] at hw
  refine ⟨hw.1, hw.2, ?_, ?_, ?_⟩
  · unfold weekN; omega
  · unfold weekN; omega
  · unfold weekN; omega
theorem weekB_of {day y w d : Int} (hy : 1 ≤ y ∧ y ≤ 9999) (hd : 1 ≤ day ∧ day ≤ 3652059) (h1 : bef y < thu day) (h1' : thu day ≤ bef (y + 1)) (h2 : wk day y = w) (h3 : (day - 1) % 7 + 1 = d) : weekB y w d = true := by
  have e := week_day h1 h2 h3
  rw [e] at hd h1 h1' h2
  exact decide_eq_true ⟨hy, by omega, hd, h1, h1', h2⟩
theorem weekO_no {y w d : Int} (h : weekB y w d = false) : weekO y w d = none := if_neg (by rw [h]; simp)
theorem weekO_yes {y w d : Int} (h : weekB y w d = true) : weekO y w d = some (weekN y w d) := if_pos h
theorem weekB_neg {y w d : Int} (h : y < 1 ∨ w < 1 ∨ d < 1 ∨ 7 < d) : weekB y w d = false := by
  cases e : weekB y w d with
  | false => rfl
  | true =>
    have a := week_in e
    have b := of_decide_eq_true e
    omega
def pointB (l : List UInt8) : Bool := decide (l.length = 10 ∧ byA l 4 = 45 ∧ byA l 7 = 45)
/-- What is read by a form. -/
def readO (form pivot : Int) (l : List UInt8) : Option Int :=
  if form = 1 then (if l.length = 8 then dayO (numF (l.take 4)) (numF ((l.drop 4).take 2)) (numF (l.drop 6)) else none)
  else if form = 2 then (if l.length = 6 then (if 0 ≤ numF (l.take 2) then dayO (pivot + (numF (l.take 2) - pivot) % 100) (numF ((l.drop 2).take 2)) (numF (l.drop 4)) else none) else none)
  else if form = 3 then (if l.length = 8 then dayO (numF (l.drop 4)) (numF ((l.drop 2).take 2)) (numF (l.take 2)) else none)
  else if form = 4 then (if pointB l = true then dayO (numF (l.take 4)) (numF ((l.drop 5).take 2)) (numF (l.drop 8)) else none)
  else (if l.length = 7 then weekO (numF (l.take 4)) (numF ((l.drop 4).take 2)) (numF (l.drop 6)) else none)
/-- What the program makes of three numbers. -/
def opt3 (f : Int → Int → Int → Option Int) : Option (List Int) → Option Int
  | some [x, y, z] => f x y z
  | _ => none
theorem opt3_prt {a b c : Nat} (hc : 0 < c) (l : List UInt8) (f : Int → Int → Int → Option Int) (hf : ∀ x y z, (x = -1 ∨ y = -1 ∨ z = -1) → f x y z = none) :
    opt3 f (prt [a, b, c] l) = if l.length = a + b + c then f (numF (l.take a)) (numF ((l.drop a).take b)) (numF (l.drop (a + b))) else none := by
  rw [prt3 hc]
  by_cases hl : l.length = a + b + c
  case neg => rw [if_neg (fun h => hl h.1), if_neg hl]; rfl
  rw [if_pos hl]
  cases h1 : digs (l.take a) with
  | false => rw [if_neg (by simp), hf _ _ _ (.inl (numF_no h1))]; rfl
  | true =>
  cases h2 : digs ((l.drop a).take b) with
  | false => rw [if_neg (by simp), hf _ _ _ (.inr (.inl (numF_no h2)))]; rfl
  | true =>
  cases h3 : digs (l.drop (a + b)) with
  | false => rw [if_neg (by simp), hf _ _ _ (.inr (.inr (numF_no h3)))]; rfl
  | true => rw [if_pos ⟨hl, rfl, rfl, rfl⟩, numF_yes h1, numF_yes h2, numF_yes h3]; rfl
end Go.Proofs.YtcfhaljkemaefaaGreatDoor.Work
