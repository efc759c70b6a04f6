/- Plain facts on numbers with check digits. No program in sight. Plain facts on units: names in order, the chain from a unit to its base, products that are cancelled. No program in sight. Formats of flat files, plain: columns, kinds, what is wrong with them. Plain facts on units: products that are cancelled, and the law of factors there and back. No program in sight. -/
import Derived.Test.YtfgnollclmimnaaGreatDoorA5
import Derived.Lib.Bytealg
-- merged: K0 U1 F0 U2

namespace Go.Proofs.YtfgnollclmimnaaGreatDoor.Nmb
set_option linter.unusedVariables false

/-- The byte at a place, and its digit. -/
def byA (l : List UInt8) (i : Nat) : Int := ((l.getD i 48).toNat : Int)
def dgt (l : List UInt8) (i : Nat) : Int := byA l i - 48
theorem byA_bd (l : List UInt8) (i : Nat) : 0 ≤ byA l i ∧ byA l i ≤ 255 := by
  unfold byA
  have := (l.getD i 48).toNat_lt
  omega
theorem byA_get {l : List UInt8} {i : Nat} (h : i < l.length) : byA l i = (l[i].toNat : Int) := by
  unfold byA
  rw [List.getD_eq_getElem?_getD, List.getElem?_eq_getElem h]; rfl
def sumF (f : Nat → Int) : Nat → Int
  | 0 => 0
  | k + 1 => sumF f k + f k
theorem sumF_congr {f g : Nat → Int} {n : Nat} (h : ∀ i, i < n → f i = g i) : sumF f n = sumF g n := by
  induction n with
  | zero => rfl
  | succ n ih => rw [sumF, sumF, ih (fun i hi => h i (by omega)), h n (by omega)]
/-- The weight of a place, from the right. -/
def tr (i : Nat) : Int := if i % 2 = 1 then 3 else 1
theorem tr_cases (i : Nat) : (i % 2 = 1 ∧ tr i = 3) ∨ (i % 2 = 0 ∧ tr i = 1) := by
  unfold tr; split <;> omega
def wt (l : List UInt8) (i : Nat) : Int := dgt l (l.length - 1 - i) * tr i
def sumB (l : List UInt8) : Bool := decide (sumF (wt l) l.length % 10 = 0)
/-- All bytes from a low one to a high one. -/
def inL (l : List UInt8) (a b : Int) : Bool := decide (∀ i, i < l.length → a ≤ byA l i ∧ byA l i ≤ b)
theorem inL_yes {l : List UInt8} {a b : Int} (h : inL l a b = true) {i : Nat} (hi : i < l.length) : a ≤ byA l i ∧ byA l i ≤ b := of_decide_eq_true h i hi
theorem inL_mk {l : List UInt8} {a b : Int} (h : ∀ i, i < l.length → a ≤ byA l i ∧ byA l i ≤ b) : inL l a b = true := decide_eq_true h
theorem inL_no {l : List UInt8} {a b : Int} {i : Nat} (hi : i < l.length) (h : ¬ (a ≤ byA l i ∧ byA l i ≤ b)) : inL l a b = false := decide_eq_false (fun k => h (k i hi))
def digs (l : List UInt8) : Bool := inL l 48 57 && !l.isEmpty
theorem digs_yes {l : List UInt8} (h : digs l = true) : 0 < l.length ∧ ∀ i, i < l.length → 0 ≤ dgt l i ∧ dgt l i ≤ 9 := by
  unfold digs at h
  rw [Bool.and_eq_true] at h
  refine ⟨?_, fun i hi => ?_⟩
  · cases l with
    | nil => simp at h
    | cons a b => simp
  · have := inL_yes h.1 hi
    unfold dgt
    omega
theorem digs_mk {l : List UInt8} (h0 : 0 < l.length) (h : ∀ i, i < l.length → 0 ≤ dgt l i ∧ dgt l i ≤ 9) : digs l = true := by
  unfold digs
  rw [inL_mk (fun i hi => by have := h i hi; unfold dgt at this; omega)]
  cases l with
  | nil => simp at h0
  | cons a b => rfl
/-- Capital letters and digits. -/
def tagC (c : Int) : Bool := decide ((65 ≤ c ∧ c ≤ 90) ∨ (48 ≤ c ∧ c ≤ 57))
def tagL (l : List UInt8) : Bool := l.all fun c => tagC (c.toNat : Int)
theorem tagL_at {l : List UInt8} (h : tagL l = true) {i : Nat} (hi : i < l.length) : (65 ≤ byA l i ∧ byA l i ≤ 90) ∨ (48 ≤ byA l i ∧ byA l i ≤ 57) := by
  unfold tagL at h
  rw [List.all_eq_true] at h
  have := h l[i] (List.getElem_mem hi)
  rw [byA_get hi]
  exact of_decide_eq_true this

/-! ### What a number of a bank leaves -/
def stBk (r c : Int) : Int := if 65 ≤ c then (r * 100 + (c - 65) + 10) % 97 else (r * 10 + (c - 48)) % 97
theorem stBk_bd (r c : Int) : 0 ≤ stBk r c ∧ stBk r c ≤ 96 := by unfold stBk; split <;> omega
theorem stBk_inj {r r' c : Int} (h1 : 0 ≤ r ∧ r ≤ 96) (h2 : 0 ≤ r' ∧ r' ≤ 96) (h : stBk r c = stBk r' c) : r = r' := by
  unfold stBk at h; split at h <;> omega
theorem stBk_dig {r c c' : Int} (h1 : 48 ≤ c ∧ c ≤ 57) (h2 : 48 ≤ c' ∧ c' ≤ 57) (h : stBk r c = stBk r c') : c = c' := by
  unfold stBk at h; rw [if_neg (by omega), if_neg (by omega)] at h; omega
def restF : List UInt8 → Int → Int
  | [], r => r
  | c :: l, r => restF l (stBk r (c.toNat : Int))
theorem restF_append (a b : List UInt8) (r : Int) : restF (a ++ b) r = restF b (restF a r) := by
  induction a generalizing r with
  | nil => rfl
  | cons c a ih => exact ih _
theorem restF_bd {l : List UInt8} {r : Int} (h : 0 ≤ r ∧ r ≤ 96) : 0 ≤ restF l r ∧ restF l r ≤ 96 := by
  induction l generalizing r with
  | nil => exact h
  | cons c l ih => exact ih (stBk_bd _ _)
theorem restF_inj {l : List UInt8} {r r' : Int} (h1 : 0 ≤ r ∧ r ≤ 96) (h2 : 0 ≤ r' ∧ r' ≤ 96) (h : restF l r = restF l r') : r = r' := by
  induction l generalizing r r' with
  | nil => exact h
  | cons c l ih => exact stBk_inj h1 h2 (ih (stBk_bd _ _) (stBk_bd _ _) h)
/-- The step at a place. -/
theorem restF_take {l : List UInt8} {k : Nat} (h : k < l.length) (r : Int) : restF (l.take (k + 1)) r = stBk (restF (l.take k) r) (byA l k) := by
  rw [List.take_succ_eq_append_getElem h, restF_append, byA_get h]; rfl
/-- The reference's: the values of letters as digits, then the remainder. -/
def valC (c : UInt8) : List UInt8 := if 65 ≤ (c.toNat : Int) ∧ (c.toNat : Int) ≤ 90 then [UInt8.ofNat (48 + (c.toNat - 55) / 10), UInt8.ofNat (48 + (c.toNat - 55) % 10)] else [c]
def vals (l : List UInt8) : List UInt8 := l.flatMap valC
def remF : List UInt8 → Int → Int
  | [], r => r
  | c :: l, r => remF l ((10 * r + ((c.toNat : Int) - 48)) % 97)
theorem remF_append (a b : List UInt8) (r : Int) : remF (a ++ b) r = remF b (remF a r) := by
  induction a generalizing r with
  | nil => rfl
  | cons c a ih => exact ih _
theorem remF_take {l : List UInt8} {k : Nat} (h : k < l.length) (r : Int) : remF (l.take (k + 1)) r = (10 * remF (l.take k) r + dgt l k) % 97 := by
  rw [List.take_succ_eq_append_getElem h, remF_append]
  unfold dgt
  rw [byA_get h]
  rfl
theorem ofNat_toNat {n : Nat} (h : n < 256) : ((UInt8.ofNat n).toNat : Int) = n := by
  rw [UInt8.toNat_ofNat_of_lt' (by simpa using h)]
theorem vals_rem {l : List UInt8} (h : tagL l = true) {r : Int} (hr : 0 ≤ r ∧ r ≤ 96) : remF (vals l) r = restF l r := by
  induction l generalizing r with
  | nil => rfl
  | cons c l ih =>
    unfold tagL at h
    rw [List.all_cons, Bool.and_eq_true] at h
    have hc := of_decide_eq_true h.1
    have hcn := c.toNat_lt
    show remF (valC c ++ vals l) r = restF l (stBk r (c.toNat : Int))
    rw [remF_append]
    have e : remF (valC c) r = stBk r (c.toNat : Int) := by
      unfold valC stBk
      by_cases hk : 65 ≤ (c.toNat : Int) ∧ (c.toNat : Int) ≤ 90
      · rw [if_pos hk, if_pos hk.1]
        show (10 * ((10 * r + (((UInt8.ofNat (48 + (c.toNat - 55) / 10)).toNat : Int) - 48)) % 97) + (((UInt8.ofNat (48 + (c.toNat - 55) % 10)).toNat : Int) - 48)) % 97 = _
        rw [ofNat_toNat (by omega), ofNat_toNat (by omega)]
        omega
      · rw [if_neg hk, if_neg (by omega)]
        show (10 * r + ((c.toNat : Int) - 48)) % 97 = _
        omega
    rw [e]
    exact ih h.2 (stBk_bd _ _)

/-! ### The digit of a tax number -/
def stTx (p c : Int) : Int := 2 * (if (c - 48 + p) % 10 = 0 then 10 else (c - 48 + p) % 10) % 11
theorem stTx_bd {p c : Int} (hc : 48 ≤ c) (hp : 0 ≤ p) : 1 ≤ stTx p c ∧ stTx p c ≤ 10 := by unfold stTx; split <;> omega
theorem stTx_inj {p p' c : Int} (h1 : 1 ≤ p ∧ p ≤ 10) (h2 : 1 ≤ p' ∧ p' ≤ 10) (hc : 48 ≤ c ∧ c ≤ 57) (h : stTx p c = stTx p' c) : p = p' := by
  unfold stTx at h; split at h <;> split at h <;> omega
theorem stTx_dig {p c c' : Int} (h1 : 1 ≤ p ∧ p ≤ 10) (hc : 48 ≤ c ∧ c ≤ 57) (hc' : 48 ≤ c' ∧ c' ≤ 57) (h : stTx p c = stTx p c') : c = c' := by
  unfold stTx at h; split at h <;> split at h <;> omega
def taxP (l : List UInt8) : Nat → Int
  | 0 => 10
  | k + 1 => stTx (taxP l k) (byA l k)
theorem taxP_bd {l : List UInt8} {k : Nat} (h : ∀ i, i < k → 48 ≤ byA l i) : 1 ≤ taxP l k ∧ taxP l k ≤ 10 := by
  induction k with
  | zero => show 1 ≤ (10 : Int) ∧ (10 : Int) ≤ 10; decide
  | succ k ih =>
    have a := ih (fun i hi => h i (by omega))
    exact stTx_bd (h k (by omega)) (by omega)
def taxD (l : List UInt8) : Int := 48 + (11 - taxP l 10) % 10

/-! ### Numbers -/
def lenB (kind : Int) (n : Nat) : Bool := if kind = 1 then decide (n = 8 ∨ n = 12 ∨ n = 13 ∨ n = 14) else if kind = 2 then decide (n = 13) else decide (n = 18)
def plainB (kind : Int) (l : List UInt8) : Bool := lenB kind l.length && (digs l && sumB l)
/-- The form of a number of a bank. -/
def bankForm (l : List UInt8) : Bool := decide (15 ≤ l.length ∧ l.length ≤ 34) && (inL (l.take 2) 65 90 && (inL ((l.drop 2).take 2) 48 57 && tagL (l.drop 4)))
def bankR (l : List UInt8) : Int := restF (l.drop 4 ++ l.take 4) 0
def bankC (l : List UInt8) : Int := 10 * dgt l 2 + dgt l 3
def bankB (l : List UInt8) : Bool := bankForm l && decide (bankR l = 1 ∧ 2 ≤ bankC l ∧ bankC l ≤ 98)
def taxB (l : List UInt8) : Bool := decide (l.length = 11) && (digs l && decide (byA l 0 ≠ 48 ∧ taxD l = byA l 10))
def numB (kind : Int) (l : List UInt8) : Bool := if kind = 4 then bankB l else if kind = 5 then taxB l else plainB kind l
end Go.Proofs.YtfgnollclmimnaaGreatDoor.Nmb

namespace Go.Proofs.YtfgnollclmimnaaGreatDoor
open Go.RowKit
set_option linter.unusedVariables false
set_option linter.unusedSimpArgs false

/-! ### Rows of bytes in order -/
theorem cb_self : ∀ a : List UInt8, Lib.compareBytes a a = 0
  | [] => rfl
  | x :: a => by
    unfold Lib.compareBytes
    rw [if_neg (UInt8.lt_irrefl x), if_neg (UInt8.lt_irrefl x)]
    exact cb_self a
theorem cb_eq : ∀ {a b : List UInt8}, Lib.compareBytes a b = 0 → a = b
  | [], [], _ => rfl
  | [], _ :: _, h => by simp [Lib.compareBytes] at h
  | _ :: _, [], h => by simp [Lib.compareBytes] at h
  | x :: a, y :: b, h => by
    unfold Lib.compareBytes at h
    split at h
    · simp at h
    · split at h
      · simp at h
      · have e : x = y := by
          rename_i h1 h2
          exact UInt8.le_antisymm (UInt8.not_lt.1 h2) (UInt8.not_lt.1 h1)
        rw [e, cb_eq h]
theorem cb_neg : ∀ {a b : List UInt8}, Lib.compareBytes a b = - Lib.compareBytes b a
  | [], [] => rfl
  | [], _ :: _ => by simp [Lib.compareBytes]
  | _ :: _, [] => by simp [Lib.compareBytes]
  | x :: a, y :: b => by
    have ih := cb_neg (a := a) (b := b)
    unfold Lib.compareBytes
    by_cases h1 : x < y
    · rw [if_pos h1, if_neg (UInt8.lt_asymm h1), if_pos h1]
    · by_cases h2 : y < x
      · rw [if_neg h1, if_pos h2, if_pos h2]; rfl
      · rw [if_neg h1, if_neg h2, if_neg h2, if_neg h1]; exact ih
theorem cb_trans : ∀ {a b c : List UInt8}, Lib.compareBytes a b < 0 → Lib.compareBytes b c < 0 → Lib.compareBytes a c < 0
  | [], [], _, h, _ => by simp [Lib.compareBytes] at h
  | [], _ :: _, [], _, h => by simp [Lib.compareBytes] at h
  | [], _ :: _, _ :: _, _, _ => by simp [Lib.compareBytes]
  | _ :: _, [], _, h, _ => by simp [Lib.compareBytes] at h
  | _ :: _, _ :: _, [], _, h => by simp [Lib.compareBytes] at h
  | x :: a, y :: b, z :: c, h1, h2 => by
    unfold Lib.compareBytes at h1 h2 ⊢
    by_cases a1 : x < y
    · by_cases b1 : y < z
      · rw [if_pos (UInt8.lt_trans a1 b1)]; decide
      · rw [if_neg b1] at h2
        by_cases b2 : z < y
        · rw [if_pos b2] at h2; simp at h2
        · have e : y = z := UInt8.le_antisymm (UInt8.not_lt.1 b2) (UInt8.not_lt.1 b1)
          rw [← e, if_pos a1]; decide
    · rw [if_neg a1] at h1
      by_cases a2 : y < x
      · rw [if_pos a2] at h1; simp at h1
      · rw [if_neg a2] at h1
        have e : x = y := UInt8.le_antisymm (UInt8.not_lt.1 a2) (UInt8.not_lt.1 a1)
        rw [e]
        by_cases b1 : y < z
        · rw [if_pos b1]; decide
        · rw [if_neg b1] at h2 ⊢
          by_cases b2 : z < y
          · rw [if_pos b2] at h2; simp at h2
          · rw [if_neg b2] at h2 ⊢
            exact cb_trans h1 h2
theorem less_cb : ∀ (a b : List UInt8), Op.bytesLess a b = decide (Lib.compareBytes a b < 0)
  | [], [] => by simp [Op.bytesLess, Lib.compareBytes]
  | [], _ :: _ => by simp [Op.bytesLess, Lib.compareBytes]
  | _ :: _, [] => by simp [Op.bytesLess, Lib.compareBytes]
  | x :: a, y :: b => by
    have ih := less_cb a b
    unfold Op.bytesLess Lib.compareBytes
    by_cases h1 : x < y
    · simp [h1]
    · by_cases h2 : y < x
      · have : x ≠ y := by intro e; rw [e] at h2; exact UInt8.lt_irrefl y h2
        simp [h1, h2, this]
      · have e : x = y := UInt8.le_antisymm (UInt8.not_lt.1 h2) (UInt8.not_lt.1 h1)
        rw [if_neg h1, if_neg h2, ih]
        simp [e]

/-! ### Units -/
structure Unt where
  name : ByteArray
  of : ByteArray
  num : Int
  den : Int
def u0 : Unt := ⟨⟨#[]⟩, ⟨#[]⟩, 0, 0⟩
def uA (us : List Unt) (j : Nat) : Unt := us.getD j u0
def nmU (us : List Unt) (j : Nat) : List UInt8 := (uA us j).name.data.toList
def ofU (us : List Unt) (j : Nat) : List UInt8 := (uA us j).of.data.toList

/-- The first fault among some. -/
def firstF (f : Nat → Int) : Nat → Int
  | 0 => 0
  | n + 1 => if firstF f n = 0 then f n else firstF f n
theorem firstF_cases (f : Nat → Int) (n : Nat) : (firstF f n = 0 ∧ ∀ i, i < n → f i = 0) ∨ ∃ m, m < n ∧ firstF f n = f m ∧ f m ≠ 0 ∧ ∀ i, i < m → f i = 0 := by
  induction n with
  | zero => exact .inl ⟨rfl, fun i h => by omega⟩
  | succ n ih =>
    unfold firstF
    rcases ih with ⟨h1, h2⟩ | ⟨m, hm, h1, h2, h3⟩
    · rw [if_pos h1]
      by_cases h : f n = 0
      · refine .inl ⟨h, fun i hi => ?_⟩
        rcases Nat.lt_or_ge i n with g | g
        · exact h2 i g
        · rw [show i = n by omega]; exact h
      · exact .inr ⟨n, by omega, rfl, h, h2⟩
    · rw [if_neg (by rw [h1]; exact h2)]
      exact .inr ⟨m, by omega, h1, h2, h3⟩

def lowB (c : UInt8) : Bool := decide (97 ≤ c.toNat ∧ c.toNat ≤ 122)
def nameC (c : UInt8) : Bool := lowB c || decide (48 ≤ c.toNat ∧ c.toNat ≤ 57) || c.toNat == 45
def nameB (l : List UInt8) : Bool := decide (1 ≤ l.length ∧ l.length ≤ 40) && lowB (l.headD 0) && l.all nameC

/-- What is wrong with a unit by itself. -/
def uFault (us : List Unt) (i : Nat) : Int :=
  if nameB (nmU us i) = false then 5
  else if 0 < i ∧ ¬ Lib.compareBytes (nmU us (i - 1)) (nmU us i) < 0 then 8
  else if ¬ (1 ≤ (uA us i).num ∧ (uA us i).num ≤ 1000000) ∨ ¬ (1 ≤ (uA us i).den ∧ (uA us i).den ≤ 1000000) then 1
  else if ofU us i = [] ∧ ((uA us i).num ≠ 1 ∨ (uA us i).den ≠ 1) then 3 else 0

def idxU (us : List Unt) (x : List UInt8) : Option Nat := us.findIdx? fun u => u.name.data.toList == x
def nxtU (us : List Unt) (i : Nat) : Option Nat := if ofU us i = [] then none else idxU us (ofU us i)

/-- The chain from a number on; none: it does not end in so many steps. -/
def chainF (nx : Nat → Option Nat) : Nat → Nat → Option (List Nat)
  | 0, i => match nx i with
    | none => some [i]
    | some _ => none
  | f + 1, i => match nx i with
    | none => some [i]
    | some j => (chainF nx f j).map (i :: ·)
def chainU (us : List Unt) (i : Nat) : Option (List Nat) := chainF (nxtU us) us.length i
def chF (us : List Unt) (i : Nat) : Int := match chainU us i with
  | none => 17
  | some c => if 5 < c.length then 2 else 0
def knownU (us : List Unt) (i : Nat) : Bool := (ofU us i).isEmpty || (idxU us (ofU us i)).isSome

/-- What is wrong with units. -/
def chkU (us : List Unt) : Int :=
  if 200 < us.length then 2
  else if firstF (uFault us) us.length ≠ 0 then firstF (uFault us) us.length
  else if firstF (fun i => if knownU us i then 0 else 9) us.length ≠ 0 then 9
  else firstF (chF us) us.length

theorem uA_get {us : List Unt} {j : Nat} (h : j < us.length) : us[j] = uA us j := by
  unfold uA; rw [List.getD_eq_getElem?_getD, List.getElem?_eq_getElem h]; rfl

/-! ### Where a name stands -/
theorem idxU_some {us : List Unt} {x : List UInt8} {i : Nat} (h : idxU us x = some i) : i < us.length ∧ nmU us i = x := by
  unfold idxU at h
  rw [List.findIdx?_eq_some_iff_getElem] at h
  obtain ⟨hi, hp, _⟩ := h
  refine ⟨hi, ?_⟩
  rw [uA_get hi] at hp
  exact beq_iff_eq.1 hp
theorem idxU_none {us : List Unt} {x : List UInt8} (h : idxU us x = none) : ∀ i, i < us.length → nmU us i ≠ x := by
  unfold idxU at h
  rw [List.findIdx?_eq_none_iff] at h
  intro i hi e
  have := h us[i] (List.getElem_mem hi)
  rw [uA_get hi] at this
  simp at this
  exact this (by unfold nmU at e; simpa using e)
/-- Names in order. -/
def SortU (us : List Unt) : Prop := ∀ i j, i < j → j < us.length → Lib.compareBytes (nmU us i) (nmU us j) < 0
theorem sortU_of {us : List Unt} (h : ∀ i, 0 < i → i < us.length → Lib.compareBytes (nmU us (i - 1)) (nmU us i) < 0) : SortU us := by
  intro i j
  induction j with
  | zero => intro h; omega
  | succ j ih =>
    intro h1 h2
    have h3 := h (j + 1) (by omega) h2
    simp only [Nat.add_sub_cancel] at h3
    rcases Nat.lt_or_ge i j with g | g
    · exact cb_trans (ih g (by omega)) h3
    · rw [show i = j by omega]; exact h3
theorem SortU.inj {us : List Unt} (h : SortU us) {i j : Nat} (hi : i < us.length) (hj : j < us.length) (e : nmU us i = nmU us j) : i = j := by
  rcases Nat.lt_trichotomy i j with g | g | g
  · have := h i j g hj; rw [e, cb_self] at this; omega
  · exact g
  · have := h j i g hi; rw [e, cb_self] at this; omega
theorem idxU_of {us : List Unt} (h : SortU us) {x : List UInt8} {i : Nat} (hi : i < us.length) (e : nmU us i = x) : idxU us x = some i := by
  cases h' : idxU us x with
  | none => exact absurd e (idxU_none h' i hi)
  | some j =>
    obtain ⟨hj, e2⟩ := idxU_some h'
    rw [h.inj hj hi (e2.trans e.symm)]

/-! ### Chains -/
def PathU (nx : Nat → Option Nat) : List Nat → Prop
  | [] => False
  | [_] => True
  | i :: j :: r => nx i = some j ∧ PathU nx (j :: r)
theorem PathU.snoc {nx : Nat → Option Nat} {i j : Nat} : ∀ {l : List Nat}, PathU nx (l ++ [i]) → nx i = some j → PathU nx (l ++ [i] ++ [j])
  | [], _, h => ⟨h, trivial⟩
  | [_], h, h2 => ⟨h.1, h2, trivial⟩
  | _ :: b :: l, h, h2 => ⟨h.1, PathU.snoc (l := b :: l) h.2 h2⟩
theorem chainF_path {nx : Nat → Option Nat} : ∀ {l : List Nat} {i e : Nat} {f : Nat}, PathU nx (l ++ [e]) → nx e = none → (l ++ [e]).head? = some i → l.length ≤ f → chainF nx f i = some (l ++ [e])
  | [], i, e, f, _, he, hi, _ => by
    simp at hi; subst hi
    cases f <;> simp [chainF, he]
  | [a], i, e, f, hp, he, hi, hf => by
    simp at hi; subst hi
    cases f with
    | zero => simp at hf
    | succ f =>
      have h1 := hp.1
      simp only [chainF, h1]
      rw [chainF_path (l := []) (e := e) trivial he rfl (Nat.zero_le _)]; rfl
  | a :: b :: l, i, e, f, hp, he, hi, hf => by
    simp at hi; subst hi
    cases f with
    | zero => simp at hf
    | succ f =>
      have h1 := hp.1
      simp only [chainF, h1]
      rw [chainF_path (l := b :: l) (e := e) (i := b) hp.2 he rfl (by simpa using hf)]; rfl
theorem chainF_loop {nx : Nat → Option Nat} {C : List Nat} (h : ∀ x ∈ C, ∃ y ∈ C, nx x = some y) : ∀ (f : Nat) (x : Nat), x ∈ C → chainF nx f x = none := by
  intro f
  induction f with
  | zero =>
    intro x hx
    obtain ⟨y, _, e⟩ := h x hx
    simp [chainF, e]
  | succ f ih =>
    intro x hx
    obtain ⟨y, hy, e⟩ := h x hx
    simp [chainF, e, ih y hy]
theorem path_next {nx : Nat → Option Nat} {e : Nat} : ∀ {l : List Nat}, PathU nx (l ++ [e]) → ∀ x ∈ l, ∃ y ∈ l ++ [e], nx x = some y
  | [], _, x, hx => by simp at hx
  | [a], h, x, hx => by
    simp at hx; subst hx
    exact ⟨e, by simp, h.1⟩
  | a :: b :: l, h, x, hx => by
    rcases List.mem_cons.1 hx with rfl | hx
    · exact ⟨b, by simp, h.1⟩
    · obtain ⟨y, hy, e2⟩ := path_next (l := b :: l) h.2 x hx
      exact ⟨y, List.mem_cons_of_mem _ hy, e2⟩
theorem chainF_back {nx : Nat → Option Nat} {l : List Nat} {e i j : Nat} {f : Nat} (h : PathU nx (l ++ [e])) (he : nx e = some j) (hj : j ∈ l ++ [e]) (hi : i ∈ l ++ [e]) : chainF nx f i = none := by
  refine chainF_loop (C := l ++ [e]) ?_ f i hi
  intro x hx
  rcases List.mem_append.1 hx with g | g
  · exact path_next h x g
  · simp at g; subst g; exact ⟨j, hj, he⟩
theorem nodup_le : ∀ (n : Nat) (l : List Nat), l.Nodup → (∀ x ∈ l, x < n) → l.length ≤ n
  | 0, l, _, h => by
    cases l with
    | nil => simp
    | cons a l => have := h a (by simp); omega
  | n + 1, l, hd, h => by
    by_cases hn : n ∈ l
    · have h1 := nodup_le n (l.erase n) (hd.erase n) (fun x hx => by
        have := hd.mem_erase_iff.1 hx
        have := h x this.2
        omega)
      rw [List.length_erase_of_mem hn] at h1
      omega
    · have := nodup_le n l hd (fun x hx => by
        have := h x hx
        have : x ≠ n := by rintro rfl; exact hn hx
        omega)
      omega
end Go.Proofs.YtfgnollclmimnaaGreatDoor

namespace Go.Proofs.YtfgnollclmimnaaGreatDoor
open Nmb
set_option linter.unusedVariables false

structure Col where
  name : ByteArray
  kind : Int
  width : Int
  places : Int
  form : Int
  right : Bool
  fill : Int
  need : Bool
  deriving DecidableEq
structure RKd where
  tag : ByteArray
  fields : List Col
  most : Int
  under : ByteArray
  deriving DecidableEq
structure Fmt where
  mark : Int
  quote : Int
  kinds : List RKd
  head : ByteArray
  tail : ByteArray
  count : ByteArray
  sum : ByteArray
  deriving DecidableEq

def col0 : Col := ⟨⟨#[]⟩, 0, 0, 0, 0, false, 0, false⟩
def kind0 : RKd := ⟨⟨#[]⟩, [], 0, ⟨#[]⟩⟩
def cA (cs : List Col) (j : Nat) : Col := cs.getD j col0
def kA (ks : List RKd) (j : Nat) : RKd := ks.getD j kind0
theorem cA_get {cs : List Col} {j : Nat} (h : j < cs.length) : cs[j] = cA cs j := by simp [cA, List.getD_eq_getElem?_getD, h]
theorem kA_get {ks : List RKd} {j : Nat} (h : j < ks.length) : ks[j] = kA ks j := by simp [kA, List.getD_eq_getElem?_getD, h]

/-- The place of the first that is so; -1: there is none. -/
def ixF {α : Type} (q : α → Bool) : List α → Int
  | [] => -1
  | x :: l => if q x = true then 0 else if ixF q l < 0 then -1 else ixF q l + 1
theorem ixF_lo {α : Type} (q : α → Bool) : ∀ l : List α, -1 ≤ ixF q l
  | [] => by unfold ixF; omega
  | x :: l => by
    have := ixF_lo q l
    unfold ixF
    split
    · omega
    · split <;> omega
theorem ixF_hit {α : Type} {q : α → Bool} : ∀ {l : List α} {k : Nat} (hk : k < l.length), q l[k] = true → (∀ j (hj : j < l.length), j < k → q l[j] = false) → ixF q l = k
  | x :: l, 0, _, h, _ => by
    unfold ixF
    rw [if_pos (by simpa using h)]
    rfl
  | x :: l, k + 1, hk, h, hn => by
    have h0 := hn 0 (by simp) (by omega)
    have ih := ixF_hit (l := l) (k := k) (by simpa using hk) h (fun j hj hjk => hn (j + 1) (by simpa using hj) (by omega))
    unfold ixF
    rw [if_neg (by simp only [List.getElem_cons_zero] at h0; rw [h0]; decide), ih, if_neg (by omega)]
    omega
theorem ixF_no {α : Type} {q : α → Bool} : ∀ {l : List α}, (∀ j (hj : j < l.length), q l[j] = false) → ixF q l = -1
  | [], _ => rfl
  | x :: l, h => by
    have h0 := h 0 (by simp)
    have ih := ixF_no (l := l) (fun j hj => h (j + 1) (by simpa using hj))
    unfold ixF
    rw [if_neg (by simp only [List.getElem_cons_zero] at h0; rw [h0]; decide), ih, if_pos (by omega)]
theorem ixF_spec {α : Type} (q : α → Bool) : ∀ l : List α, (ixF q l = -1 ∧ ∀ j (hj : j < l.length), q l[j] = false) ∨ ∃ k, ∃ hk : k < l.length, ixF q l = (k : Int) ∧ q l[k] = true ∧ ∀ j (hj : j < l.length), j < k → q l[j] = false
  | [] => .inl ⟨rfl, fun j hj => by simp at hj⟩
  | x :: l => by
    cases hx : q x with
    | true => exact .inr ⟨0, by simp, ixF_hit (by simp) hx (fun j _ h => absurd h (Nat.not_lt_zero _)), hx, fun j _ h => absurd h (Nat.not_lt_zero _)⟩
    | false =>
      rcases ixF_spec q l with ⟨h1, h2⟩ | ⟨k, hk, h1, h2, h3⟩
      · have hn : ∀ j (hj : j < (x :: l).length), q (x :: l)[j] = false := fun j hj => by
          cases j with
          | zero => exact hx
          | succ j => exact h2 j (by simpa using hj)
        exact .inl ⟨ixF_no hn, hn⟩
      · have hn : ∀ j (hj : j < (x :: l).length), j < k + 1 → q (x :: l)[j] = false := fun j hj hjk => by
          cases j with
          | zero => exact hx
          | succ j => exact h3 j (by simpa using hj) (by omega)
        exact .inr ⟨k + 1, by simpa using hk, ixF_hit (by simpa using hk) h2 hn, h2, hn⟩
theorem ixF_any {α : Type} (q : α → Bool) (l : List α) : decide (0 ≤ ixF q l) = l.any q := by
  rcases ixF_spec q l with ⟨h1, h2⟩ | ⟨k, hk, h1, h2, _⟩
  · rw [h1, show l.any q = false from by
      rw [Bool.eq_false_iff]
      intro h
      obtain ⟨x, hx, h3⟩ := List.any_eq_true.1 h
      obtain ⟨j, hj, rfl⟩ := List.getElem_of_mem hx
      rw [h2 j hj] at h3
      cases h3]
    rfl
  · rw [h1, show l.any q = true from List.any_eq_true.2 ⟨l[k], List.getElem_mem hk, h2⟩]
    exact decide_eq_true (by omega)
/-- The first is at a place just if none before the place is so, where it is so. -/
theorem ixF_take {α : Type} {q : α → Bool} {l : List α} {k : Nat} (hk : k < l.length) (h : q l[k] = true) : (ixF q l = k) ↔ (l.take k).any q = false := by
  constructor
  · intro e
    rw [Bool.eq_false_iff]
    intro h2
    obtain ⟨x, hx, h3⟩ := List.any_eq_true.1 h2
    obtain ⟨j, hj, rfl⟩ := List.getElem_of_mem hx
    rw [List.length_take] at hj
    rw [List.getElem_take] at h3
    rcases ixF_spec q l with ⟨h4, h5⟩ | ⟨k', hk', h4, h5, h6⟩
    · rw [h5 k hk] at h; cases h
    · have : k' = k := by omega
      subst this
      rw [h6 j (by omega) (by omega)] at h3
      cases h3
  · intro e
    refine ixF_hit hk h (fun j hj hjk => ?_)
    rw [Bool.eq_false_iff]
    intro h3
    have : (l.take k).any q = true := List.any_eq_true.2 ⟨l[j], by rw [List.mem_iff_getElem]; exact ⟨j, by rw [List.length_take]; omega, by rw [List.getElem_take]⟩, h3⟩
    rw [this] at e
    cases e

/-! ### What is wrong with a format -/
/-- A byte that cannot be between fields. -/
def markF (b : Int) : Bool := decide (b < 32) || decide (126 < b) || tagC b || decide (97 ≤ b ∧ b ≤ 122) || decide (b = 45) || decide (b = 46)
def formW (form : Int) : Int := if form = 1 ∨ form = 3 then 8 else if form = 4 then 10 else if form = 5 then 7 else 0
def idleB (mark : Int) (c : Col) : Bool :=
  (decide (c.kind = 2) || decide (c.places = 0)) && (decide (c.kind = 3) || decide (c.form = 0)) && (!decide (c.kind = 3) && decide (mark = 0) || !c.right && decide (c.fill = 0))
def tagIs (t : ByteArray) (k : RKd) : Bool := decide (k.tag = t)
def nameIs (t : ByteArray) (c : Col) : Bool := decide (c.name = t)
def colF (mark : Int) (c : Col) (before : List Col) : Int :=
  if nameB c.name.data.toList = false then 5
  else if before.any (nameIs c.name) = true then 7
  else if ¬ (1 ≤ c.kind ∧ c.kind ≤ 3) then 4
  else if ¬ (1 ≤ c.width ∧ c.width ≤ 100) then 1
  else if c.kind = 2 ∧ ¬ (0 ≤ c.places ∧ c.places ≤ 9) then 1
  else if c.kind = 3 ∧ formW c.form = 0 then 4
  else if idleB mark c = false then 3
  else if mark ≠ 0 then 0
  else if c.kind ≠ 3 ∧ c.fill ≠ 32 ∧ ¬ (c.kind = 2 ∧ c.fill = 48 ∧ c.right = true) then 3
  else if c.kind = 3 ∧ c.width ≠ formW c.form then 12
  else 0
/-- The first fault of n; 0: there is none. -/
def fstF (f : Nat → Int) : Nat → Int
  | 0 => 0
  | n + 1 => if fstF f n = 0 then f n else fstF f n
theorem fstF_no {f : Nat → Int} : ∀ {n : Nat}, (∀ j, j < n → f j = 0) → fstF f n = 0
  | 0, _ => rfl
  | n + 1, h => by
    unfold fstF
    rw [fstF_no (fun j hj => h j (by omega)), if_pos rfl, h n (by omega)]
theorem fstF_hit {f : Nat → Int} : ∀ {n k : Nat}, k < n → (∀ j, j < k → f j = 0) → f k ≠ 0 → fstF f n = f k
  | n + 1, k, hk, h0, h1 => by
    unfold fstF
    rcases Nat.lt_or_ge k n with h | h
    · rw [fstF_hit h h0 h1, if_neg h1]
    · obtain rfl : k = n := by omega
      rw [fstF_no h0, if_pos rfl]
theorem fstF_zero {f : Nat → Int} : ∀ {n : Nat}, fstF f n = 0 → ∀ j, j < n → f j = 0
  | 0, _, j, hj => absurd hj (Nat.not_lt_zero _)
  | n + 1, h, j, hj => by
    unfold fstF at h
    split at h
    · rename_i h2
      rcases Nat.lt_or_ge j n with h3 | h3
      · exact fstF_zero h2 j h3
      · obtain rfl : j = n := by omega
        exact h
    · rename_i h2; exact absurd h h2
def colsF (mark : Int) (cs : List Col) : Int := fstF (fun i => colF mark (cA cs i) (cs.take i)) cs.length
def kindF (mark : Int) (ks : List RKd) (i : Nat) : Int :=
  if ¬ (1 ≤ (kA ks i).tag.size ∧ (kA ks i).tag.size ≤ 6) ∨ tagL (kA ks i).tag.data.toList = false then 3
  else if (ks.take i).any (tagIs (kA ks i).tag) = true then 7
  else if mark = 0 ∧ (kA ks i).tag.size ≠ (kA ks 0).tag.size then 3
  else if 50 < (kA ks i).fields.length then 2
  else if colsF mark (kA ks i).fields ≠ 0 then colsF mark (kA ks i).fields
  else if ¬ (0 ≤ (kA ks i).most ∧ (kA ks i).most ≤ 2000) then 1
  else if (kA ks i).under ≠ ⟨#[]⟩ ∧ (ks.take i).any (tagIs (kA ks i).under) = false then 5
  else 0
/-- The kind with a tag; the zero kind: there is none. -/
def kndF (ks : List RKd) (t : ByteArray) : RKd := if ixF (tagIs t) ks < 0 then kind0 else kA ks (ixF (tagIs t) ks).toNat
/-- Whether a column of the tail does not serve. -/
def colN (k : RKd) (name : ByteArray) : Col := cA k.fields (ixF (nameIs name) k.fields).toNat
def tailF (ks : List RKd) (tail name : ByteArray) (places : Bool) : Bool :=
  decide (ixF (nameIs name) (kndF ks tail).fields < 0) || (decide ((colN (kndF ks tail) name).kind ≠ 2) || !places && decide ((colN (kndF ks tail) name).places ≠ 0))
def endsF (f : Fmt) : Int :=
  if f.head ≠ ⟨#[]⟩ ∧ ixF (tagIs f.head) f.kinds < 0 then 5
  else if f.tail ≠ ⟨#[]⟩ ∧ ixF (tagIs f.tail) f.kinds < 0 then 5
  else if f.head = f.tail ∧ f.head ≠ ⟨#[]⟩ then 12
  else if f.tail = ⟨#[]⟩ ∧ (f.count ≠ ⟨#[]⟩ ∨ f.sum ≠ ⟨#[]⟩) then 3
  else if f.count ≠ ⟨#[]⟩ ∧ tailF f.kinds f.tail f.count false = true then 5
  else if f.sum ≠ ⟨#[]⟩ ∧ tailF f.kinds f.tail f.sum true = true then 5
  else if f.count = f.sum ∧ f.count ≠ ⟨#[]⟩ then 12
  else 0
def marksF (mark quote : Int) : Int :=
  if mark ≠ 0 ∧ (markF mark = true ∨ quote ≠ 0 ∧ markF quote = true ∨ mark = quote) then 12
  else if mark = 0 ∧ quote ≠ 0 then 3
  else 0
def checkF (f : Fmt) : Int :=
  if marksF f.mark f.quote ≠ 0 then marksF f.mark f.quote
  else if f.kinds.length = 0 then 9
  else if 30 < f.kinds.length then 2
  else if fstF (kindF f.mark f.kinds) f.kinds.length ≠ 0 then fstF (kindF f.mark f.kinds) f.kinds.length
  else endsF f
end Go.Proofs.YtfgnollclmimnaaGreatDoor

namespace Go.Proofs.YtfgnollclmimnaaGreatDoor
open Go.RowKit
set_option linter.unusedVariables false
set_option linter.unusedSimpArgs false

def prodN (l : List Nat) : Nat := l.foldl (fun a b => a * b) 1
theorem prodN_from : ∀ (l : List Nat) (c : Nat), l.foldl (fun a b => a * b) c = c * prodN l
  | [], c => by simp [prodN]
  | x :: l, c => by
    unfold prodN
    rw [List.foldl_cons, List.foldl_cons, prodN_from l (c * x), prodN_from l (1 * x), Nat.one_mul, Nat.mul_assoc]
theorem prodN_cons (x : Nat) (l : List Nat) : prodN (x :: l) = x * prodN l := by
  have := prodN_from l (1 * x)
  unfold prodN at this ⊢
  rw [List.foldl_cons, this, Nat.one_mul]
theorem prodN_nil : prodN [] = 1 := rfl
theorem prodN_append : ∀ (l m : List Nat), prodN (l ++ m) = prodN l * prodN m
  | [], m => by rw [List.nil_append, prodN_nil, Nat.one_mul]
  | x :: l, m => by rw [List.cons_append, prodN_cons, prodN_cons, prodN_append l m, Nat.mul_assoc]
theorem prodN_take {l : List Nat} {k : Nat} (h : k < l.length) : prodN (l.take (k + 1)) = prodN (l.take k) * l[k] := by
  unfold prodN; rw [foldl_snoc _ _ _ _ h]
theorem prodN_pos : ∀ {l : List Nat}, (∀ x ∈ l, 1 ≤ x) → 1 ≤ prodN l
  | [], _ => Nat.le_refl _
  | x :: l, h => by
    rw [prodN_cons]
    exact Nat.mul_le_mul (h x (by simp)) (prodN_pos fun y hy => h y (by simp [hy]))
theorem prodN_le : ∀ {l : List Nat}, (∀ x ∈ l, x ≤ 1000000) → prodN l ≤ 1000000 ^ l.length
  | [], _ => Nat.le_refl _
  | x :: l, h => by
    rw [prodN_cons, List.length_cons, Nat.pow_succ, Nat.mul_comm (1000000 ^ l.length)]
    exact Nat.mul_le_mul (h x (by simp)) (prodN_le fun y hy => h y (by simp [hy]))
theorem prodN_set : ∀ {l : List Nat} {i : Nat} (h : i < l.length) (x : Nat), prodN (l.set i x) * l[i] = prodN l * x
  | a :: l, 0, _, x => by
    rw [List.set_cons_zero, prodN_cons, prodN_cons, List.getElem_cons_zero, Nat.mul_right_comm, Nat.mul_comm x a, Nat.mul_right_comm]
  | a :: l, i + 1, h, x => by
    have := prodN_set (l := l) (i := i) (by simpa using h) x
    rw [List.set_cons_succ, prodN_cons, prodN_cons, List.getElem_cons_succ, Nat.mul_assoc, this, Nat.mul_assoc]
theorem coprime_prod {x : Nat} : ∀ {m : List Nat}, (∀ y ∈ m, Nat.Coprime x y) → Nat.Coprime x (prodN m)
  | [], _ => Nat.coprime_one_right x
  | y :: m, h => by
    rw [prodN_cons]
    exact Nat.Coprime.mul_right (h y (by simp)) (coprime_prod fun z hz => h z (by simp [hz]))
theorem coprime_prods : ∀ {l m : List Nat}, (∀ x ∈ l, ∀ y ∈ m, Nat.Coprime x y) → Nat.Coprime (prodN l) (prodN m)
  | [], m, _ => Nat.coprime_one_left (prodN m)
  | x :: l, m, h => by
    rw [prodN_cons]
    exact Nat.Coprime.mul_left (coprime_prod (h x (by simp))) (coprime_prods fun z hz => h z (by simp [hz]))

/-- A number over another one in lowest terms: both, and the fault if one is too large. -/
def lowest (P Q : Nat) : Int × Int × Int :=
  if P / Nat.gcd P Q ≤ 1000000000000000 ∧ Q / Nat.gcd P Q ≤ 1000000000000000 then (((P / Nat.gcd P Q : Nat) : Int), ((Q / Nat.gcd P Q : Nat) : Int), 0) else (0, 0, 1)
theorem lowest_of {A B P Q : Nat} (hA : 0 < A) (hc : Nat.Coprime A B) (h : A * Q = P * B) (hQ : 0 < Q) (hB : 0 < B) : P / Nat.gcd P Q = A ∧ Q / Nat.gcd P Q = B := by
  have h1 : A ∣ P := hc.dvd_of_dvd_mul_right (h ▸ Nat.dvd_mul_right A Q)
  obtain ⟨c, rfl⟩ := h1
  have h2 : Q = B * c := by
    rw [Nat.mul_assoc] at h
    have := Nat.eq_of_mul_eq_mul_left hA h
    rw [this, Nat.mul_comm]
  subst h2
  have hcp : 0 < c := Nat.pos_of_mul_pos_left hQ
  have e : Nat.gcd (A * c) (B * c) = c := by rw [Nat.gcd_mul_right, hc, Nat.one_mul]
  rw [e, Nat.mul_div_cancel _ hcp, Nat.mul_div_cancel _ hcp]
  exact ⟨rfl, rfl⟩

/-- Two rows of factors, cancelled up to a place. -/
def gA (l : List Nat) (j : Nat) : Nat := l.getD j 1
structure Canc (N0 D0 N D : List Nat) (i k : Nat) : Prop where
  ln : N.length = N0.length
  ld : D.length = D0.length
  bn : ∀ x ∈ N, 1 ≤ x ∧ x ≤ 1000000
  bd : ∀ x ∈ D, 1 ≤ x ∧ x ≤ 1000000
  eq : prodN N * prodN D0 = prodN N0 * prodN D
  c1 : ∀ a, a < i → ∀ b, b < D.length → Nat.Coprime (gA N a) (gA D b)
  c2 : ∀ b, b < k → Nat.Coprime (gA N i) (gA D b)
theorem gA_get {l : List Nat} {j : Nat} (h : j < l.length) : l[j] = gA l j := by
  unfold gA; rw [List.getD_eq_getElem?_getD, List.getElem?_eq_getElem h]; rfl
theorem gA_set {l : List Nat} {i j x : Nat} (h : i < l.length) : gA (l.set i x) j = if i = j then x else gA l j := by
  unfold gA
  rw [List.getD_eq_getElem?_getD, List.getD_eq_getElem?_getD, List.getElem?_set]
  by_cases e : i = j
  · subst e; simp [h]
  · simp [e]
theorem mem_gA {l : List Nat} {j : Nat} (h : j < l.length) : gA l j ∈ l := by rw [← gA_get h]; exact List.getElem_mem h
theorem Canc.start {N0 D0 : List Nat} (bn : ∀ x ∈ N0, 1 ≤ x ∧ x ≤ 1000000) (bd : ∀ x ∈ D0, 1 ≤ x ∧ x ≤ 1000000) : Canc N0 D0 N0 D0 0 0 :=
  ⟨rfl, rfl, bn, bd, rfl, fun a h => by omega, fun b h => by omega⟩
theorem Canc.row {N0 D0 N D : List Nat} {i k : Nat} (h : Canc N0 D0 N D i k) (hk : k = D0.length) : Canc N0 D0 N D (i + 1) 0 :=
  ⟨h.ln, h.ld, h.bn, h.bd, h.eq, fun a ha b hb => by
    rcases Nat.lt_or_ge a i with g | g
    · exact h.c1 a g b hb
    · rw [show a = i by omega]; exact h.c2 b (by rw [hk, ← h.ld]; exact hb), fun b h => by omega⟩
theorem Canc.step {N0 D0 N D : List Nat} {i k : Nat} (h : Canc N0 D0 N D i k) (hi : i < N0.length) (hk : k < D0.length) :
    Canc N0 D0 (N.set i (gA N i / Nat.gcd (gA N i) (gA D k))) (D.set k (gA D k / Nat.gcd (gA N i) (gA D k))) i (k + 1) := by
  have hi' : i < N.length := by rw [h.ln]; exact hi
  have hk' : k < D.length := by rw [h.ld]; exact hk
  have b1 := h.bn _ (mem_gA hi')
  have b2 := h.bd _ (mem_gA hk')
  have e1 := prodN_set hi' (gA N i / Nat.gcd (gA N i) (gA D k))
  have e2 := prodN_set hk' (gA D k / Nat.gcd (gA N i) (gA D k))
  rw [gA_get] at e1 e2
  have d1 : Nat.gcd (gA N i) (gA D k) ∣ gA N i := Nat.gcd_dvd_left _ _
  have d2 : Nat.gcd (gA N i) (gA D k) ∣ gA D k := Nat.gcd_dvd_right _ _
  have g0 : 0 < Nat.gcd (gA N i) (gA D k) := Nat.gcd_pos_of_pos_left _ (by omega)
  have hcop : Nat.Coprime (gA N i / Nat.gcd (gA N i) (gA D k)) (gA D k / Nat.gcd (gA N i) (gA D k)) := Nat.coprime_div_gcd_div_gcd g0
  generalize hx : gA N i / Nat.gcd (gA N i) (gA D k) = x at *
  generalize hy : gA D k / Nat.gcd (gA N i) (gA D k) = y at *
  have m1 : gA N i = x * Nat.gcd (gA N i) (gA D k) := by rw [← hx, Nat.div_mul_cancel d1]
  have m2 : gA D k = y * Nat.gcd (gA N i) (gA D k) := by rw [← hy, Nat.div_mul_cancel d2]
  generalize hg : Nat.gcd (gA N i) (gA D k) = g at *
  have x0 : 0 < x := by rcases Nat.eq_zero_or_pos x with z | z; (rw [z] at m1; omega); exact z
  have y0 : 0 < y := by rcases Nat.eq_zero_or_pos y with z | z; (rw [z] at m2; omega); exact z
  have xle : x ≤ gA N i := by rw [m1]; exact Nat.le_mul_of_pos_right _ g0
  have yle : y ≤ gA D k := by rw [m2]; exact Nat.le_mul_of_pos_right _ g0
  have p1 : prodN N = prodN (N.set i x) * g := by
    apply Nat.eq_of_mul_eq_mul_right x0
    rw [← e1, Nat.mul_assoc, Nat.mul_comm g x, ← m1]
  have p2 : prodN D = prodN (D.set k y) * g := by
    apply Nat.eq_of_mul_eq_mul_right y0
    rw [← e2, Nat.mul_assoc, Nat.mul_comm g y, ← m2]
  have he := h.eq
  refine ⟨by simp [h.ln], by simp [h.ld], ?_, ?_, ?_, ?_, ?_⟩
  · intro z hz
    rcases List.mem_or_eq_of_mem_set hz with g | g
    · exact h.bn z g
    · subst g; omega
  · intro z hz
    rcases List.mem_or_eq_of_mem_set hz with g | g
    · exact h.bd z g
    · subst g; omega
  · rw [p1, p2] at he
    apply Nat.eq_of_mul_eq_mul_right g0
    rw [Nat.mul_right_comm, he, Nat.mul_assoc]
  · intro a ha b hb
    rw [gA_set hi', if_neg (by omega), gA_set hk']
    have hb' : b < D.length := by simpa using hb
    split
    · next e =>
      subst e
      exact Nat.Coprime.coprime_dvd_right ⟨g, m2⟩ (h.c1 a ha k hk')
    · exact h.c1 a ha b hb'
  · intro b hb
    rw [gA_set hi', if_pos rfl, gA_set hk']
    split
    · next e =>
      exact hcop
    · exact Nat.Coprime.coprime_dvd_left ⟨g, m1⟩ (h.c2 b (by omega))
theorem Canc.done {N0 D0 N D : List Nat} {i : Nat} (h : Canc N0 D0 N D i 0) (hi : i = N0.length) (h0 : ∀ x ∈ D0, 1 ≤ x) :
    prodN N0 / Nat.gcd (prodN N0) (prodN D0) = prodN N ∧ prodN D0 / Nat.gcd (prodN N0) (prodN D0) = prodN D := by
  refine lowest_of (prodN_pos fun x hx => (h.bn x hx).1) (coprime_prods ?_) h.eq (prodN_pos h0) (prodN_pos fun x hx => (h.bd x hx).1)
  intro x hx y hy
  obtain ⟨a, ha, rfl⟩ := List.getElem_of_mem hx
  obtain ⟨b, hb, rfl⟩ := List.getElem_of_mem hy
  rw [gA_get, gA_get]
  exact h.c1 a (by rw [hi, ← h.ln]; exact ha) b hb

/-! ### Factors -/
def chL (us : List Unt) (i : Nat) : List Nat := (chainU us i).getD []
def xU (us : List Unt) (j : Nat) : Nat := (uA us j).num.toNat
def yU (us : List Unt) (j : Nat) : Nat := (uA us j).den.toNat
/-- What multiplies on the way from one number to another one. -/
def topL (us : List Unt) (i k : Nat) : List Nat := (chL us i).map (xU us) ++ (chL us k).map (yU us)
def botL (us : List Unt) (i k : Nat) : List Nat := (chL us i).map (yU us) ++ (chL us k).map (xU us)
def facF (us : List Unt) (x y : List UInt8) : Int :=
  if chkU us ≠ 0 then chkU us else
  match idxU us x, idxU us y with
  | some i, some k => if (chL us i).getLast? ≠ (chL us k).getLast? then 6 else 0
  | _, _ => 5
def ratR (us : List Unt) (x y : List UInt8) : Int × Int × Int :=
  if facF us x y ≠ 0 then (0, 0, facF us x y)
  else lowest (prodN (topL us ((idxU us x).getD 0) ((idxU us y).getD 0))) (prodN (botL us ((idxU us x).getD 0) ((idxU us y).getD 0)))

theorem bot_top (us : List Unt) (i k : Nat) : prodN (botL us i k) = prodN (topL us k i) := by
  unfold botL topL; rw [prodN_append, prodN_append, Nat.mul_comm]
theorem lowest_swap {P Q : Nat} : (lowest P Q).2.2 = (lowest Q P).2.2 ∧ (lowest P Q).1 = (lowest Q P).2.1 := by
  unfold lowest
  rw [Nat.gcd_comm P Q]
  by_cases h : P / Nat.gcd Q P ≤ 1000000000000000 ∧ Q / Nat.gcd Q P ≤ 1000000000000000
  · rw [if_pos h, if_pos ⟨h.2, h.1⟩]; exact ⟨rfl, rfl⟩
  · rw [if_neg h, if_neg (fun g => h ⟨g.2, g.1⟩)]; exact ⟨rfl, rfl⟩
theorem facF_swap (us : List Unt) (x y : List UInt8) : facF us x y = facF us y x := by
  unfold facF
  split
  · rfl
  · cases idxU us x <;> cases idxU us y <;> simp only [ne_eq, eq_comm]
theorem rat_swap (us : List Unt) (x y : List UInt8) : (ratR us x y).2.2 = (ratR us y x).2.2 ∧ (ratR us x y).1 = (ratR us y x).2.1 := by
  unfold ratR
  rw [facF_swap us x y]
  by_cases h : facF us y x ≠ 0
  · rw [if_pos h, if_pos h]; exact ⟨rfl, rfl⟩
  · rw [if_neg h, if_neg h, bot_top, bot_top]
    exact lowest_swap
theorem lowest_fault {P Q : Nat} : (lowest P Q).2.2 = 0 ∨ (lowest P Q).2.2 = 1 := by
  unfold lowest; split <;> simp

theorem chkU_ok {us : List Unt} (h : chkU us = 0) : us.length ≤ 200 ∧ (∀ i, i < us.length → uFault us i = 0) ∧ (∀ i, i < us.length → knownU us i = true) ∧ (∀ i, i < us.length → chF us i = 0) := by
  unfold chkU at h
  split at h
  · simp at h
  · split at h
    · rename_i h1 h2; exact absurd h h2
    · split at h
      · simp at h
      · rename_i h1 h2 h3
        have h2 : firstF (uFault us) us.length = 0 := by omega
        have h3 : firstF (fun i => if knownU us i then 0 else 9) us.length = 0 := by omega
        refine ⟨by omega, ?_, ?_, ?_⟩
        · rcases firstF_cases (uFault us) us.length with ⟨_, g⟩ | ⟨m, _, g1, g2, _⟩
          · exact g
          · rw [h2] at g1; exact absurd g1.symm g2
        · rcases firstF_cases (fun i => if knownU us i then 0 else 9) us.length with ⟨_, g⟩ | ⟨m, _, g1, g2, _⟩
          · intro i hi
            have := g i hi
            simpa using this
          · rw [h3] at g1; exact absurd g1.symm g2
        · rcases firstF_cases (chF us) us.length with ⟨_, g⟩ | ⟨m, _, g1, g2, _⟩
          · exact g
          · rw [h] at g1; exact absurd g1.symm g2
theorem uFault_ok {us : List Unt} {i : Nat} (h : uFault us i = 0) : nameB (nmU us i) = true ∧ (0 < i → Lib.compareBytes (nmU us (i - 1)) (nmU us i) < 0) ∧ (1 ≤ (uA us i).num ∧ (uA us i).num ≤ 1000000) ∧ (1 ≤ (uA us i).den ∧ (uA us i).den ≤ 1000000) ∧ (ofU us i = [] → (uA us i).num = 1 ∧ (uA us i).den = 1) := by
  unfold uFault at h
  split at h
  · simp at h
  · split at h
    · simp at h
    · split at h
      · simp at h
      · split at h
        · simp at h
        · rename_i h1 h2 h3 h4
          refine ⟨by simpa using h1, ?_, ?_, ?_, ?_⟩
          · intro h0
            by_cases g : Lib.compareBytes (nmU us (i - 1)) (nmU us i) < 0
            · exact g
            · exact absurd ⟨h0, g⟩ h2
          · omega
          · omega
          · intro h0
            constructor
            · by_cases g : (uA us i).num = 1
              · exact g
              · exact absurd ⟨h0, .inl g⟩ h4
            · by_cases g : (uA us i).den = 1
              · exact g
              · exact absurd ⟨h0, .inr g⟩ h4
theorem chkU_sort {us : List Unt} (h : ∀ i, i < us.length → uFault us i = 0) : SortU us := sortU_of fun i h0 hi => (uFault_ok (h i hi)).2.1 h0
theorem chF_ok {us : List Unt} {i : Nat} (h : chF us i = 0) : ∃ c, chainU us i = some c ∧ c.length ≤ 5 := by
  unfold chF at h
  cases hc : chainU us i with
  | none => rw [hc] at h; simp at h
  | some c =>
    rw [hc] at h
    refine ⟨c, rfl, ?_⟩
    by_cases g : 5 < c.length
    · simp [g] at h
    · omega
theorem chainF_lt {nx : Nat → Option Nat} {n : Nat} (h : ∀ i j, nx i = some j → j < n) : ∀ (f i : Nat) (c : List Nat), i < n → chainF nx f i = some c → ∀ x ∈ c, x < n := by
  intro f
  induction f with
  | zero =>
    intro i c hi hc x hx
    unfold chainF at hc
    split at hc
    · injection hc with hc; subst hc; simp at hx; omega
    · cases hc
  | succ f ih =>
    intro i c hi hc x hx
    unfold chainF at hc
    split at hc
    · injection hc with hc; subst hc; simp at hx; omega
    · rename_i j e
      cases hc2 : chainF nx f j with
      | none => rw [hc2] at hc; simp at hc
      | some c2 =>
        rw [hc2] at hc
        simp at hc
        subst hc
        rcases List.mem_cons.1 hx with rfl | hx
        · exact hi
        · exact ih j c2 (h i j e) hc2 x hx
theorem nxtU_lt {us : List Unt} {i j : Nat} (h : nxtU us i = some j) : j < us.length := by
  unfold nxtU at h
  split at h
  · cases h
  · exact (idxU_some h).1
theorem chL_ok {us : List Unt} (h : chkU us = 0) {i : Nat} (hi : i < us.length) : chainU us i = some (chL us i) ∧ (chL us i).length ≤ 5 ∧ ∀ x ∈ chL us i, x < us.length := by
  obtain ⟨_, _, _, h4⟩ := chkU_ok h
  obtain ⟨c, hc, hl⟩ := chF_ok (h4 i hi)
  have e : chL us i = c := by unfold chL; rw [hc]; rfl
  rw [e]
  exact ⟨hc, hl, chainF_lt (fun i j => nxtU_lt) _ _ _ hi hc⟩
theorem fac_bounds {us : List Unt} (h : chkU us = 0) {i : Nat} (hi : i < us.length) : (1 ≤ xU us i ∧ xU us i ≤ 1000000) ∧ (1 ≤ yU us i ∧ yU us i ≤ 1000000) ∧ ((xU us i : Nat) : Int) = (uA us i).num ∧ ((yU us i : Nat) : Int) = (uA us i).den := by
  obtain ⟨_, h2, _⟩ := chkU_ok h
  obtain ⟨_, _, h3, h4, _⟩ := uFault_ok (h2 i hi)
  unfold xU yU
  omega
theorem top_bounds {us : List Unt} (h : chkU us = 0) {i k : Nat} (hi : i < us.length) (hk : k < us.length) : (∀ x ∈ topL us i k, 1 ≤ x ∧ x ≤ 1000000) ∧ (topL us i k).length ≤ 10 ∧ (∀ x ∈ botL us i k, 1 ≤ x ∧ x ≤ 1000000) ∧ (botL us i k).length ≤ 10 := by
  obtain ⟨_, l1, b1⟩ := chL_ok h hi
  obtain ⟨_, l2, b2⟩ := chL_ok h hk
  refine ⟨?_, by unfold topL; simp; omega, ?_, by unfold botL; simp; omega⟩
  · intro x hx
    unfold topL at hx
    rcases List.mem_append.1 hx with g | g
    · obtain ⟨j, hj, rfl⟩ := List.mem_map.1 g
      exact (fac_bounds h (b1 j hj)).1
    · obtain ⟨j, hj, rfl⟩ := List.mem_map.1 g
      exact (fac_bounds h (b2 j hj)).2.1
  · intro x hx
    unfold botL at hx
    rcases List.mem_append.1 hx with g | g
    · obtain ⟨j, hj, rfl⟩ := List.mem_map.1 g
      exact (fac_bounds h (b1 j hj)).2.1
    · obtain ⟨j, hj, rfl⟩ := List.mem_map.1 g
      exact (fac_bounds h (b2 j hj)).1
/-- A unit in itself. -/
theorem rat_self {us : List Unt} (h : chkU us = 0) {x : List UInt8} {i : Nat} (hi : idxU us x = some i) : ratR us x x = (1, 1, 0) := by
  have e : facF us x x = 0 := by
    unfold facF
    rw [if_neg (by omega), hi]
    simp
  unfold ratR
  rw [if_neg (by omega), hi, Option.getD_some, bot_top]
  have hp : 0 < prodN (topL us i i) := prodN_pos fun y hy => ((top_bounds h (idxU_some hi).1 (idxU_some hi).1).1 y hy).1
  unfold lowest
  rw [Nat.gcd_self, Nat.div_self hp]
  rfl
end Go.Proofs.YtfgnollclmimnaaGreatDoor
