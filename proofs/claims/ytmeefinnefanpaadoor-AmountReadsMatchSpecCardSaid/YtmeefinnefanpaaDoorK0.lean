
/- Plain facts on numbers with check digits. No program in sight. -/
namespace Go.Proofs.YtmeefinnefanpaaDoor.Nmb
set_option linter.unusedVariables false

/-- The byte at a place, and its digit. -/
def byA (l : List UInt8) (i : Nat) : Int := ((l.getD i 48).toNat : Int)
def dgt (l : List UInt8) (i : Nat) : Int := byA l i - 48
theorem byA_bd (l : List UInt8) (i : Nat) : 0 ≤ byA l i ∧ byA l i ≤ 255 := by
  unfold byA
  have := (l.getD i 48).toNat_lt
  omega
theorem byA_get {l : List UInt8} {i : Nat} (h : i < l.length) : byA l i = (l[i].toNat : Int) := by
  unfold byA
  rw [List.getD_eq_getElem?_getD, List.getElem?_eq_getElem h]; rfl
def sumF (f : Nat → Int) : Nat → Int
  | 0 => 0
  | k + 1 => sumF f k + f k
theorem sumF_congr {f g : Nat → Int} {n : Nat} (h : ∀ i, i < n → f i = g i) : sumF f n = sumF g n := by
  induction n with
  | zero => rfl
  | succ n ih => rw [sumF, sumF, ih (fun i hi => h i (by omega)), h n (by omega)]
/-- The weight of a place, from the right. -/
def tr (i : Nat) : Int := if i % 2 = 1 then 3 else 1
theorem tr_cases (i : Nat) : (i % 2 = 1 ∧ tr i = 3) ∨ (i % 2 = 0 ∧ tr i = 1) := by
  unfold tr; split <;> omega
def wt (l : List UInt8) (i : Nat) : Int := dgt l (l.length - 1 - i) * tr i
def sumB (l : List UInt8) : Bool := decide (sumF (wt l) l.length % 10 = 0)
/-- All bytes from a low one to a high one. -/
def inL (l : List UInt8) (a b : Int) : Bool := decide (∀ i, i < l.length → a ≤ byA l i ∧ byA l i ≤ b)
theorem inL_yes {l : List UInt8} {a b : Int} (h : inL l a b = true) {i : Nat} (hi : i < l.length) : a ≤ byA l i ∧ byA l i ≤ b := of_decide_eq_true h i hi
theorem inL_mk {l : List UInt8} {a b : Int} (h : ∀ i, i < l.length → a ≤ byA l i ∧ byA l i ≤ b) : inL l a b = true := decide_eq_true h
theorem inL_no {l : List UInt8} {a b : Int} {i : Nat} (hi : i < l.length) (h : ¬ (a ≤ byA l i ∧ byA l i ≤ b)) : inL l a b = false := decide_eq_false (fun k => h (k i hi))
def digs (l : List UInt8) : Bool := inL l 48 57 && !l.isEmpty
theorem digs_yes {l : List UInt8} (h : digs l = true) : 0 < l.length ∧ ∀ i, i < l.length → 0 ≤ dgt l i ∧ dgt l i ≤ 9 := by
  unfold digs at h
  rw [Bool.and_eq_true] at h
  refine ⟨?_, fun i hi => ?_⟩
  · cases l with
    | nil => simp at h
    | cons a b => simp
  · have := inL_yes h.1 hi
    unfold dgt
    omega
theorem digs_mk {l : List UInt8} (h0 : 0 < l.length) (h : ∀ i, i < l.length → 0 ≤ dgt l i ∧ dgt l i ≤ 9) : digs l = true := by
  unfold digs
  rw [inL_mk (fun i hi => by have := h i hi; unfold dgt at this; omega)]
  cases l with
  | nil => simp at h0
  | cons a b => rfl
/-- Capital letters and digits. -/
def tagC (c : Int) : Bool := decide ((65 ≤ c ∧ c ≤ 90) ∨ (48 ≤ c ∧ c ≤ 57))
def tagL (l : List UInt8) : Bool := l.all fun c => tagC (c.toNat : Int)
theorem tagL_at {l : List UInt8} (h : tagL l = true) {i : Nat} (hi : i < l.length) : (65 ≤ byA l i ∧ byA l i ≤ 90) ∨ (48 ≤ byA l i ∧ byA l i ≤ 57) := by
  unfold tagL at h
  rw [List.all_eq_true] at h
  have := h l[i] (List.getElem_mem hi)
  rw [byA_get hi]
  exact of_decide_eq_true this

/-! ### What a number of a bank leaves -/
def stBk (r c : Int) : Int := if 65 ≤ c then (r * 100 + (c - 65) + 10) % 97 else (r * 10 + (c - 48)) % 97
theorem stBk_bd (r c : Int) : 0 ≤ stBk r c ∧ stBk r c ≤ 96 := by unfold stBk; split <;> omega
theorem stBk_inj {r r' c : Int} (h1 : 0 ≤ r ∧ r ≤ 96) (h2 : 0 ≤ r' ∧ r' ≤ 96) (h : stBk r c = stBk r' c) : r = r' := by
  unfold stBk at h; split at h <;> omega
theorem stBk_dig {r c c' : Int} (h1 : 48 ≤ c ∧ c ≤ 57) (h2 : 48 ≤ c' ∧ c' ≤ 57) (h : stBk r c = stBk r c') : c = c' := by
  unfold stBk at h; rw [if_neg (by omega), if_neg (by omega)] at h; omega
def restF : List UInt8 → Int → Int
  | [], r => r
  | c :: l, r => restF l (stBk r (c.toNat : Int))
theorem restF_append (a b : List UInt8) (r : Int) : restF (a ++ b) r = restF b (restF a r) := by
  induction a generalizing r with
  | nil => rfl
  | cons c a ih => exact ih _
theorem restF_bd {l : List UInt8} {r : Int} (h : 0 ≤ r ∧ r ≤ 96) : 0 ≤ restF l r ∧ restF l r ≤ 96 := by
  induction l generalizing r with
  | nil => exact h
  | cons c l ih => exact ih (stBk_bd _ _)
theorem restF_inj {l : List UInt8} {r r' : Int} (h1 : 0 ≤ r ∧ r ≤ 96) (h2 : 0 ≤ r' ∧ r' ≤ 96) (h : restF l r = restF l r') : r = r' := by
  induction l generalizing r r' with
  | nil => exact h
  | cons c l ih => exact stBk_inj h1 h2 (ih (stBk_bd _ _) (stBk_bd _ _) h)
/-- The step at a place. -/
theorem restF_take {l : List UInt8} {k : Nat} (h : k < l.length) (r : Int) : restF (l.take (k + 1)) r = stBk (restF (l.take k) r) (byA l k) := by
  rw [List.take_succ_eq_append_getElem h, restF_append, byA_get h]; rfl
/-- The reference's: the values of letters as digits, then the remainder. -/
def valC (c : UInt8) : List UInt8 := if 65 ≤ (c.toNat : Int) ∧ (c.toNat : Int) ≤ 90 then [UInt8.ofNat (48 + (c.toNat - 55) / 10), UInt8.ofNat (48 + (c.toNat - 55) % 10)] else [c]
def vals (l : List UInt8) : List UInt8 := l.flatMap valC
def remF : List UInt8 → Int → Int
  | [], r => r
  | c :: l, r => remF l ((10 * r + ((c.toNat : Int) - 48)) % 97)
theorem remF_append (a b : List UInt8) (r : Int) : remF (a ++ b) r = remF b (remF a r) := by
  induction a generalizing r with
  | nil => rfl
  | cons c a ih => exact ih _
theorem remF_take {l : List UInt8} {k : Nat} (h : k < l.length) (r : Int) : remF (l.take (k + 1)) r = (10 * remF (l.take k) r + dgt l k) % 97 := by
  rw [List.take_succ_eq_append_getElem h, remF_append]
  unfold dgt
  rw [byA_get h]
  rfl
theorem ofNat_toNat {n : Nat} (h : n < 256) : ((UInt8.ofNat n).toNat : Int) = n := by
  rw [UInt8.toNat_ofNat_of_lt' (by simpa using h)]
theorem vals_rem {l : List UInt8} (h : tagL l = true) {r : Int} (hr : 0 ≤ r ∧ r ≤ 96) : remF (vals l) r = restF l r := by
  induction l generalizing r with
  | nil => rfl
  | cons c l ih =>
    unfold tagL at h
    rw [List.all_cons, Bool.and_eq_true] at h
    have hc := of_decide_eq_true h.1
    have hcn := c.toNat_lt
    show remF (valC c ++ vals l) r = restF l (stBk r (c.toNat : Int))
    rw [remF_append]
    have e : remF (valC c) r = stBk r (c.toNat : Int) := by
      unfold valC stBk
      by_cases hk : 65 ≤ (c.toNat : Int) ∧ (c.toNat : Int) ≤ 90
      · rw [if_pos hk, if_pos hk.1]
        show (10 * ((10 * r + (((UInt8.ofNat (48 + (c.toNat - 55) / 10)).toNat : Int) - 48)) % 97) + (((UInt8.ofNat (48 + (c.toNat - 55) % 10)).toNat : Int) - 48)) % 97 = _
        rw [ofNat_toNat (by omega), ofNat_toNat (by omega)]
        omega
      · rw [if_neg hk, if_neg (by omega)]
        show (10 * r + ((c.toNat : Int) - 48)) % 97 = _
        omega
    rw [e]
    exact ih h.2 (stBk_bd _ _)

/-! ### The digit of a tax number -/
def stTx (p c : Int) : Int := 2 * (if (c - 48 + p) % 10 = 0 then 10 else (c - 48 + p) % 10) % 11
theorem stTx_bd {p c : Int} (hc : 48 ≤ c) (hp : 0 ≤ p) : 1 ≤ stTx p c ∧ stTx p c ≤ 10 := by unfold stTx; split <;> omega
theorem stTx_inj {p p' c : Int} (h1 : 1 ≤ p ∧ p ≤ 10) (h2 : 1 ≤ p' ∧ p' ≤ 10) (hc : 48 ≤ c ∧ c ≤ 57) (h : stTx p c = stTx p' c) : p = p' := by
  unfold stTx at h; split at h <;> split at h <;> omega
theorem stTx_dig {p c c' : Int} (h1 : 1 ≤ p ∧ p ≤ 10) (hc : 48 ≤ c ∧ c ≤ 57) (hc' : 48 ≤ c' ∧ c' ≤ 57) (h : stTx p c = stTx p c') : c = c' := by
  unfold stTx at h; split at h <;> split at h <;> omega
def taxP (l : List UInt8) : Nat → Int
  | 0 => 10
  | k + 1 => stTx (taxP l k) (byA l k)
theorem taxP_bd {l : List UInt8} {k : Nat} (h : ∀ i, i < k → 48 ≤ byA l i) : 1 ≤ taxP l k ∧ taxP l k ≤ 10 := by
  induction k with
  | zero => show 1 ≤ (10 : Int) ∧ (10 : Int) ≤ 10; decide
  | succ k ih =>
    have a := ih (fun i hi => h i (by omega))
    exact stTx_bd (h k (by omega)) (by omega)
def taxD (l : List UInt8) : Int := 48 + (11 - taxP l 10) % 10

/-! ### Numbers -/
def lenB (kind : Int) (n : Nat) : Bool := if kind = 1 then decide (n = 8 ∨ n = 12 ∨ n = 13 ∨ n = 14) else if kind = 2 then decide (n = 13) else decide (n = 18)
def plainB (kind : Int) (l : List UInt8) : Bool := lenB kind l.length && (digs l && sumB l)
/-- The form of a number of a bank. -/
def bankForm (l : List UInt8) : Bool := decide (15 ≤ l.length ∧ l.length ≤ 34) && (inL (l.take 2) 65 90 && (inL ((l.drop 2).take 2) 48 57 && tagL (l.drop 4)))
def bankR (l : List UInt8) : Int := restF (l.drop 4 ++ l.take 4) 0
def bankC (l : List UInt8) : Int := 10 * dgt l 2 + dgt l 3
def bankB (l : List UInt8) : Bool := bankForm l && decide (bankR l = 1 ∧ 2 ≤ bankC l ∧ bankC l ≤ 98)
def taxB (l : List UInt8) : Bool := decide (l.length = 11) && (digs l && decide (byA l 0 ≠ 48 ∧ taxD l = byA l 10))
def numB (kind : Int) (l : List UInt8) : Bool := if kind = 4 then bankB l else if kind = 5 then taxB l else plainB kind l
end Go.Proofs.YtmeefinnefanpaaDoor.Nmb
