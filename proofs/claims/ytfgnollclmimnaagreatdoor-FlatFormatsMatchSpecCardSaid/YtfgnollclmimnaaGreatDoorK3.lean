/- Plain laws on numbers with check digits: the completed one, and mistakes. No program in sight. The walks of package amount's numbers: isSum, taxDigit, bankRestOf. The walks of package amount's numbers: bankRestOf, isBank, isTax, isNumber, IsNumber, Widened. -/
import Derived.Test.YtfgnollclmimnaaGreatDoorU2
import Derived.Test.YtfgnollclmimnaaGreatDoorShelf
import Derived.Test.YtfgnollclmimnaaGreatDoorRW
import Derived.Test.YtfgnollclmimnaaGreatDoorJ3
import Derived.WalkLawsBesides
import Derived.Deep.QuietTactic
import Derived.BigQuiet
import Derived.Laws.IdiomStrings
-- merged: K1 K2 K3

namespace Go.Proofs.YtfgnollclmimnaaGreatDoor.Nmb
set_option linter.unusedVariables false

theorem byA_left {a b : List UInt8} {i : Nat} (h : i < a.length) : byA (a ++ b) i = byA a i := by
  unfold byA
  rw [List.getD_eq_getElem?_getD, List.getD_eq_getElem?_getD, List.getElem?_append_left h]
theorem byA_right {a b : List UInt8} {i : Nat} (h : a.length ≤ i) : byA (a ++ b) i = byA b (i - a.length) := by
  unfold byA
  rw [List.getD_eq_getElem?_getD, List.getD_eq_getElem?_getD, List.getElem?_append_right h]
theorem byA_take {a : List UInt8} {i n : Nat} (h : i < n) : byA (a.take n) i = byA a i := by
  unfold byA
  rw [List.getD_eq_getElem?_getD, List.getD_eq_getElem?_getD, List.getElem?_take, if_pos h]
theorem byA_drop {a : List UInt8} {i n : Nat} : byA (a.drop n) i = byA a (n + i) := by
  unfold byA
  rw [List.getD_eq_getElem?_getD, List.getD_eq_getElem?_getD, List.getElem?_drop]
/-- A digit's byte. -/
def dB (d : Nat) : UInt8 := UInt8.ofNat (48 + d)
theorem dB_nat {d : Nat} (h : d ≤ 9) : ((dB d).toNat : Int) = 48 + d := by
  unfold dB
  rw [ofNat_toNat (by omega)]
  omega

/-! ### The completed number -/
def compT (kind : Int) (l : List UInt8) : Nat → Nat → Option (List UInt8)
  | 0, _ => none
  | k + 1, d => if numB kind (l ++ [dB d]) = true then some (l ++ [dB d]) else compT kind l k (d + 1)
theorem compT_hit {kind : Int} {l : List UInt8} : ∀ (k d j : Nat), d ≤ j → j < d + k → numB kind (l ++ [dB j]) = true → (∀ i, d ≤ i → i < j → numB kind (l ++ [dB i]) = false) → compT kind l k d = some (l ++ [dB j])
  | 0, d, j, h1, h2, _, _ => by omega
  | k + 1, d, j, h1, h2, h3, h4 => by
    rw [compT]
    by_cases e : d = j
    · subst e; rw [if_pos h3]
    · rw [if_neg (by rw [h4 d (by omega) (by omega)]; simp)]
      exact compT_hit k (d + 1) j (by omega) (by omega) h3 (fun i a b => h4 i (by omega) b)
theorem compT_none {kind : Int} {l : List UInt8} : ∀ (k d : Nat), (∀ i, d ≤ i → i < d + k → numB kind (l ++ [dB i]) = false) → compT kind l k d = none
  | 0, d, _ => rfl
  | k + 1, d, h => by
    rw [compT, if_neg (by rw [h d (by omega) (by omega)]; simp)]
    exact compT_none k (d + 1) (fun i a b => h i (by omega) (by omega))
/-- The number of a bank with a body and a check. -/
def bankN (l : List UInt8) (n : Nat) : List UInt8 := l.take 2 ++ ([dB (n / 10), dB (n % 10)] ++ l.drop 2)
def chkN (l : List UInt8) : Nat := (98 - bankR (bankN l 0)).toNat
def compF (kind : Int) (l : List UInt8) : Option (List UInt8) :=
  if kind = 4 then (if 2 ≤ l.length ∧ bankB (bankN l (chkN l)) = true then some (bankN l (chkN l)) else none) else compT kind l 10 0

theorem comp_hit {kind : Int} {l : List UInt8} {n : Nat} (hk : kind ≠ 4) (h : numB kind (l ++ [dB (n % 10)]) = true) (h2 : ∀ m, m < n → numB kind (l ++ [dB (m % 10)]) = false) : compF kind l = some (l ++ [dB (n % 10)]) := by
  have hn : n < 10 := by
    rcases Nat.lt_or_ge n 10 with e | e
    · exact e
    · have := h2 (n % 10) (by omega)
      rw [Nat.mod_mod] at this
      rw [this] at h; cases h
  unfold compF
  rw [if_neg hk]
  rw [Nat.mod_eq_of_lt hn] at h ⊢
  refine compT_hit 10 0 n (by omega) (by omega) h (fun i a b => ?_)
  have := h2 i b
  rw [Nat.mod_eq_of_lt (by omega)] at this
  exact this
theorem comp_none {kind : Int} {l : List UInt8} (hk : kind ≠ 4) (h2 : ∀ m, m < 10 → numB kind (l ++ [dB (m % 10)]) = false) : compF kind l = none := by
  unfold compF
  rw [if_neg hk]
  refine compT_none 10 0 (fun i a b => ?_)
  have := h2 i (by omega)
  rw [Nat.mod_eq_of_lt (by omega)] at this
  exact this

theorem bankN_len {l : List UInt8} (n : Nat) (h : 2 ≤ l.length) : (bankN l n).length = l.length + 2 := by
  unfold bankN; simp; omega
theorem bankN_take2 {l : List UInt8} (n : Nat) (h : 2 ≤ l.length) : (bankN l n).take 2 = l.take 2 := by
  unfold bankN
  rw [List.take_append_of_le_length (by simp; omega), List.take_of_length_le (by simp; omega)]
theorem bankN_drop2 {l : List UInt8} (n : Nat) (h : 2 ≤ l.length) : (bankN l n).drop 2 = [dB (n / 10), dB (n % 10)] ++ l.drop 2 := by
  unfold bankN
  have e : (l.take 2).length = 2 := by simp; omega
  have := List.drop_left (l₁ := l.take 2) (l₂ := [dB (n / 10), dB (n % 10)] ++ l.drop 2)
  rw [e] at this
  exact this
theorem bankN_mid {l : List UInt8} (n : Nat) (h : 2 ≤ l.length) : ((bankN l n).drop 2).take 2 = [dB (n / 10), dB (n % 10)] := by
  rw [bankN_drop2 n h]; rfl
theorem bankN_drop4 {l : List UInt8} (n : Nat) (h : 2 ≤ l.length) : (bankN l n).drop 4 = l.drop 2 := by
  have : (bankN l n).drop 4 = ((bankN l n).drop 2).drop 2 := by rw [List.drop_drop]
  rw [this, bankN_drop2 n h]; rfl
theorem bankN_take4 {l : List UInt8} (n : Nat) (h : 2 ≤ l.length) : (bankN l n).take 4 = l.take 2 ++ [dB (n / 10), dB (n % 10)] := by
  have : (bankN l n).take (2 + 2) = (bankN l n).take 2 ++ ((bankN l n).drop 2).take 2 := List.take_add
  rw [show (4 : Nat) = 2 + 2 from rfl, this, bankN_take2 n h, bankN_mid n h]
theorem bankN_rest {l : List UInt8} {n : Nat} (h : 2 ≤ l.length) (hn : n ≤ 99) : bankR (bankN l n) = (100 * restF (l.drop 2 ++ l.take 2) 0 + n) % 97 := by
  unfold bankR
  rw [bankN_drop4 n h, bankN_take4 n h, ← List.append_assoc, restF_append]
  have hb := restF_bd (l := l.drop 2 ++ l.take 2) (r := 0) ⟨by decide, by decide⟩
  show stBk (stBk _ ((dB (n / 10)).toNat : Int)) ((dB (n % 10)).toNat : Int) = _
  rw [dB_nat (by omega), dB_nat (by omega)]
  unfold stBk
  rw [if_neg (by omega), if_neg (by omega)]
  omega
theorem bankN_chk {l : List UInt8} {n : Nat} (h : 2 ≤ l.length) (hn : n ≤ 99) : bankC (bankN l n) = n := by
  have hl : (l.take 2).length = 2 := by simp; omega
  unfold bankC dgt bankN
  rw [byA_right (i := 2) (by omega), byA_right (i := 3) (by omega), hl]
  show 10 * (((dB (n / 10)).toNat : Int) - 48) + (((dB (n % 10)).toNat : Int) - 48) = n
  rw [dB_nat (by omega), dB_nat (by omega)]
  omega
theorem chkN_bd {l : List UInt8} (h : 2 ≤ l.length) : 2 ≤ chkN l ∧ chkN l ≤ 98 := by
  unfold chkN
  rw [bankN_rest h (by omega)]
  omega
theorem chkN_rest {l : List UInt8} (h : 2 ≤ l.length) : bankR (bankN l (chkN l)) = 1 := by
  have hb := chkN_bd h
  rw [bankN_rest h (by omega)]
  unfold chkN at hb ⊢
  rw [bankN_rest h (by omega)] at hb ⊢
  omega
theorem bank_uniq {l : List UInt8} {n : Nat} (h : 2 ≤ l.length) (hn : n ≤ 99) (hb : bankB (bankN l n) = true) : n = chkN l := by
  unfold bankB at hb
  rw [Bool.and_eq_true] at hb
  obtain ⟨b1, b2, b3⟩ := of_decide_eq_true hb.2
  rw [bankN_chk h hn] at b2 b3
  rw [bankN_rest h hn] at b1
  unfold chkN
  rw [bankN_rest h (by omega)]
  omega
/-- The form does not tell the check. -/
theorem bank_form {l : List UInt8} (n m : Nat) (h : 2 ≤ l.length) (hn : n ≤ 99) (hm : m ≤ 99) : bankForm (bankN l n) = bankForm (bankN l m) := by
  unfold bankForm
  have hd : ∀ k, k ≤ 99 → inL [dB (k / 10), dB (k % 10)] 48 57 = true := by
    intro k hk
    refine inL_mk (fun i hi => ?_)
    have : i = 0 ∨ i = 1 := by simp at hi; omega
    rcases this with rfl | rfl
    · show 48 ≤ ((dB (k / 10)).toNat : Int) ∧ ((dB (k / 10)).toNat : Int) ≤ 57
      rw [dB_nat (by omega)]; omega
    · show 48 ≤ ((dB (k % 10)).toNat : Int) ∧ ((dB (k % 10)).toNat : Int) ≤ 57
      rw [dB_nat (by omega)]; omega
  rw [bankN_len n h, bankN_len m h, bankN_take2 n h, bankN_take2 m h, bankN_mid n h, bankN_mid m h, bankN_drop4 n h, bankN_drop4 m h, hd n hn, hd m hm]
theorem bank_yes {l : List UInt8} (h : 2 ≤ l.length) : bankB (bankN l (chkN l)) = bankForm (bankN l (chkN l)) := by
  unfold bankB
  have := chkN_bd h
  rw [chkN_rest h, bankN_chk h (by omega), decide_eq_true (by omega), Bool.and_true]
theorem tag_letters {l : List UInt8} (h : inL l 65 90 = true) : tagL l = true := by
  unfold tagL
  rw [List.all_eq_true]
  intro c hc
  obtain ⟨i, hi, rfl⟩ := List.getElem_of_mem hc
  have := inL_yes h hi
  rw [byA_get hi] at this
  exact decide_eq_true (Or.inl this)
/-- A body that has other bytes is of no number. -/
theorem bank_tag {l : List UInt8} (n : Nat) (h : 2 ≤ l.length) (hb : bankForm (bankN l n) = true) : tagL l = true ∧ 13 ≤ l.length ∧ l.length ≤ 32 := by
  unfold bankForm at hb
  rw [bankN_len n h, bankN_take2 n h, bankN_mid n h, bankN_drop4 n h] at hb
  simp only [Bool.and_eq_true] at hb
  obtain ⟨h1, h2, h3, h4⟩ := hb
  have := of_decide_eq_true h1
  refine ⟨?_, by omega, by omega⟩
  have a := tag_letters h2
  unfold tagL at a h4 ⊢
  rw [← List.take_append_drop 2 l, List.all_append, a, h4]
  rfl
theorem comp4_hit {l : List UInt8} {n : Nat} (h : 2 ≤ l.length) (hn : n ≤ 99) (hb : bankB (bankN l n) = true) : compF 4 l = some (bankN l n) := by
  have e := bank_uniq h hn hb
  unfold compF
  rw [if_pos rfl, ← e, if_pos ⟨h, hb⟩]
theorem comp4_none {l : List UInt8} (h : ∀ n, n < 100 → bankB (bankN l n) = false) : compF 4 l = none := by
  unfold compF
  rw [if_pos rfl, if_neg]
  rintro ⟨h1, h2⟩
  have := chkN_bd h1
  rw [h (chkN l) (by omega)] at h2; cases h2
theorem comp4_short {l : List UInt8} (h : l.length < 2) : compF 4 l = none := by
  unfold compF; rw [if_pos rfl, if_neg (by omega)]
theorem comp4_tag {l : List UInt8} (h : tagL l = false ∨ l.length < 13) : compF 4 l = none := by
  unfold compF
  rw [if_pos rfl, if_neg]
  rintro ⟨h1, h2⟩
  rw [bank_yes h1] at h2
  have := bank_tag _ h1 h2
  rcases h with h | h
  · rw [h] at this; cases this.1
  · omega
theorem comp_long {kind : Int} {l : List UInt8} (h : 34 < l.length) : compF kind l = none := by
  by_cases h4 : kind = 4
  · subst h4
    refine comp4_none (fun n hn => ?_)
    unfold bankB bankForm
    rw [bankN_len n (by omega), decide_eq_false (p := 15 ≤ l.length + 2 ∧ l.length + 2 ≤ 34) (by omega)]
    rfl
  · refine comp_none h4 (fun m hm => ?_)
    unfold numB
    rw [if_neg h4]
    split
    · unfold taxB
      rw [decide_eq_false (by simp; omega)]
      rfl
    · unfold plainB lenB
      rw [show (l ++ [dB (m % 10)]).length = l.length + 1 by simp]
      repeat' split
      all_goals (rw [decide_eq_false (by omega)]; rfl)
/-- A completed number is right. -/
theorem comp_right {kind : Int} {l s : List UInt8} (h : compF kind l = some s) : numB kind s = true := by
  unfold compF at h
  split at h
  · rename_i h4
    subst h4
    split at h
    · rename_i hb
      injection h with h
      rw [← h]
      show bankB _ = true
      exact hb.2
    · cases h
  · have key : ∀ (k d : Nat), compT kind l k d = some s → numB kind s = true := by
      intro k
      induction k with
      | zero => intro d hd; cases hd
      | succ k ih =>
        intro d hd
        rw [compT] at hd
        split at hd
        · rename_i hb
          injection hd with hd
          rw [← hd]; exact hb
        · exact ih _ hd
    exact key _ _ h

/-! ### Mistakes -/
/-- A number with another byte at a place. -/
theorem wt_other {l l' : List UInt8} {j : Nat} (hl : l'.length = l.length) (he : ∀ i, i ≠ j → byA l' i = byA l i) {i : Nat} (hi : i ≠ l.length - 1 - j) (hj : j < l.length) (hin : i < l.length) : wt l' i = wt l i := by
  unfold wt dgt
  rw [hl, he _ (by omega)]
theorem sumF_one {f g : Nat → Int} {n k : Nat} (hk : k < n) (h : ∀ i, i ≠ k → i < n → g i = f i) : sumF g n = sumF f n + (g k - f k) := by
  induction n with
  | zero => omega
  | succ n ih =>
    rw [sumF, sumF]
    by_cases e : k = n
    · subst e
      rw [sumF_congr (f := g) (g := f) (n := k) (fun i hi => h i (by omega) (by omega))]
      omega
    · rw [ih (by omega) (fun i a b => h i a (by omega)), h n (fun e' => e e'.symm) (by omega)]
      omega
theorem sum_digit {l l' : List UInt8} {j : Nat} (hj : j < l.length) (hl : l'.length = l.length) (he : ∀ i, i ≠ j → byA l' i = byA l i) (hd : 0 ≤ dgt l j ∧ dgt l j ≤ 9) (hd' : 0 ≤ dgt l' j ∧ dgt l' j ≤ 9) (hne : dgt l' j ≠ dgt l j) (hs : sumB l = true) : sumB l' = false := by
  have h1 : sumF (wt l) l.length % 10 = 0 := of_decide_eq_true hs
  have h2 := sumF_one (f := wt l) (g := wt l') (n := l.length) (k := l.length - 1 - j) (by omega) (fun i a b => wt_other hl he a hj b)
  refine decide_eq_false ?_
  rw [hl, h2]
  have e : l.length - 1 - (l.length - 1 - j) = j := by omega
  unfold wt
  rw [hl, e]
  rcases tr_cases (l.length - 1 - j) with ⟨_, ht⟩ | ⟨_, ht⟩ <;> rw [ht] <;> unfold wt at h1 <;> omega
theorem inL_other {l l' : List UInt8} {j : Nat} {a b : Int} (hl : l'.length = l.length) (he : ∀ i, i ≠ j → byA l' i = byA l i) (hd : a ≤ byA l' j ∧ byA l' j ≤ b) (h : inL l a b = true) : inL l' a b = true := by
  refine inL_mk (fun i hi => ?_)
  by_cases e : i = j
  · rw [e]; exact hd
  · rw [he i e]; exact inL_yes h (by omega)
theorem plain_digit {kind : Int} {l l' : List UInt8} {j : Nat} (hj : j < l.length) (hl : l'.length = l.length) (he : ∀ i, i ≠ j → byA l' i = byA l i) (hd' : 0 ≤ dgt l' j ∧ dgt l' j ≤ 9) (hne : dgt l' j ≠ dgt l j) (hs : plainB kind l = true) : plainB kind l' = false := by
  unfold plainB at hs ⊢
  simp only [Bool.and_eq_true] at hs
  rw [sum_digit hj hl he ((digs_yes hs.2.1).2 j hj) hd' hne hs.2.2]
  simp

/-- The row of digits that is divided. -/
theorem list_ext {a b : List UInt8} (hl : a.length = b.length) (h : ∀ i, i < a.length → byA a i = byA b i) : a = b := by
  refine List.ext_getElem hl (fun i h1 h2 => ?_)
  have := h i h1
  rw [byA_get h1, byA_get h2] at this
  exact UInt8.toNat_inj.1 (by omega)
theorem split_at {l : List UInt8} {j : Nat} (hj : j < l.length) : l = l.take j ++ (l[j] :: l.drop (j + 1)) := by
  rw [List.getElem_cons_drop, List.take_append_drop]
theorem other_parts {l l' : List UInt8} {j : Nat} (hj : j < l.length) (hl : l'.length = l.length) (he : ∀ i, i ≠ j → byA l' i = byA l i) : l'.take j = l.take j ∧ l'.drop (j + 1) = l.drop (j + 1) := by
  constructor
  · refine list_ext (by simp [hl]) (fun i hi => ?_)
    simp at hi
    rw [byA_take (by omega), byA_take (by omega), he i (by omega)]
  · refine list_ext (by simp [hl]) (fun i hi => ?_)
    rw [byA_drop, byA_drop, he _ (by omega)]
theorem rest_digit {l l' : List UInt8} {j : Nat} (hj : j < l.length) (hl : l'.length = l.length) (he : ∀ i, i ≠ j → byA l' i = byA l i) (hd : 0 ≤ dgt l j ∧ dgt l j ≤ 9) (hd' : 0 ≤ dgt l' j ∧ dgt l' j ≤ 9) (hne : dgt l' j ≠ dgt l j) : restF l' 0 ≠ restF l 0 := by
  obtain ⟨h1, h2⟩ := other_parts hj hl he
  have hj' : j < l'.length := by omega
  rw [split_at hj, split_at hj', h1, h2, restF_append, restF_append]
  intro e
  have hb := restF_bd (l := l.take j) (r := 0) ⟨by decide, by decide⟩
  have := restF_inj (stBk_bd _ _) (stBk_bd _ _) (show restF (l.drop (j + 1)) (stBk (restF (l.take j) 0) (l'[j].toNat : Int)) = restF (l.drop (j + 1)) (stBk (restF (l.take j) 0) (l[j].toNat : Int)) from e)
  rw [← byA_get hj, ← byA_get hj'] at this
  unfold dgt at hd hd' hne
  have := stBk_dig (by omega) (by omega) this
  omega
/-- The rotated number has the byte at another place. -/
theorem rot_at {l : List UInt8} (h : 4 ≤ l.length) {i : Nat} (hi : i < l.length) : byA (l.drop 4 ++ l.take 4) i = byA l (if i < l.length - 4 then i + 4 else i - (l.length - 4)) := by
  by_cases h1 : i < l.length - 4
  · rw [if_pos h1, byA_left (by simp; omega), byA_drop, Nat.add_comm]
  · rw [if_neg h1, byA_right (by simp; omega), byA_take (by simp; omega)]
    simp
theorem bank_digit {l l' : List UInt8} {j : Nat} (h4 : 4 ≤ l.length) (hj : j < l.length) (hl : l'.length = l.length) (he : ∀ i, i ≠ j → byA l' i = byA l i) (hd : 0 ≤ dgt l j ∧ dgt l j ≤ 9) (hd' : 0 ≤ dgt l' j ∧ dgt l' j ≤ 9) (hne : dgt l' j ≠ dgt l j) : bankR l' ≠ bankR l := by
  have hlen : (l.drop 4 ++ l.take 4).length = l.length := by simp; omega
  have hlen' : (l'.drop 4 ++ l'.take 4).length = l'.length := by simp; omega
  have hJ : ∃ J, J < l.length ∧ (if J < l.length - 4 then J + 4 else J - (l.length - 4)) = j := by
    by_cases h : 4 ≤ j
    · exact ⟨j - 4, by omega, by rw [if_pos (by omega)]; omega⟩
    · exact ⟨j + (l.length - 4), by omega, by rw [if_neg (by omega)]; omega⟩
  obtain ⟨J, hJ1, hJ2⟩ := hJ
  have e1 : dgt (l.drop 4 ++ l.take 4) J = dgt l j := by unfold dgt; rw [rot_at h4 hJ1, hJ2]
  have e2 : dgt (l'.drop 4 ++ l'.take 4) J = dgt l' j := by unfold dgt; rw [rot_at (by omega) (by omega), hl, hJ2]
  refine rest_digit (j := J) (by omega) (by omega) (fun i hi => ?_) (by rw [e1]; exact hd) (by rw [e2]; exact hd') (by rw [e1, e2]; exact hne)
  rcases Nat.lt_or_ge i l.length with h | h
  · rw [rot_at (by omega) (by omega), rot_at h4 h, hl]
    refine he _ ?_
    intro e
    rw [← hJ2] at e
    split at e <;> split at e <;> omega
  · unfold byA
    rw [List.getD_eq_getElem?_getD, List.getD_eq_getElem?_getD, List.getElem?_eq_none (by omega), List.getElem?_eq_none (by omega)]
theorem taxP_congr {l l' : List UInt8} {k : Nat} (h : ∀ i, i < k → byA l' i = byA l i) : taxP l' k = taxP l k := by
  induction k with
  | zero => rfl
  | succ k ih => rw [taxP, taxP, ih (fun i hi => h i (by omega)), h k (by omega)]
theorem taxP_ne {l l' : List UInt8} {j : Nat} : ∀ k, (∀ i, i < k → 48 ≤ byA l i ∧ byA l i ≤ 57) → (∀ i, i ≠ j → byA l' i = byA l i) → 48 ≤ byA l' j ∧ byA l' j ≤ 57 → byA l' j ≠ byA l j → j < k → taxP l' k ≠ taxP l k
  | 0, _, _, _, _, hj => by omega
  | k + 1, h, he, hd, hne, hj => by
    have hb := taxP_bd (l := l) (k := k) (fun i hi => (h i (by omega)).1)
    have hb' : 1 ≤ taxP l' k ∧ taxP l' k ≤ 10 := taxP_bd (fun i hi => by
      by_cases e : i = j
      · rw [e]; exact hd.1
      · rw [he i e]; exact (h i (by omega)).1)
    rw [taxP, taxP]
    by_cases e : j = k
    · subst e
      rw [taxP_congr (l := l) (l' := l') (k := j) (fun i hi => he i (by omega))]
      intro e2
      exact hne (stTx_dig hb hd (h j (by omega)) e2)
    · rw [he k (fun e' => e e'.symm)]
      intro e2
      exact taxP_ne k (fun i hi => h i (by omega)) he hd hne (by omega) (stTx_inj hb' hb (h k (by omega)) e2)
theorem tax_digit {l l' : List UInt8} {j : Nat} (hj : j < l.length) (hl : l'.length = l.length) (he : ∀ i, i ≠ j → byA l' i = byA l i) (hd' : 0 ≤ dgt l' j ∧ dgt l' j ≤ 9) (hne : dgt l' j ≠ dgt l j) (hs : taxB l = true) : taxB l' = false := by
  unfold taxB at hs ⊢
  simp only [Bool.and_eq_true] at hs
  obtain ⟨h1, h2, h3⟩ := hs
  have h1 := of_decide_eq_true h1
  obtain ⟨-, h3⟩ := of_decide_eq_true h3
  have h2 := (digs_yes h2).2
  unfold dgt at hd' hne h2
  have : decide (byA l' 0 ≠ 48 ∧ taxD l' = byA l' 10) = false := by
    refine decide_eq_false (fun ⟨_, h4⟩ => ?_)
    have hb := taxP_bd (l := l) (k := 10) (fun i hi => by have := h2 i (by omega); omega)
    have hb' : 1 ≤ taxP l' 10 ∧ taxP l' 10 ≤ 10 := taxP_bd (fun i hi => by
      by_cases e : i = j
      · rw [e]; omega
      · rw [he i e]; have := h2 i (by omega); omega)
    unfold taxD at h3 h4
    by_cases e : j = 10
    · subst e
      rw [taxP_congr (l := l) (l' := l') (k := 10) (fun i hi => he i (by omega))] at h4
      omega
    · rw [he 10 (fun e' => e e'.symm)] at h4
      have hne2 := taxP_ne (l := l) (l' := l') (j := j) 10 (fun i hi => by have := h2 i (by omega); omega) he (by omega) (by omega) (by omega)
      omega
  rw [this]
  simp
/-- A right number with another digit is none. -/
theorem num_digit {kind : Int} {l l' : List UInt8} {j : Nat} (hj : j < l.length) (hl : l'.length = l.length) (he : ∀ i, i ≠ j → byA l' i = byA l i) (hd : 0 ≤ dgt l j ∧ dgt l j ≤ 9) (hd' : 0 ≤ dgt l' j ∧ dgt l' j ≤ 9) (hne : dgt l' j ≠ dgt l j) (hs : numB kind l = true) : numB kind l' = false := by
  unfold numB at hs ⊢
  split at hs
  · rename_i h4
    rw [if_pos h4]
    unfold bankB bankForm at hs ⊢
    simp only [Bool.and_eq_true] at hs
    obtain ⟨⟨f1, -⟩, f2⟩ := hs
    have f1 := of_decide_eq_true f1
    have f2 := of_decide_eq_true f2
    have := bank_digit (by omega) hj hl he hd hd' hne
    rw [decide_eq_false (p := bankR l' = 1 ∧ 2 ≤ bankC l' ∧ bankC l' ≤ 98) (by omega)]
    simp
  · rename_i h4
    rw [if_neg h4]
    split at hs
    · rename_i h5
      rw [if_pos h5]
      exact tax_digit hj hl he hd' hne hs
    · rename_i h5
      rw [if_neg h5]
      exact plain_digit hj hl he hd' hne hs

theorem sumF_two {f g : Nat → Int} {n k : Nat} (hk : k + 1 < n) (h : ∀ i, i ≠ k → i ≠ k + 1 → i < n → g i = f i) : sumF g n = sumF f n + (g k - f k) + (g (k + 1) - f (k + 1)) := by
  induction n with
  | zero => omega
  | succ n ih =>
    rw [sumF, sumF]
    by_cases e : k + 1 = n
    · subst e
      rw [sumF_one (f := f) (g := g) (n := k + 1) (k := k) (by omega) (fun i a b => h i a (by omega) (by omega))]
      omega
    · rw [ih (by omega) (fun i a b c => h i a b (by omega)), h n (by omega) (fun e' => e e'.symm) (by omega)]
      omega
/-- Two neighbours exchanged. -/
theorem num_swap {kind : Int} {l l' : List UInt8} {j : Nat} (hk : kind ≠ 4 ∧ kind ≠ 5) (hj : j + 1 < l.length) (hl : l'.length = l.length) (he : ∀ i, i ≠ j → i ≠ j + 1 → byA l' i = byA l i) (h0 : byA l' j = byA l (j + 1)) (h1 : byA l' (j + 1) = byA l j)
    (hne : byA l j - byA l (j + 1) ≠ 0 ∧ byA l j - byA l (j + 1) ≠ 5 ∧ byA l j - byA l (j + 1) ≠ -5) (hs : numB kind l = true) : numB kind l' = false := by
  unfold numB at hs ⊢
  rw [if_neg hk.1, if_neg hk.2] at hs ⊢
  unfold plainB at hs ⊢
  simp only [Bool.and_eq_true] at hs
  have hd := (digs_yes hs.2.1).2
  have d0 := hd j (by omega)
  have d1 := hd (j + 1) hj
  have hsum : sumB l' = false := by
    have h2 : sumF (wt l) l.length % 10 = 0 := of_decide_eq_true hs.2.2
    have h3 := sumF_two (f := wt l) (g := wt l') (n := l.length) (k := l.length - 2 - j) (by omega) (fun i a b c => by
      unfold wt dgt
      rw [hl, he _ (by omega) (by omega)])
    refine decide_eq_false ?_
    rw [hl, h3]
    have e1 : l.length - 1 - (l.length - 2 - j) = j + 1 := by omega
    have e2 : l.length - 1 - (l.length - 2 - j + 1) = j := by omega
    unfold wt dgt
    rw [hl, e1, e2, h0, h1]
    unfold dgt at d0 d1
    unfold wt dgt at h2
    rcases tr_cases (l.length - 2 - j) with ⟨a, ht⟩ | ⟨a, ht⟩ <;> rcases tr_cases (l.length - 2 - j + 1) with ⟨b, ht'⟩ | ⟨b, ht'⟩ <;> rw [ht, ht'] <;> omega
  rw [hsum]
  simp

/-- Widened. -/
def wide (l : List UInt8) : List UInt8 := List.replicate (14 - l.length) 48 ++ l
theorem wide_num {l : List UInt8} (h : numB 1 l = true) : numB 1 (wide l) = true := by
  have h : plainB 1 l = true := h
  show plainB 1 (wide l) = true
  unfold plainB at h ⊢
  simp only [Bool.and_eq_true] at h
  obtain ⟨h1, h2, h3⟩ := h
  have hl : l.length ≤ 14 := by
    have h1 : decide (l.length = 8 ∨ l.length = 12 ∨ l.length = 13 ∨ l.length = 14) = true := h1
    have := of_decide_eq_true h1
    omega
  have hw : (wide l).length = 14 := by unfold wide; simp; omega
  have hd := digs_yes h2
  have hat : ∀ i, i < 14 → byA (wide l) i = if i < 14 - l.length then 48 else byA l (i - (14 - l.length)) := by
    intro i hi
    unfold wide
    by_cases e : i < 14 - l.length
    · rw [if_pos e, byA_left (by simpa using e)]
      rw [byA_get (by simpa using e), List.getElem_replicate]; rfl
    · rw [if_neg e, byA_right (by simp; omega)]
      simp
  have hdw : digs (wide l) = true := by
    refine digs_mk (by omega) (fun i hi => ?_)
    unfold dgt
    rw [hat i (by omega)]
    split
    · omega
    · have := hd.2 (i - (14 - l.length)) (by omega)
      unfold dgt at this
      omega
  rw [hdw, hw]
  have hsum : sumF (wt (wide l)) 14 = sumF (wt l) l.length := by
    have step : ∀ k, l.length + k ≤ 14 → sumF (wt (wide l)) (l.length + k) = sumF (wt l) l.length := by
      intro k
      induction k with
      | zero =>
        intro _
        refine sumF_congr (fun i hi => ?_)
        unfold wt dgt
        rw [hw, hat _ (by omega), if_neg (by omega), show 14 - 1 - i - (14 - l.length) = l.length - 1 - i by omega]
      | succ k ih =>
        intro hk
        rw [show l.length + (k + 1) = l.length + k + 1 by omega, sumF, ih (by omega)]
        unfold wt dgt
        rw [hw, hat _ (by omega), if_pos (by omega)]
        omega
    have := step (14 - l.length) (by omega)
    rw [show l.length + (14 - l.length) = 14 by omega] at this
    exact this
  unfold sumB at h3 ⊢
  rw [hw, hsum, h3]
  rfl
end Go.Proofs.YtfgnollclmimnaaGreatDoor.Nmb

namespace Go.Proofs.YtfgnollclmimnaaGreatDoor
open Go.RowKit Limb Nmb
set_option linter.unusedVariables false
set_option linter.unusedSimpArgs false

theorem ivK {a b : Int} (h : a = b) : Value.int .i64 a = .int .i64 b := by rw [h]
/-! ### Bytes -/
theorem byS (s : ByteArray) (j : Nat) (h : j < s.size) : (s[j].toNat : Int) = byA s.data.toList j := by
  rw [byA_get (by simpa using h)]; rfl
theorem szL (s : ByteArray) : s.data.toList.length = s.size := by simp
theorem inB_inL (l : List UInt8) (a b : Nat) : inB l a b = inL l a b := by
  rw [Bool.eq_iff_iff]
  unfold inB
  rw [List.all_eq_true]
  constructor
  · intro h
    refine inL_mk (fun i hi => ?_)
    have := of_decide_eq_true (h l[i] (List.getElem_mem hi))
    rw [byA_get hi]
    omega
  · intro h c hc
    obtain ⟨i, hi, rfl⟩ := List.getElem_of_mem hc
    have := inL_yes h hi
    rw [byA_get hi] at this
    exact decide_eq_true (by omega)
theorem digB_digs (l : List UInt8) : digB l = digs l := by
  unfold digB digs
  rw [inB_inL, Bool.and_comm]
  rfl

theorem sum_bd {l : List UInt8} (h : ∀ i, i < l.length → 0 ≤ dgt l i ∧ dgt l i ≤ 9) {k : Nat} (hk : k ≤ l.length) : 0 ≤ sumF (wt l) k ∧ sumF (wt l) k ≤ 27 * k := by
  induction k with
  | zero => exact ⟨Int.le_refl _, Int.le_refl _⟩
  | succ k ih =>
    have a := ih (by omega)
    have b := h (l.length - 1 - k) (by omega)
    rw [sumF]
    have : 0 ≤ wt l k ∧ wt l k ≤ 27 := by
      unfold wt
      rcases tr_cases k with ⟨_, e⟩ | ⟨_, e⟩ <;> rw [e] <;> omega
    omega
theorem wt_odd {l : List UInt8} {k : Nat} (h : k % 2 = 1) : wt l k = dgt l (l.length - 1 - k) * 3 := by unfold wt tr; rw [if_pos h]
theorem wt_even {l : List UInt8} {k : Nat} (h : ¬ k % 2 = 1) : wt l k = dgt l (l.length - 1 - k) := by unfold wt tr; rw [if_neg h, Int.mul_one]

theorem taxD_sub (l : List UInt8) : taxD l = 48 + (11 - taxP l 10) % 10 := rfl
end Go.Proofs.YtfgnollclmimnaaGreatDoor

namespace Go.Proofs.YtfgnollclmimnaaGreatDoor
open Go.RowKit Limb Nmb
set_option linter.unusedVariables false
set_option linter.unusedSimpArgs false

/-! ### Letters and digits -/
def tagSet : ByteArray := ⟨#[65, 66, 67, 68, 69, 70, 71, 72, 73, 74, 75, 76, 77, 78, 79, 80, 81, 82, 83, 84, 85, 86, 87, 88, 89, 90, 48, 49, 50, 51, 52, 53, 54, 55, 56, 57]⟩
theorem tagSet_fin : ∀ i : Fin 256, tagSet.data.toList.contains (UInt8.ofNat i.val) = tagC ((UInt8.ofNat i.val).toNat : Int) := by decide +kernel
theorem tagSet_c (c : UInt8) : tagSet.data.toList.contains c = tagC (c.toNat : Int) := by
  have := tagSet_fin ⟨c.toNat, c.toNat_lt⟩
  simp only [UInt8.ofNat_toNat] at this
  exact this
theorem trim_tag (l : List UInt8) : (Lib.trimS l tagSet.data.toList).isEmpty = tagL l := by
  rw [trimS_nil]
  unfold tagL
  congr 1
  funext c
  exact tagSet_c c
set_option maxHeartbeats 1000000 in
set_option maxRecDepth 100000 in
theorem istag_c (s : ByteArray) (w : World) (hs : s.size ≤ 9223372036854775807) :
    Calls Tryz.prog 58 #[.string s] w (RetB (tagL s.data.toList) w) := by
  have hcon := Tryz.strings_Trim_laid s tagSet w hs (by decide) (ascii_of_all (by decide))
  obtain ⟨r, hr⟩ : ∃ r : ByteArray, (⟨(Lib.trimS s.data.toList tagSet.data.toList).toArray⟩ : ByteArray) = r := ⟨_, rfl⟩
  have er : (Lib.trimS s.data.toList tagSet.data.toList).isEmpty = r.toList.isEmpty := by rw [← hr, Lib.toList_data]
  rw [hr] at hcon
  unfold tagSet at hcon
  rw [← trim_tag, er]
  clear hr er
  cases hb : r.toList.isEmpty with
  | true =>
    go_enter Tryz.func58, Tryz.ntmps58
    go_wp2_with (go_at_call 66; refine hcon.mono ?_; rintro e w1 ⟨rfl, hb1⟩)
    go_ret
    exact ⟨rfl, hb1⟩
  | false =>
    go_enter Tryz.func58, Tryz.ntmps58
    go_wp2_with (go_at_call 66; refine hcon.mono ?_; rintro e w1 ⟨rfl, hb1⟩)
    go_ret
    exact ⟨rfl, hb1⟩
theorem inb_c (s : ByteArray) (lo hi : Nat) (w : World) (hs : s.size ≤ 9223372036854775807) :
    Calls Tryz.prog 80 #[.string s, .int .u8 (lo : Int), .int .u8 (hi : Int)] w fun e w' => w = w' ∧ e = .returned (.bool (inL s.data.toList lo hi)) := by
  rw [← inB_inL]
  cases h : inB s.data.toList lo hi with
  | true => exact inb_yes s lo hi w h hs
  | false => exact inb_no s lo hi w h hs
/-! ### What a number of a bank leaves -/
theorem tag_app {a b : List UInt8} : tagL (a ++ b) = (tagL a && tagL b) := by unfold tagL; rw [List.all_append]
theorem tag_take_drop {l : List UInt8} (k : Nat) (h : tagL l = true) : tagL (l.drop k ++ l.take k) = true := by
  have : tagL (l.take k ++ l.drop k) = true := by rw [List.take_append_drop]; exact h
  rw [tag_app, Bool.and_eq_true] at this
  rw [tag_app, this.1, this.2]; rfl
theorem ext_drop (s : ByteArray) (k : Nat) : (s.extract k s.size).data.toList = s.data.toList.drop k := by rw [Lib.extract_to_end]
theorem ext_take (s : ByteArray) (k : Nat) : (s.extract 0 k).data.toList = s.data.toList.take k := by rw [Lib.extract_data]; simp
theorem row_facts (w : World) (t : ByteArray) (cap : Nat) (W : World) (h : (w.alloc (.cells (bytesRow t cap) 5 ((bytesRow t cap).size, (bytesRow t cap).size + 1))).drew.drew = W) :
    (∀ k, (hk : k < t.size) → W.cell? ⟨w.heap.size, k, none⟩ = some (.int .u8 (t[k].toNat : Int))) ∧ Below w.heap.size w W := by
  subst h
  refine ⟨fun k hk => ?_, by go_grown⟩
  have := World.cell?_alloc_mark w (bytesRow t cap) 5 ((bytesRow t cap).size, (bytesRow t cap).size + 1) k
  exact this.trans (bytesRow_at t cap k hk)
theorem rest_next {l : List UInt8} {k : Nat} (h : k < l.length) : restF (l.take (k + 1)) 0 = stBk (restF (l.take k) 0) (byA l k) := restF_take h 0
end Go.Proofs.YtfgnollclmimnaaGreatDoor
