/- Plain facts about numbers that are written with digits of a base, the lowest digit first. No program in sight. -/
import Derived.Lib.SplitLaws
import Derived.Lib.IndexBytes
import Derived.Lib.Hide
import Derived.Test.YtbnjejenejoibaaGreatDoorProg
import Derived.Shelf.Lay
import Derived.Shelf.Strings.BuilderF
import Derived.Shelf.Strings.OnBuilder
import Derived.Shelf.Strings.BuilderK
import Derived.Deep.RegionHeld3
import Derived.StillTail
import Derived.WalkKit
-- merged: Limbs D0 D2 K0 Q0 HB RH
namespace Go.Proofs.YtbnjejenejoibaaGreatDoor.Limb
def val (b : Nat) : List Nat -> Nat
 | [] => 0
 | d :: l => d + b * val b l
def Digs (b : Nat) (l : List Nat) : Prop := ∀ d ∈ l, d < b
def Norm (l : List Nat) : Prop := ∀ d, l.getLast? = some d -> d ≠ 0
theorem val_nil (b : Nat) : val b [] = 0 := rfl
theorem val_cons (b d : Nat) (l : List Nat) : val b (d :: l) = d + b * val b l := rfl
theorem val_append (b : Nat) (l m : List Nat) : val b (l ++ m) = val b l + b ^ l.length * val b m := by
 induction l with
 | nil => simp [val]
 | cons d l ih =>
  simp only [List.cons_append, val_cons, ih, List.length_cons, Nat.pow_succ, Nat.mul_add]
  have : b ^ l.length * b * val b m = b * (b ^ l.length * val b m) := by
   rw [Nat.mul_comm (b ^ l.length) b, Nat.mul_assoc]
  omega
theorem val_snoc (b : Nat) (l : List Nat) (d : Nat) : val b (l ++ [d]) = val b l + b ^ l.length * d := by
 rw [val_append]; simp [val]
theorem Digs.nil (b : Nat) : Digs b [] := by intro d h; cases h
theorem Digs.append {b : Nat} {l m : List Nat} (h : Digs b l) (k : Digs b m) : Digs b (l ++ m) := by
 intro d hd
 rcases List.mem_append.1 hd with hd | hd
 ·exact h d hd
 ·exact k d hd
theorem Digs.snoc {b d : Nat} {l : List Nat} (h : Digs b l) (hd : d < b) : Digs b (l ++ [d]) :=
 h.append (by intro x hx; simp at hx; omega)
theorem Digs.take {b : Nat} {l : List Nat} (h : Digs b l) (k : Nat) : Digs b (l.take k) := fun d hd => h d (List.mem_of_mem_take hd)
theorem Digs.drop {b : Nat} {l : List Nat} (h : Digs b l) (k : Nat) : Digs b (l.drop k) := fun d hd => h d (List.mem_of_mem_drop hd)
theorem Digs.getD {b : Nat} {l : List Nat} (h : Digs b l) (hb : 0 < b) (k : Nat) : l.getD k 0 < b := by
 rw [List.getD_eq_getElem?_getD]
 rcases Nat.lt_or_ge k l.length with hk | hk
 ·rw [List.getElem?_eq_getElem hk]; exact h _ (List.getElem_mem hk)
 ·rw [List.getElem?_eq_none hk]; exact hb
theorem Digs.get {b : Nat} {l : List Nat} (h : Digs b l) {k : Nat} (hk : k < l.length) : l[k] < b := h _ (List.getElem_mem hk)
theorem getD_get {l : List Nat} {k : Nat} (h : k < l.length) : l.getD k 0 = l[k] := by
 rw [List.getD_eq_getElem?_getD, List.getElem?_eq_getElem h]; rfl
theorem val_take_succ (b : Nat) (l : List Nat) (k : Nat) : val b (l.take (k + 1)) = val b (l.take k) + b ^ k * l.getD k 0 := by
 rcases Nat.lt_or_ge k l.length with hk | hk
 ·rw [List.take_succ_eq_append_getElem hk, val_snoc, List.length_take, Nat.min_eq_left (by omega), getD_get hk]
 ·rw [List.take_of_length_le (by omega), List.take_of_length_le hk, List.getD_eq_getElem?_getD, List.getElem?_eq_none hk]; simp
theorem val_split (b : Nat) (l : List Nat) (k : Nat) (hk : k <= l.length) : val b l = val b (l.take k) + b ^ k * val b (l.drop k) := by
 have h := val_append b (l.take k) (l.drop k)
 rw [List.take_append_drop, List.length_take, Nat.min_eq_left hk] at h
 exact h
theorem val_lt {b : Nat} {l : List Nat} (h : Digs b l) : val b l < b ^ l.length := by
 induction l with
 | nil => simp [val]
 | cons d l ih =>
  have hd : d < b := h d (by simp)
  have hl := ih fun x hx => h x (by simp [hx])
  rw [val_cons, List.length_cons, Nat.pow_succ, Nat.mul_comm _ b]
  have h2 : b * (val b l + 1) <= b * b ^ l.length := Nat.mul_le_mul_left b hl
  rw [Nat.mul_add] at h2
  omega
theorem norm_nil : Norm [] := by intro d h; cases h
theorem norm_snoc {l : List Nat} {d : Nat} : Norm (l ++ [d]) ↔ d ≠ 0 := by
 unfold Norm
 rw [List.getLast?_append]
 simp
theorem snoc_of {l : List Nat} (h : l ≠ []) : ∃ m d, l = m ++ [d] := ⟨l.dropLast, l.getLast h, (List.dropLast_concat_getLast h).symm⟩
theorem val_ge {b : Nat} {l : List Nat} (hn : Norm l) (hl : l ≠ []) : b ^ (l.length - 1) <= val b l := by
 obtain ⟨m, d, rfl⟩ := snoc_of hl
 have hd := norm_snoc.1 hn
 rw [val_snoc, List.length_append, List.length_singleton, Nat.add_sub_cancel]
 have : b ^ m.length * 1 <= b ^ m.length * d := Nat.mul_le_mul_left _ (by omega)
 omega
theorem val_pos {b : Nat} (hb : 0 < b) {l : List Nat} (hn : Norm l) (hl : l ≠ []) : 0 < val b l :=
 Nat.lt_of_lt_of_le (Nat.pow_pos hb) (val_ge hn hl)
theorem len_le {b K : Nat} (hb : 1 < b) {l : List Nat} (hn : Norm l) (hv : val b l < b ^ K) : l.length <= K := by
 rcases Classical.em (l = []) with rfl | e
 ·simp
 ·have h := val_ge (b := b) hn e
  have h2 : b ^ (l.length - 1) < b ^ K := Nat.lt_of_le_of_lt h hv
  have h3 := (Nat.pow_lt_pow_iff_right hb).1 h2
  omega
theorem val_lt_of_len {b : Nat} (hb : 1 < b) {l m : List Nat} (hl : Digs b l) (hm : Norm m) (h : l.length < m.length) : val b l < val b m := by
 have hne : m ≠ [] := by intro e; rw [e] at h; simp at h
 have h1 := val_lt hl
 have h2 := val_ge (b := b) hm hne
 have h3 : b ^ l.length <= b ^ (m.length - 1) := Nat.pow_le_pow_right (by omega) (by omega)
 omega
theorem val_lt_of_digit {b : Nat} {l m : List Nat} {k : Nat} (hl : Digs b l) (hk : k < l.length) (hk' : k < m.length)
  (ht : l.drop (k + 1) = m.drop (k + 1)) (h : l.getD k 0 < m.getD k 0) : val b l < val b m := by
 rw [val_split b l (k + 1) hk, val_split b m (k + 1) hk', ht, val_take_succ, val_take_succ]
 have h1 := val_lt (hl.take k)
 rw [List.length_take, Nat.min_eq_left (by omega)] at h1
 have h2 : b ^ k * (l.getD k 0 + 1) <= b ^ k * m.getD k 0 := Nat.mul_le_mul_left _ h
 rw [Nat.mul_add] at h2
 omega
theorem drop_eq_step {l m : List Nat} {k : Nat} (hk : k < l.length) (hk' : k < m.length) (ht : l.drop (k + 1) = m.drop (k + 1)) (h : l.getD k 0 = m.getD k 0) : l.drop k = m.drop k := by
 rw [List.drop_eq_getElem_cons hk, List.drop_eq_getElem_cons hk', ht]
 rw [getD_get hk, getD_get hk'] at h
 rw [h]
def trim (l : List Nat) : List Nat := (l.reverse.dropWhile (· == 0)).reverse
theorem trim_snoc_zero (l : List Nat) : trim (l ++ [0]) = trim l := by simp [trim]
theorem trim_snoc_pos (l : List Nat) {d : Nat} (h : d ≠ 0) : trim (l ++ [d]) = l ++ [d] := by simp [trim, h]
theorem snoc_induction {P : List Nat -> Prop} (h0 : P []) (h1 : ∀ l d, P l -> P (l ++ [d])) (l : List Nat) : P l := by
 have : ∀ n (l : List Nat), l.length = n -> P l := by
  intro n
  induction n with
  | zero => intro l hl; rw [List.length_eq_zero_iff] at hl; subst hl; exact h0
  | succ n ih =>
   intro l hl
   obtain ⟨m, d, rfl⟩ := snoc_of (l := l) (by intro e; subst e; simp at hl)
   exact h1 _ _ (ih m (by simpa using hl))
 exact this _ l rfl
theorem val_trim (b : Nat) (l : List Nat) : val b (trim l) = val b l := by
 refine snoc_induction (P := fun l => val b (trim l) = val b l) rfl ?_ l
 intro l d ih
 by_cases h : d = 0
 ·subst h; rw [trim_snoc_zero, ih, val_snoc]; simp
 ·rw [trim_snoc_pos l h]
theorem norm_trim (l : List Nat) : Norm (trim l) := by
 refine snoc_induction (P := fun l => Norm (trim l)) norm_nil ?_ l
 intro l d ih
 by_cases h : d = 0
 ·subst h; rw [trim_snoc_zero]; exact ih
 ·rw [trim_snoc_pos l h]; exact norm_snoc.2 h
theorem trim_prefix (l : List Nat) : ∃ k, k <= l.length /\ trim l = l.take k := by
 refine snoc_induction (P := fun l => ∃ k, k <= l.length /\ trim l = l.take k) ⟨0, by simp, rfl⟩ ?_ l
 intro l d ⟨k, hk, e⟩
 by_cases h : d = 0
 ·subst h
  refine ⟨k, by simp; omega, ?_⟩
  rw [trim_snoc_zero, e, List.take_append_of_le_length hk]
 ·exact ⟨l.length + 1, by simp, by rw [trim_snoc_pos l h, List.take_of_length_le (by simp)]⟩
theorem digs_trim {b : Nat} {l : List Nat} (h : Digs b l) : Digs b (trim l) := by
 obtain ⟨k, _, e⟩ := trim_prefix l
 rw [e]; exact h.take k
theorem pow_split (P b t : Nat) : P * (t % b) + P * b * (t / b) = P * t := by
 rw [Nat.mul_assoc, <- Nat.mul_add, Nat.mod_add_div]
theorem sum_step {b : Nat} {os : List Nat} {c x y p q : Nat} (h : val b os + b ^ os.length * c = x + y) :
  val b (os ++ [(c + p + q) % b]) + b ^ (os.length + 1) * ((c + p + q) / b) = (x + b ^ os.length * p) + (y + b ^ os.length * q) := by
 rw [val_snoc, Nat.pow_succ]
 have := pow_split (b ^ os.length) b (c + p + q)
 rw [Nat.mul_add, Nat.mul_add] at this
 omega
theorem carry_le {b c p q : Nat} (hc : c <= 1) (hp : p < b) (hq : q < b) : (c + p + q) / b <= 1 := by
 have : (c + p + q) / b < 2 := by
  rw [Nat.div_lt_iff_lt_mul (by omega)]; omega
 omega
end Go.Proofs.YtbnjejenejoibaaGreatDoor.Limb
namespace Go.Proofs.YtbnjejenejoibaaGreatDoor.Work
def dayB (d : Int) : Bool := decide (1 <= d /\ d <= 3652059)
theorem dayB_yes {d : Int} (h : dayB d = true) : 1 <= d /\ d <= 3652059 := by simpa [dayB] using h
theorem dayB_mk {d : Int} (h : 1 <= d /\ d <= 3652059) : dayB d = true := by simpa [dayB] using h
theorem dayB_not {d : Int} (h : ¬ (1 <= d /\ d <= 3652059)) : dayB d = false := by
 cases e : dayB d with
 | false => rfl
 | true => exact absurd (dayB_yes e) h
def cnt (p : Int -> Bool) (a : Int) : Nat -> Int
 | 0 => 0
 | k + 1 => cnt p a k + if p (a + k) = true then 1 else 0
end Go.Proofs.YtbnjejenejoibaaGreatDoor.Work
namespace Go.Proofs.YtbnjejenejoibaaGreatDoor.Work
def leapB (y : Int) : Bool := decide (y % 4 = 0 /\ (y % 100 ≠ 0 ∨ y % 400 = 0))
theorem leapB_yes {y : Int} (h : leapB y = true) : y % 4 = 0 /\ (y % 100 ≠ 0 ∨ y % 400 = 0) := by simpa [leapB] using h
theorem leapB_no {y : Int} (h : leapB y = false) : ¬ (y % 4 = 0 /\ (y % 100 ≠ 0 ∨ y % 400 = 0)) := of_decide_eq_false h
def dim (y m : Int) : Int := if m = 2 then (if leapB y = true then 29 else 28) else if m = 4 ∨ m = 6 ∨ m = 9 ∨ m = 11 then 30 else 31
theorem dim_bd (y m : Int) : 28 <= dim y m /\ dim y m <= 31 := by unfold dim; split <;> split <;> omega
def bef (y : Int) : Int := 365 * (y - 1) + (y - 1) / 4 - (y - 1) / 100 + (y - 1) / 400
def cum (y : Int) : Nat -> Int
 | 0 => 0
 | k + 1 => cum y k + dim y ((k : Int) + 1)
theorem cum_12 (y : Int) : cum y 12 = 365 + if leapB y = true then 1 else 0 := by
 simp only [cum, dim]
 simp
 split <;> omega
theorem bef_succ (y : Int) : bef (y + 1) = bef y + cum y 12 := by
 rw [cum_12]
 unfold bef
 by_cases h : leapB y = true
 ·rw [if_pos h]
  have := leapB_yes h
  omega
 ·rw [if_neg h]
  have := leapB_no (by simpa using h)
  omega
theorem cum_12_bd (y : Int) : 365 <= cum y 12 /\ cum y 12 <= 366 := by rw [cum_12]; split <;> omega
theorem cum_lt (y : Int) {i j : Nat} (h : i < j) : cum y i + 28 <= cum y j := by
 obtain ⟨k, rfl⟩ : ∃ k, j = i + k + 1 := ⟨j - i - 1, by omega⟩
 clear h
 induction k with
 | zero => rw [Nat.add_zero, cum]; have := dim_bd y ((i : Int) + 1); omega
 | succ k ih =>
  rw [show i + (k + 1) + 1 = i + k + 1 + 1 by omega, cum]
  have := dim_bd y (((i + k + 1 : Nat) : Int) + 1)
  omega
theorem cum_le (y : Int) {i j : Nat} (h : i <= j) : cum y i <= cum y j := by
 rcases Nat.eq_or_lt_of_le h with e | e
 ·rw [e]; exact Int.le_refl _
 ·have := cum_lt y e; omega
theorem bef_mono {a b : Int} (h : a <= b) : bef a <= bef b := by unfold bef; omega
theorem bef_guess {day : Int} (h : 1 <= day) : bef (day / 366 + 1) < day := by unfold bef; omega
theorem bef_end : bef 10000 = 3652059 := by decide
theorem bef_bd {y : Int} (h : 1 <= y) (h2 : y <= 10000) : 0 <= bef y /\ bef y <= 3652059 := by unfold bef; omega
def num (y m d : Int) : Int := bef y + cum y (m - 1).toNat + d
def dateB (y m d : Int) : Bool := decide ((1 <= y /\ y <= 9999) /\ (1 <= m /\ m <= 12) /\ (1 <= d /\ d <= dim y m))
theorem dateB_yes {y m d : Int} (h : dateB y m d = true) : (1 <= y /\ y <= 9999) /\ (1 <= m /\ m <= 12) /\ (1 <= d /\ d <= dim y m) := of_decide_eq_true h
theorem dateB_mk {y m d : Int} (h : (1 <= y /\ y <= 9999) /\ (1 <= m /\ m <= 12) /\ (1 <= d /\ d <= dim y m)) : dateB y m d = true := decide_eq_true h
theorem dateB_not {y m d : Int} (h : ¬ ((1 <= y /\ y <= 9999) /\ (1 <= m /\ m <= 12) /\ (1 <= d /\ d <= dim y m))) : dateB y m d = false := decide_eq_false h
theorem num_year {y m d : Int} (h : dateB y m d = true) : bef y < num y m d /\ num y m d <= bef (y + 1) := by
 obtain ⟨h1, h2, h3⟩ := dateB_yes h
 obtain ⟨k, rfl⟩ : ∃ k : Nat, m = (k : Int) + 1 := ⟨(m - 1).toNat, by omega⟩
 have e : ((k : Int) + 1 - 1).toNat = k := by omega
 unfold num
 rw [e, bef_succ]
 have a := cum_le y (i := 0) (j := k) (by omega)
 have b := cum_le y (i := k + 1) (j := 12) (by omega)
 rw [cum] at a
 rw [cum] at b
 omega
theorem num_day {y m d : Int} (h : dateB y m d = true) : 1 <= num y m d /\ num y m d <= 3652059 := by
 have h1 := num_year h
 have h2 := dateB_yes h
 have a := bef_bd (y := y) (by omega) (by omega)
 have b := bef_bd (y := y + 1) (by omega) (by omega)
 omega
def DateIs (day y m d : Int) : Prop := dateB y m d = true /\ num y m d = day
end Go.Proofs.YtbnjejenejoibaaGreatDoor.Work
namespace Go.Proofs.YtbnjejenejoibaaGreatDoor.Nmb
set_option linter.unusedVariables false
def byA (l : List UInt8) (i : Nat) : Int := ((l.getD i 48).toNat : Int)
def dgt (l : List UInt8) (i : Nat) : Int := byA l i - 48
theorem byA_get {l : List UInt8} {i : Nat} (h : i < l.length) : byA l i = (l[i].toNat : Int) := by
 unfold byA
 rw [List.getD_eq_getElem?_getD, List.getElem?_eq_getElem h]; rfl
def tr (i : Nat) : Int := if i % 2 = 1 then 3 else 1
def inL (l : List UInt8) (a b : Int) : Bool := decide (∀ i, i < l.length -> a <= byA l i /\ byA l i <= b)
theorem inL_yes {l : List UInt8} {a b : Int} (h : inL l a b = true) {i : Nat} (hi : i < l.length) : a <= byA l i /\ byA l i <= b := of_decide_eq_true h i hi
theorem inL_mk {l : List UInt8} {a b : Int} (h : ∀ i, i < l.length -> a <= byA l i /\ byA l i <= b) : inL l a b = true := decide_eq_true h
theorem inL_no {l : List UInt8} {a b : Int} {i : Nat} (hi : i < l.length) (h : ¬ (a <= byA l i /\ byA l i <= b)) : inL l a b = false := decide_eq_false (fun k => h (k i hi))
def digs (l : List UInt8) : Bool := inL l 48 57 && !l.isEmpty
theorem digs_yes {l : List UInt8} (h : digs l = true) : 0 < l.length /\ ∀ i, i < l.length -> 0 <= dgt l i /\ dgt l i <= 9 := by
 unfold digs at h
 rw [Bool.and_eq_true] at h
 refine ⟨?_, fun i hi => ?_⟩
 ·cases l with
  | nil => simp at h
  | cons a b => simp
 ·have := inL_yes h.1 hi
  unfold dgt
  omega
def tagC (c : Int) : Bool := decide ((65 <= c /\ c <= 90) ∨ (48 <= c /\ c <= 57))
def tagL (l : List UInt8) : Bool := l.all fun c => tagC (c.toNat : Int)
def valC (c : UInt8) : List UInt8 := if 65 <= (c.toNat : Int) /\ (c.toNat : Int) <= 90 then [UInt8.ofNat (48 + (c.toNat - 55) / 10), UInt8.ofNat (48 + (c.toNat - 55) % 10)] else [c]
def vals (l : List UInt8) : List UInt8 := l.flatMap valC
end Go.Proofs.YtbnjejenejoibaaGreatDoor.Nmb
namespace Go.Proofs.YtbnjejenejoibaaGreatDoor
set_option linter.unusedVariables false
set_option linter.unusedSimpArgs false
def qHd (x : UInt8) : List (List UInt8) -> List (List UInt8)
 | [] => [[x]]
 | p :: ps => (x :: p) :: ps
def pcs (g : UInt8) : List UInt8 -> List (List UInt8)
 | [] => [[]]
 | x :: l => if x = g then [] :: pcs g l else qHd x (pcs g l)
theorem pcs_ne (g : UInt8) : ∀ l, pcs g l ≠ []
 | [] => by simp [pcs]
 | x :: l => by
  unfold pcs
  split
  ·simp
  ·cases pcs g l <;> simp [qHd]
theorem pcs_none {g : UInt8} : ∀ {l}, g ∉ l -> pcs g l = [l]
 | [], _ => rfl
 | x :: l, h => by
  have h1 : x ≠ g := fun e => h (by simp [e])
  have h2 : g ∉ l := fun e => h (by simp [e])
  unfold pcs
  rw [if_neg h1, pcs_none h2]
  rfl
theorem pcs_hit {g : UInt8} : ∀ {a b}, g ∉ a -> pcs g (a ++ g :: b) = a :: pcs g b
 | [], b, _ => by show (if g = g then _ else _) = _; rw [if_pos rfl]
 | x :: a, b, h => by
  have h1 : x ≠ g := fun e => h (by simp [e])
  have h2 : g ∉ a := fun e => h (by simp [e])
  have ih := pcs_hit (b := b) h2
  rw [List.cons_append, pcs, if_neg h1, ih]
  rfl
theorem pcs_len (g : UInt8) : ∀ l, (pcs g l).length = l.count g + 1
 | [] => rfl
 | x :: l => by
  have ih := pcs_len g l
  unfold pcs
  split
  next h => subst h; rw [List.length_cons, ih, List.count_cons_self]
  next h =>
   rw [List.count_cons_of_ne h, <- ih]
   rcases hp : pcs g l with _ | ⟨q, qs⟩
   ·exact absurd hp (pcs_ne g l)
   ·rfl
theorem pcs_sum (g : UInt8) : ∀ l, ∀ p ∈ pcs g l, p.length <= l.length
 | [], p, h => by simp [pcs] at h; subst h; simp
 | x :: l, p, h => by
  have ih := pcs_sum g l
  unfold pcs at h
  split at h
  next hx =>
   rcases List.mem_cons.1 h with h | h
   ·subst h; simp
   ·have := ih p h; simp; omega
  next hx =>
   rcases hp : pcs g l with _ | ⟨q, qs⟩
   ·exact absurd hp (pcs_ne g l)
   ·rw [hp] at h ih
    rcases List.mem_cons.1 h with h | h
    ·subst h
     have := ih q (by simp)
     simp; omega
    ·have := ih p (by simp [h]); simp; omega
theorem idx_cases (g : UInt8) : ∀ l, (Lib.indexByte l g = -1 /\ g ∉ l) ∨ ∃ i : Nat, Lib.indexByte l g = i /\ i < l.length /\ l = l.take i ++ g :: l.drop (i + 1) /\ g ∉ l.take i
 | [] => .inl ⟨rfl, by simp⟩
 | x :: l => by
  unfold Lib.indexByte
  by_cases hx : x = g
  ·subst hx
   right
   exact ⟨0, by simp, by simp, by simp, by simp⟩
  ·rw [if_neg (by simpa using hx)]
   rcases idx_cases g l with ⟨h1, h2⟩ | ⟨i, h1, h2, h3, h4⟩
   ·left
    rw [h1]
    exact ⟨by simp, by simp only [List.mem_cons, not_or]; exact ⟨fun e => hx e.symm, h2⟩⟩
   ·right
    rw [h1]
    refine ⟨i + 1, by rw [if_neg (by simp)]; rfl, by simp only [List.length_cons]; omega, ?_, ?_⟩
    ·rw [List.take_succ_cons, List.drop_succ_cons, List.cons_append, <- h3]
    ·rw [List.take_succ_cons]
     simp only [List.mem_cons, not_or]
     exact ⟨fun e => hx e.symm, h4⟩
theorem splitK_pcs (g : UInt8) : ∀ (k : Nat) (l : List UInt8), l.count g = k -> Lib.splitK [g] 0 k l = pcs g l
 | 0, l, h => by
  have : g ∉ l := fun e => by have := List.count_pos_iff.2 e; omega
  rw [pcs_none this]; rfl
 | k + 1, l, h => by
  have hm : g ∈ l := List.count_pos_iff.1 (by omega)
  rcases idx_cases g l with ⟨h1, h2⟩ | ⟨i, h1, h2, h3, h4⟩
  ·exact absurd hm h2
  ·unfold Lib.splitK
   rw [Lib.index_one, h1, if_neg (by simp), Int.toNat_natCast, Nat.add_zero, List.length_singleton]
   have hc : (l.drop (i + 1)).count g = k := by
    have h5 := congrArg (List.count g) h3
    rw [List.count_append, List.count_cons_self, List.count_eq_zero.2 h4] at h5
    omega
   rw [splitK_pcs g k _ hc]
   conv => rhs; rw [h3]
   rw [pcs_hit h4]
theorem split_pcs (s sep : ByteArray) (g : UInt8) (h : sep.data.toList = [g]) : (Lib.splitB sep 0 (Lib.countB s sep) s).map (fun x => x.data.toList) = pcs g s.data.toList := by
 have e : Lib.countB s sep = s.data.toList.count g := by unfold Lib.countB; rw [h, Lib.count_one]
 rw [Lib.splitB_data, h, e]
 exact splitK_pcs g _ _ rfl
end Go.Proofs.YtbnjejenejoibaaGreatDoor
namespace Go.Proofs
open Go.Shelf
end Go.Proofs
namespace Go.Proofs.YtbnjejenejoibaaGreatDoor
open Go.RowKit
section
variable {P : Program} {ops : Array Oper} {Q : Exit -> Act -> World -> Prop} {md : Region.Mode} {T : World -> Prop} {k : Nat}
def Till (P : Program) (md : Region.Mode) (ops : Array Oper) (Q : Exit -> Act -> World -> Prop) (T : World -> Prop) (k : Nat) : Nat -> Array Bool -> Act -> World -> Prop
 | 0, ls, a, w => Region.ready md ops ls = [] /\ Q .normal a w
 | n + 1, ls, a, w => (Region.ready md ops ls = [] -> Q .normal a w) /\
   ∀ i ∈ Region.ready md ops ls, wpOp P ops Q i (fun a' w' => ((ls.setIfInBounds i true).getD k true = false -> T w') /\ Till P md ops Q T k n (ls.setIfInBounds i true) a' w') a w
theorem Till.any : ∀ (n : Nat) (ls : Array Bool) (a : Act) (w : World), Till P md ops Q T k n ls a w -> wpAny P md ops Q n ls a w
 | 0, _, _, _, h => h
 | n + 1, _, _, _, h => ⟨h.1, fun i hi => wpOp_mono (fun a' w' h' => Till.any n _ a' w' h'.2) (h.2 i hi)⟩
def Closed (md : Region.Mode) (ops : Array Oper) (ls : Array Bool) : Prop :=
 ∀ (j : Nat) (oj : Oper), ops[j]? = some oj -> ls.getD j false = true -> ∀ e ∈ oj.after, Region.binds md e = true -> ls.getD e.on false = true
def closedB (md : Region.Mode) (ops : Array Oper) (ls : Array Bool) : Bool :=
 (List.range ops.size).all fun j => !(ls.getD j false) || match ops[j]? with
  | some oj => oj.after.all fun e => !(Region.binds md e) || ls.getD e.on false
  | none => true
theorem closed_of {ls : Array Bool} (h : closedB md ops ls = true) : Closed md ops ls := by
 intro j oj ho hl e he hb
 unfold closedB at h
 rw [List.all_eq_true] at h
 have hj : j < ops.size := by
  rcases Nat.lt_or_ge j ops.size with h | h
  ·exact h
  ·rw [Array.getElem?_eq_none h] at ho; cases ho
 have h1 := h j (List.mem_range.2 hj)
 rw [hl, ho] at h1
 simp only [Bool.not_true, Bool.false_or] at h1
 have h2 := Array.all_eq_true_iff_forall_mem.1 h1 e he
 rw [hb] at h2
 simpa using h2
theorem Closed.set {ls : Array Bool} (h : Closed md ops ls) {j : Nat} (hj : j ∈ Region.ready md ops ls) : Closed md ops (ls.setIfInBounds j true) := by
 intro m om ho hl e he hb
 by_cases hm : j = m
 ·subst hm
  obtain ⟨_, o', ho', hall⟩ := mem_ready.1 hj
  rw [ho] at ho'
  injection ho' with ho'
  subst ho'
  exact getD_set_true (hall e he hb)
 ·rw [getD_set_ne false hm] at hl
  exact getD_set_true (h m om ho hl e he hb)
def waitsBy (md : Region.Mode) (ops : Array Oper) : Nat -> List Nat -> Nat -> Bool
 | i, [], k => Region.waitsFor md ops k i
 | i, j :: l, k => Region.waitsFor md ops j i && waitsBy md ops j l k
theorem Closed.back {ls : Array Bool} (h : Closed md ops ls) : ∀ (l : List Nat) (i : Nat), waitsBy md ops i l k = true -> k ∈ Region.ready md ops ls -> ls.getD i false = true
 | [], i, hw, hk => by
  obtain ⟨oj, ho, e, he, hb, hon⟩ := Region.waitsFor_spec hw
  obtain ⟨_, o', ho', hall⟩ := mem_ready.1 hk
  rw [ho] at ho'
  injection ho' with ho'
  subst ho'
  exact hon ▸ hall e he hb
 | j :: l, i, hw, hk => by
  unfold waitsBy at hw
  rw [Bool.and_eq_true] at hw
  obtain ⟨oj, ho, e, he, hb, hon⟩ := Region.waitsFor_spec hw.1
  exact hon ▸ h j oj ho (h.back l j hw.2 hk) e he hb
theorem not_listed {i : Nat} {ls : Array Bool} (hi : i ∈ Region.ready md ops ls) (h1 : ls.getD i false = true) : False := by
 have h0 := (mem_ready.1 hi).1
 rcases Nat.lt_or_ge i ls.size with h | h
 ·simp [h] at h0 h1
  rw [h0] at h1
  cases h1
 ·simp [Array.getElem?_eq_none h] at h1
theorem Till.first {i : Nat} {oi : Oper} {v : Value} (hi : ops[i]? = some oi) (hsel : ∀ (j : Nat) (o : Oper) cs b, ops[j]? = some o -> o.op ≠ .select cs b)
  (hQ : ∀ c a w, Q (.panic c) (a.put oi.dst v) w -> Q (.panic c) a w) {l : List Nat} (hk : waitsBy md ops i l k = true) (hki : k ≠ i) :
  ∀ (n : Nat) (ls : Array Bool) (a : Act) (w : World),
   (∀ j oj, ops[j]? = some oj -> j ≠ i -> ls.getD j true = false -> (∀ e ∈ oj.after, Region.binds md e = true -> e.on ≠ i) -> oi.apart ops oj = true) ->
   i ∈ Region.ready md ops ls -> Closed md ops ls -> ls.getD k true = false -> YieldsIf P ops T oi v a -> T w ->
   Till P md ops Q T k n (ls.setIfInBounds i true) (a.put oi.dst v) w -> Till P md ops Q T k (n + 1) ls a w := by
 intro n
 induction n with
 | zero =>
  intro ls a w _ hr _ _ hy hT H
  refine ⟨fun h => (by rw [h] at hr; cases hr), fun j hj => ?_⟩
  by_cases hji : j = i
  ·subst hji
   exact hy.wpOp hi hT ⟨fun _ => hT, H⟩
  ·have h := ready_mono hj hji
   rw [H.1] at h
   cases h
 | succ n ih =>
  intro ls a w hfree hr hcl hkl hy hT H
  refine ⟨fun h => (by rw [h] at hr; cases hr), fun j hj => ?_⟩
  by_cases hji : j = i
  ·subst hji
   exact hy.wpOp hi hT ⟨fun _ => hT, H⟩
  ·have hjk : j ≠ k := fun e => not_listed hr (hcl.back l i hk (e ▸ hj))
   obtain ⟨hun, oj, ho, hall⟩ := mem_ready.1 hj
   have hno : ∀ e ∈ oj.after, Region.binds md e = true -> e.on ≠ i := fun e he hb hon =>
    not_listed hr (hon ▸ hall e he hb)
   have h2 := wpOp_putIf ho (hfree j oj ho hji hun hno) (fun cs b => hsel i oi cs b hi) (fun cs b => hsel j oj cs b ho) hQ hy (H.2 j (ready_mono hj hji))
   refine wpOp_mono (fun a' w' h3 => ?_) h2
   obtain ⟨hy', hT', hrest⟩ := h3
   have hTw : T w' := hT' (by rw [getD_set_ne true hjk, getD_set_ne true (Ne.symm hki)]; exact hkl)
   refine ⟨fun _ => hTw, ih _ a' w' ?_ (ready_mono hr (Ne.symm hji)) (hcl.set hj) (by rw [getD_set_ne true hjk]; exact hkl) hy' hTw ?_⟩
   ·intro m om hm hmi hmu hmn
    refine hfree m om hm hmi ?_ hmn
    by_cases hjm : j = m
    ·subst hjm; exact hun
    ·rwa [getD_set_ne true hjm] at hmu
   ·rw [Array.setIfInBounds_comm _ _ hji]
    exact hrest
theorem Till.take {i : Nat} {oi : Oper} {v : Value} {n : Nat} {ls : Array Bool} {a : Act} {w : World} (hi : ops[i]? = some oi)
  (hs : Region.noSelect ops = true) (hf : Region.free md ops ls i = true) (hr : (Region.ready md ops ls).contains i = true) (l : List Nat) (hk : waitsBy md ops i l k = true) (hki : k ≠ i) (hcl : closedB md ops ls = true) (hkl : ls.getD k true = false)
  (hQ : ∀ c a w, Q (.panic c) (a.put oi.dst v) w -> Q (.panic c) a w) (hT : T w) (hy : YieldsIf P ops T oi v a)
  (h : Till P md ops Q T k n (ls.setIfInBounds i true) (a.put oi.dst v) w) : Till P md ops Q T k (n + 1) ls a w :=
 Till.first hi (Region.noSelect_spec hs) hQ hk hki n ls a w (Region.free_spec hi hf) (by simpa using hr) (closed_of hcl) hkl hy hT h
theorem Till.a : type_of% @List.setIfInBounds_toArray := @List.setIfInBounds_toArray
theorem Till.b : type_of% @List.set_cons_zero := @List.set_cons_zero
theorem Till.c : type_of% @List.set_cons_succ := @List.set_cons_succ
theorem Till.tk {i : Nat} {oi : Oper} {v : Value} {n : Nat} {ls : Array Bool} {a : Act} {w : World} (hi : ops[i]? = some oi) (l : List Nat) (hT : T w) (hy : YieldsIf P ops T oi v a)
  (h : Till P md ops Q T k n (ls.setIfInBounds i true) (a.put oi.dst v) w) (hs : Region.noSelect ops = true := by kernel_rfl) (hf : Region.free md ops ls i = true := by kernel_rfl) (hr : (Region.ready md ops ls).contains i = true := by kernel_rfl) (hk : waitsBy md ops i l k = true := by kernel_rfl) (hki : k ≠ i := by decide) (hcl : closedB md ops ls = true := by kernel_rfl) (hkl : ls.getD k true = false := by kernel_rfl)
  (hQ : ∀ c a w, Q (.panic c) (a.put oi.dst v) w -> Q (.panic c) a w := by exact fun _ _ _ h => h) : Till P md ops Q T k (n + 1) ls a w :=
 Till.take hi hs hf hr l hk hki hcl hkl hQ hT hy h
theorem Till.step {i : Nat} {o : Oper} {n : Nat} {ls : Array Bool} {a : Act} {w : World} (hr : Region.ready md ops ls = [i]) (ho : ops[i]? = some o)
  (h : ∀ K' : Act -> World -> Prop, Hid (∀ a w, ((ls.setIfInBounds i true).getD k true = false -> T w) -> Till P md ops Q T k n (ls.setIfInBounds i true) a w -> K' a w) ->
   if Region.wanted o (yielded ops a.tmps) = true then Oper.wp P o a w K' Q else K' (a.put o.dst undef) w) : Till P md ops Q T k (n + 1) ls a w :=
 ⟨fun h0 => (by rw [hr] at h0; cases h0), fun j hj => by
  rw [hr] at hj
  obtain rfl := List.mem_singleton.1 hj
  exact wpOp_step ho fun K' hK => h K' fun a w h1 h2 => hK a w ⟨h1, h2⟩⟩
theorem Till.done {ls : Array Bool} {a : Act} {w : World} (hr : Region.ready md ops ls = []) (h : Q .normal a w) : ∀ n, Till P md ops Q T k n ls a w
 | 0 => ⟨hr, h⟩
 | _ + 1 => ⟨fun _ => h, by rw [hr]; intro i hi; cases hi⟩
theorem region_till {id : Nat} {a : Act} {w : World} (k : Nat) (T : World -> Prop) (hm : P.follows .mixedOrders = true)
  (h : Till P .any ops Q T k ops.size (Array.replicate ops.size false) a w.drew) : (Code.region id ops true).wp P Q a w :=
 wp_region_any hm (Till.any _ _ _ _ h)
end
end Go.Proofs.YtbnjejenejoibaaGreatDoor
