/- Plain facts on working days: a search, a count, and the two ways of counting. No program in sight. Plain facts on dates: years, months and the number of a day. -/
import Derived.Lib.SplitLaws
import Derived.Lib.IndexBytes
import Derived.Lib.Hide
import Derived.Test.YthjlleifpnpfgaaGreatDoorProg
import Derived.Shelf.Lay
import Derived.Shelf.Strings.BuilderF
import Derived.Shelf.Strings.OnBuilder
import Derived.Shelf.Strings.BuilderK
-- merged: D0 D2 K0 Q0 HB
namespace Go.Proofs.YthjlleifpnpfgaaGreatDoor.Work
def dayB (d : Int) : Bool := decide (1 <= d /\ d <= 3652059)
theorem dayB_yes {d : Int} (h : dayB d = true) : 1 <= d /\ d <= 3652059 := by simpa [dayB] using h
theorem dayB_mk {d : Int} (h : 1 <= d /\ d <= 3652059) : dayB d = true := by simpa [dayB] using h
theorem dayB_not {d : Int} (h : ¬ (1 <= d /\ d <= 3652059)) : dayB d = false := by
 cases e : dayB d with
 | false => rfl
 | true => exact absurd (dayB_yes e) h
def cnt (p : Int -> Bool) (a : Int) : Nat -> Int
 | 0 => 0
 | k + 1 => cnt p a k + if p (a + k) = true then 1 else 0
end Go.Proofs.YthjlleifpnpfgaaGreatDoor.Work
namespace Go.Proofs.YthjlleifpnpfgaaGreatDoor.Work
def leapB (y : Int) : Bool := decide (y % 4 = 0 /\ (y % 100 ≠ 0 ∨ y % 400 = 0))
theorem leapB_yes {y : Int} (h : leapB y = true) : y % 4 = 0 /\ (y % 100 ≠ 0 ∨ y % 400 = 0) := by simpa [leapB] using h
theorem leapB_no {y : Int} (h : leapB y = false) : ¬ (y % 4 = 0 /\ (y % 100 ≠ 0 ∨ y % 400 = 0)) := of_decide_eq_false h
def dim (y m : Int) : Int := if m = 2 then (if leapB y = true then 29 else 28) else if m = 4 ∨ m = 6 ∨ m = 9 ∨ m = 11 then 30 else 31
theorem dim_bd (y m : Int) : 28 <= dim y m /\ dim y m <= 31 := by unfold dim; split <;> split <;> omega
def bef (y : Int) : Int := 365 * (y - 1) + (y - 1) / 4 - (y - 1) / 100 + (y - 1) / 400
def cum (y : Int) : Nat -> Int
 | 0 => 0
 | k + 1 => cum y k + dim y ((k : Int) + 1)
theorem cum_12 (y : Int) : cum y 12 = 365 + if leapB y = true then 1 else 0 := by
 simp only [cum, dim]
 simp
 split <;> omega
theorem bef_succ (y : Int) : bef (y + 1) = bef y + cum y 12 := by
 rw [cum_12]
 unfold bef
 by_cases h : leapB y = true
 ·rw [if_pos h]
  have := leapB_yes h
  omega
 ·rw [if_neg h]
  have := leapB_no (by simpa using h)
  omega
theorem cum_12_bd (y : Int) : 365 <= cum y 12 /\ cum y 12 <= 366 := by rw [cum_12]; split <;> omega
theorem cum_lt (y : Int) {i j : Nat} (h : i < j) : cum y i + 28 <= cum y j := by
 obtain ⟨k, rfl⟩ : ∃ k, j = i + k + 1 := ⟨j - i - 1, by omega⟩
 clear h
 induction k with
 | zero => rw [Nat.add_zero, cum]; have := dim_bd y ((i : Int) + 1); omega
 | succ k ih =>
  rw [show i + (k + 1) + 1 = i + k + 1 + 1 by omega, cum]
  have := dim_bd y (((i + k + 1 : Nat) : Int) + 1)
  omega
theorem cum_le (y : Int) {i j : Nat} (h : i <= j) : cum y i <= cum y j := by
 rcases Nat.eq_or_lt_of_le h with e | e
 ·rw [e]; exact Int.le_refl _
 ·have := cum_lt y e; omega
theorem bef_mono {a b : Int} (h : a <= b) : bef a <= bef b := by unfold bef; omega
theorem bef_guess {day : Int} (h : 1 <= day) : bef (day / 366 + 1) < day := by unfold bef; omega
theorem bef_end : bef 10000 = 3652059 := by decide
theorem bef_bd {y : Int} (h : 1 <= y) (h2 : y <= 10000) : 0 <= bef y /\ bef y <= 3652059 := by unfold bef; omega
def num (y m d : Int) : Int := bef y + cum y (m - 1).toNat + d
def dateB (y m d : Int) : Bool := decide ((1 <= y /\ y <= 9999) /\ (1 <= m /\ m <= 12) /\ (1 <= d /\ d <= dim y m))
theorem dateB_yes {y m d : Int} (h : dateB y m d = true) : (1 <= y /\ y <= 9999) /\ (1 <= m /\ m <= 12) /\ (1 <= d /\ d <= dim y m) := of_decide_eq_true h
theorem dateB_mk {y m d : Int} (h : (1 <= y /\ y <= 9999) /\ (1 <= m /\ m <= 12) /\ (1 <= d /\ d <= dim y m)) : dateB y m d = true := decide_eq_true h
theorem dateB_not {y m d : Int} (h : ¬ ((1 <= y /\ y <= 9999) /\ (1 <= m /\ m <= 12) /\ (1 <= d /\ d <= dim y m))) : dateB y m d = false := decide_eq_false h
theorem num_year {y m d : Int} (h : dateB y m d = true) : bef y < num y m d /\ num y m d <= bef (y + 1) := by
 obtain ⟨h1, h2, h3⟩ := dateB_yes h
 obtain ⟨k, rfl⟩ : ∃ k : Nat, m = (k : Int) + 1 := ⟨(m - 1).toNat, by omega⟩
 have e : ((k : Int) + 1 - 1).toNat = k := by omega
 unfold num
 rw [e, bef_succ]
 have a := cum_le y (i := 0) (j := k) (by omega)
 have b := cum_le y (i := k + 1) (j := 12) (by omega)
 rw [cum] at a
 rw [cum] at b
 omega
theorem num_day {y m d : Int} (h : dateB y m d = true) : 1 <= num y m d /\ num y m d <= 3652059 := by
 have h1 := num_year h
 have h2 := dateB_yes h
 have a := bef_bd (y := y) (by omega) (by omega)
 have b := bef_bd (y := y + 1) (by omega) (by omega)
 omega
def DateIs (day y m d : Int) : Prop := dateB y m d = true /\ num y m d = day
end Go.Proofs.YthjlleifpnpfgaaGreatDoor.Work
namespace Go.Proofs.YthjlleifpnpfgaaGreatDoor.Nmb
set_option linter.unusedVariables false
def byA (l : List UInt8) (i : Nat) : Int := ((l.getD i 48).toNat : Int)
def dgt (l : List UInt8) (i : Nat) : Int := byA l i - 48
theorem byA_get {l : List UInt8} {i : Nat} (h : i < l.length) : byA l i = (l[i].toNat : Int) := by
 unfold byA
 rw [List.getD_eq_getElem?_getD, List.getElem?_eq_getElem h]; rfl
def tr (i : Nat) : Int := if i % 2 = 1 then 3 else 1
def inL (l : List UInt8) (a b : Int) : Bool := decide (∀ i, i < l.length -> a <= byA l i /\ byA l i <= b)
theorem inL_yes {l : List UInt8} {a b : Int} (h : inL l a b = true) {i : Nat} (hi : i < l.length) : a <= byA l i /\ byA l i <= b := of_decide_eq_true h i hi
theorem inL_mk {l : List UInt8} {a b : Int} (h : ∀ i, i < l.length -> a <= byA l i /\ byA l i <= b) : inL l a b = true := decide_eq_true h
theorem inL_no {l : List UInt8} {a b : Int} {i : Nat} (hi : i < l.length) (h : ¬ (a <= byA l i /\ byA l i <= b)) : inL l a b = false := decide_eq_false (fun k => h (k i hi))
def digs (l : List UInt8) : Bool := inL l 48 57 && !l.isEmpty
theorem digs_yes {l : List UInt8} (h : digs l = true) : 0 < l.length /\ ∀ i, i < l.length -> 0 <= dgt l i /\ dgt l i <= 9 := by
 unfold digs at h
 rw [Bool.and_eq_true] at h
 refine ⟨?_, fun i hi => ?_⟩
 ·cases l with
  | nil => simp at h
  | cons a b => simp
 ·have := inL_yes h.1 hi
  unfold dgt
  omega
def tagC (c : Int) : Bool := decide ((65 <= c /\ c <= 90) ∨ (48 <= c /\ c <= 57))
def tagL (l : List UInt8) : Bool := l.all fun c => tagC (c.toNat : Int)
def valC (c : UInt8) : List UInt8 := if 65 <= (c.toNat : Int) /\ (c.toNat : Int) <= 90 then [UInt8.ofNat (48 + (c.toNat - 55) / 10), UInt8.ofNat (48 + (c.toNat - 55) % 10)] else [c]
def vals (l : List UInt8) : List UInt8 := l.flatMap valC
end Go.Proofs.YthjlleifpnpfgaaGreatDoor.Nmb
namespace Go.Proofs.YthjlleifpnpfgaaGreatDoor
set_option linter.unusedVariables false
set_option linter.unusedSimpArgs false
def qHd (x : UInt8) : List (List UInt8) -> List (List UInt8)
 | [] => [[x]]
 | p :: ps => (x :: p) :: ps
def pcs (g : UInt8) : List UInt8 -> List (List UInt8)
 | [] => [[]]
 | x :: l => if x = g then [] :: pcs g l else qHd x (pcs g l)
theorem pcs_ne (g : UInt8) : ∀ l, pcs g l ≠ []
 | [] => by simp [pcs]
 | x :: l => by
  unfold pcs
  split
  ·simp
  ·cases pcs g l <;> simp [qHd]
theorem pcs_none {g : UInt8} : ∀ {l}, g ∉ l -> pcs g l = [l]
 | [], _ => rfl
 | x :: l, h => by
  have h1 : x ≠ g := fun e => h (by simp [e])
  have h2 : g ∉ l := fun e => h (by simp [e])
  unfold pcs
  rw [if_neg h1, pcs_none h2]
  rfl
theorem pcs_hit {g : UInt8} : ∀ {a b}, g ∉ a -> pcs g (a ++ g :: b) = a :: pcs g b
 | [], b, _ => by show (if g = g then _ else _) = _; rw [if_pos rfl]
 | x :: a, b, h => by
  have h1 : x ≠ g := fun e => h (by simp [e])
  have h2 : g ∉ a := fun e => h (by simp [e])
  have ih := pcs_hit (b := b) h2
  rw [List.cons_append, pcs, if_neg h1, ih]
  rfl
theorem pcs_len (g : UInt8) : ∀ l, (pcs g l).length = l.count g + 1
 | [] => rfl
 | x :: l => by
  have ih := pcs_len g l
  unfold pcs
  split
  next h => subst h; rw [List.length_cons, ih, List.count_cons_self]
  next h =>
   rw [List.count_cons_of_ne h, <- ih]
   rcases hp : pcs g l with _ | ⟨q, qs⟩
   ·exact absurd hp (pcs_ne g l)
   ·rfl
theorem pcs_sum (g : UInt8) : ∀ l, ∀ p ∈ pcs g l, p.length <= l.length
 | [], p, h => by simp [pcs] at h; subst h; simp
 | x :: l, p, h => by
  have ih := pcs_sum g l
  unfold pcs at h
  split at h
  next hx =>
   rcases List.mem_cons.1 h with h | h
   ·subst h; simp
   ·have := ih p h; simp; omega
  next hx =>
   rcases hp : pcs g l with _ | ⟨q, qs⟩
   ·exact absurd hp (pcs_ne g l)
   ·rw [hp] at h ih
    rcases List.mem_cons.1 h with h | h
    ·subst h
     have := ih q (by simp)
     simp; omega
    ·have := ih p (by simp [h]); simp; omega
theorem idx_cases (g : UInt8) : ∀ l, (Lib.indexByte l g = -1 /\ g ∉ l) ∨ ∃ i : Nat, Lib.indexByte l g = i /\ i < l.length /\ l = l.take i ++ g :: l.drop (i + 1) /\ g ∉ l.take i
 | [] => .inl ⟨rfl, by simp⟩
 | x :: l => by
  unfold Lib.indexByte
  by_cases hx : x = g
  ·subst hx
   right
   exact ⟨0, by simp, by simp, by simp, by simp⟩
  ·rw [if_neg (by simpa using hx)]
   rcases idx_cases g l with ⟨h1, h2⟩ | ⟨i, h1, h2, h3, h4⟩
   ·left
    rw [h1]
    exact ⟨by simp, by simp only [List.mem_cons, not_or]; exact ⟨fun e => hx e.symm, h2⟩⟩
   ·right
    rw [h1]
    refine ⟨i + 1, by rw [if_neg (by simp)]; rfl, by simp only [List.length_cons]; omega, ?_, ?_⟩
    ·rw [List.take_succ_cons, List.drop_succ_cons, List.cons_append, <- h3]
    ·rw [List.take_succ_cons]
     simp only [List.mem_cons, not_or]
     exact ⟨fun e => hx e.symm, h4⟩
theorem splitK_pcs (g : UInt8) : ∀ (k : Nat) (l : List UInt8), l.count g = k -> Lib.splitK [g] 0 k l = pcs g l
 | 0, l, h => by
  have : g ∉ l := fun e => by have := List.count_pos_iff.2 e; omega
  rw [pcs_none this]; rfl
 | k + 1, l, h => by
  have hm : g ∈ l := List.count_pos_iff.1 (by omega)
  rcases idx_cases g l with ⟨h1, h2⟩ | ⟨i, h1, h2, h3, h4⟩
  ·exact absurd hm h2
  ·unfold Lib.splitK
   rw [Lib.index_one, h1, if_neg (by simp), Int.toNat_natCast, Nat.add_zero, List.length_singleton]
   have hc : (l.drop (i + 1)).count g = k := by
    have h5 := congrArg (List.count g) h3
    rw [List.count_append, List.count_cons_self, List.count_eq_zero.2 h4] at h5
    omega
   rw [splitK_pcs g k _ hc]
   conv => rhs; rw [h3]
   rw [pcs_hit h4]
theorem split_pcs (s sep : ByteArray) (g : UInt8) (h : sep.data.toList = [g]) : (Lib.splitB sep 0 (Lib.countB s sep) s).map (fun x => x.data.toList) = pcs g s.data.toList := by
 have e : Lib.countB s sep = s.data.toList.count g := by unfold Lib.countB; rw [h, Lib.count_one]
 rw [Lib.splitB_data, h, e]
 exact splitK_pcs g _ _ rfl
end Go.Proofs.YthjlleifpnpfgaaGreatDoor
namespace Go.Proofs
open Go.Shelf
end Go.Proofs
