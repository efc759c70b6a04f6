
/- Plain facts on reading days: parts of digits, weeks. No program in sight. -/
import Derived.Test.YtmeefinnefanpaaDoorE0
import Derived.Test.YtmeefinnefanpaaDoorK1
import Derived.Lib.Atoi
namespace Go.Proofs.YtmeefinnefanpaaDoor.Work
open Nmb
set_option linter.unusedVariables false

/-! ### The number that digits spell -/
def dvF : List UInt8 → Nat → Nat
  | [], a => a
  | c :: l, a => dvF l (10 * a + (c.toNat - 48))
theorem dvF_cons (c : UInt8) (l : List UInt8) (a : Nat) : dvF (c :: l) a = dvF l (10 * a + (c.toNat - 48)) := rfl
def dv (l : List UInt8) : Nat := dvF l 0
theorem dvF_append (l m : List UInt8) : ∀ a, dvF (l ++ m) a = dvF m (dvF l a) := by
  induction l with
  | nil => intro a; rfl
  | cons c l ih => intro a; exact ih _
theorem dv_take {l : List UInt8} {k : Nat} (h : k < l.length) : dv (l.take (k + 1)) = 10 * dv (l.take k) + (l[k].toNat - 48) := by
  unfold dv
  rw [List.take_succ_eq_append_getElem h, dvF_append]; rfl
theorem digs_mem {l : List UInt8} (h : digs l = true) : ∀ c ∈ l, 48 ≤ c.toNat ∧ c.toNat ≤ 57 := by
  intro c hc
  obtain ⟨i, hi, rfl⟩ := List.getElem_of_mem hc
  have := (digs_yes h).2 i hi
  unfold dgt at this
  rw [byA_get hi] at this
  omega
theorem mem_digs {l : List UInt8} (h0 : 0 < l.length) (h : ∀ c ∈ l, 48 ≤ c.toNat ∧ c.toNat ≤ 57) : digs l = true := by
  refine digs_mk h0 (fun i hi => ?_)
  have := h l[i] (List.getElem_mem hi)
  unfold dgt
  rw [byA_get hi]
  omega
theorem dvF_lt : ∀ (l : List UInt8) (a : Nat), (∀ c ∈ l, 48 ≤ c.toNat ∧ c.toNat ≤ 57) → dvF l a < (a + 1) * 10 ^ l.length
  | [], a, _ => by show a < (a + 1) * 1; omega
  | c :: l, a, h => by
    have h1 := h c (by simp)
    have := dvF_lt l (10 * a + (c.toNat - 48)) (fun d hd => h d (by simp [hd]))
    rw [dvF_cons, List.length_cons, Nat.pow_succ]
    have h2 : (10 * a + (c.toNat - 48) + 1) * 10 ^ l.length ≤ (10 * (a + 1)) * 10 ^ l.length := Nat.mul_le_mul_right _ (by omega)
    have h3 : (10 * (a + 1)) * 10 ^ l.length = (a + 1) * (10 ^ l.length * 10) := by rw [Nat.mul_comm 10 (a + 1), Nat.mul_assoc, Nat.mul_comm 10]
    omega
theorem dv_lt {l : List UInt8} (h : digs l = true) : dv l < 10 ^ l.length := by
  have := dvF_lt l 0 (digs_mem h)
  unfold dv
  omega
theorem dv_lt4 {l : List UInt8} (h : digs l = true) (hl : l.length ≤ 4) : dv l < 10000 := by
  have := dv_lt h
  have h2 : 10 ^ l.length ≤ 10 ^ 4 := Nat.pow_le_pow_right (by decide) hl
  omega
theorem dec_dv : ∀ (l : List UInt8) (a : Nat), (∀ c ∈ l, 48 ≤ c.toNat ∧ c.toNat ≤ 57) → Lib.decFrom a l = some (dvF l a)
  | [], a, _ => rfl
  | c :: l, a, h => by
    have h1 := h c (by simp)
    have e : Lib.digitVal c = some (c.toNat - 48) := by unfold Lib.digitVal; rw [if_pos h1]
    rw [Lib.decFrom, e]
    show Lib.decFrom (a * 10 + (c.toNat - 48)) l = some (dvF l (10 * a + (c.toNat - 48)))
    rw [Nat.mul_comm a 10]
    exact dec_dv l _ (fun d hd => h d (by simp [hd]))
theorem atoi_dv {l : List UInt8} (h : digs l = true) : Lib.atoi l = some ((dv l : Nat) : Int) := by
  have hm := digs_mem h
  have h0 := (digs_yes h).1
  match l, hm, h0 with
  | c :: l, hm, _ =>
    have h1 := hm c (by simp)
    have n45 : (c == 45) = false := by
      rw [beq_eq_false_iff_ne]; intro e; subst e; revert h1; decide
    have n43 : (c == 43) = false := by
      rw [beq_eq_false_iff_ne]; intro e; subst e; revert h1; decide
    rw [Lib.atoi, n45, n43]
    show (Lib.decNat (c :: l)).map _ = _
    unfold Lib.decNat
    rw [if_neg (by simp), dec_dv (c :: l) 0 hm]
    rfl
def numF (l : List UInt8) : Int := if digs l = true then (dv l : Int) else -1
theorem numF_yes {l : List UInt8} (h : digs l = true) : numF l = (dv l : Int) := if_pos h
theorem numF_no {l : List UInt8} (h : digs l = false) : numF l = -1 := if_neg (by rw [h]; simp)
theorem numF_bd {l : List UInt8} (hl : l.length ≤ 4) : -1 ≤ numF l ∧ numF l ≤ 9999 := by
  cases h : digs l with
  | true => rw [numF_yes h]; have := dv_lt4 h hl; omega
  | false => rw [numF_no h]; omega

/-! ### Parts -/
def prt : List Nat → List UInt8 → Option (List Int)
  | [], l => if l.isEmpty = true then some [] else none
  | n :: ws, l => if n ≤ l.length ∧ digs (l.take n) = true then (prt ws (l.drop n)).map (fun r => ((dv (l.take n) : Nat) : Int) :: r) else none
theorem prt_short {n : Nat} {ws : List Nat} {l : List UInt8} (h : l.length < n) : prt (n :: ws) l = none := by rw [prt, if_neg (by omega)]
theorem prt_bad {n : Nat} {ws : List Nat} {l : List UInt8} (h : digs (l.take n) = false) : prt (n :: ws) l = none := by rw [prt, if_neg (by rw [h]; simp)]
theorem prt_next {n : Nat} {ws : List Nat} {l : List UInt8} (h : n ≤ l.length) (hd : digs (l.take n) = true) : prt (n :: ws) l = (prt ws (l.drop n)).map (fun r => ((dv (l.take n) : Nat) : Int) :: r) := by rw [prt, if_pos ⟨h, hd⟩]
theorem prt3 {a b c : Nat} (hc : 0 < c) (l : List UInt8) : prt [a, b, c] l =
    if l.length = a + b + c ∧ digs (l.take a) = true ∧ digs ((l.drop a).take b) = true ∧ digs (l.drop (a + b)) = true then some [(dv (l.take a) : Int), (dv ((l.drop a).take b) : Int), (dv (l.drop (a + b)) : Int)] else none := by
  have hd : (l.drop a).drop b = l.drop (a + b) := by rw [List.drop_drop]
  have hlen : (l.drop (a + b)).length = l.length - (a + b) := by simp
  by_cases h1 : a ≤ l.length ∧ digs (l.take a) = true
  case neg => rw [prt, if_neg h1, if_neg (fun h => h1 ⟨by omega, h.2.1⟩)]
  rw [prt_next h1.1 h1.2]
  by_cases h2 : b ≤ (l.drop a).length ∧ digs ((l.drop a).take b) = true
  case neg =>
    rw [prt, if_neg h2, if_neg (fun h => h2 ⟨by simp; omega, h.2.2.1⟩)]; rfl
  rw [prt_next h2.1 h2.2, hd]
  have hb : b ≤ l.length - a := by have := h2.1; simpa using this
  by_cases h3 : c ≤ (l.drop (a + b)).length ∧ digs ((l.drop (a + b)).take c) = true
  case neg =>
    rw [prt, if_neg h3, if_neg (fun h => h3 ⟨by omega, by rw [List.take_of_length_le (by omega)]; exact h.2.2.2⟩)]; rfl
  rw [prt_next h3.1 h3.2, prt]
  by_cases h4 : ((l.drop (a + b)).drop c).isEmpty = true
  · have h5 : (l.drop (a + b)).length ≤ c := by rw [List.isEmpty_iff] at h4; have := congrArg List.length h4; simp at this; simp; omega
    rw [if_pos h4, List.take_of_length_le h5]
    rw [List.take_of_length_le h5] at h3
    rw [if_pos ⟨by have := h3.1; omega, h1.2, h2.2, h3.2⟩]; rfl
  · rw [if_neg h4, if_neg (fun h => h4 (by rw [List.isEmpty_iff]; apply List.eq_nil_of_length_eq_zero; simp; omega))]; rfl

/-! ### Days that are read -/
def dayO (y m d : Int) : Option Int := if dateB y m d = true then some (num y m d) else none
theorem dayO_neg {y m d : Int} (h : y < 1 ∨ m < 1 ∨ d < 1) : dayO y m d = none := by
  unfold dayO; rw [if_neg]; intro h2; have := dateB_yes h2; omega
/-- The day of a year, a week and a day in it. -/
def weekN (y w d : Int) : Int := bef y + 4 - (bef y + 4 - 1) % 7 + (w - 1) * 7 + d - 1
def weekB (y w d : Int) : Bool := decide ((1 ≤ y ∧ y ≤ 9999) ∧ (1 ≤ d ∧ d ≤ 7) ∧ (1 ≤ weekN y w d ∧ weekN y w d ≤ 3652059) ∧ bef y < thu (weekN y w d) ∧ thu (weekN y w d) ≤ bef (y + 1) ∧ wk (weekN y w d) y = w)
def weekO (y w d : Int) : Option Int := if weekB y w d = true then some (weekN y w d) else none
/-- A day with this year, week and day in it is that one. -/
theorem week_day {day y w d : Int} (h1 : bef y < thu day) (h2 : wk day y = w) (h3 : (day - 1) % 7 + 1 = d) : day = weekN y w d := by
  subst h2 h3
  unfold weekN wk
  unfold thu at h1 ⊢
  omega
theorem week_in {y w d : Int} (h : weekB y w d = true) : 1 ≤ w ∧ w ≤ 53 ∧ (weekN y w d - 1) % 7 + 1 = d ∧ bef y + 1 - 7 ≤ weekN y w d ∧ weekN y w d ≤ bef y + 1 + 380 := by
  obtain ⟨a, b, c, e, f, g⟩ := of_decide_eq_true h
  have hw := wk_bd e f
  rw [g] at hw
  refine ⟨hw.1, hw.2, ?_, ?_, ?_⟩
  · unfold weekN; omega
  · unfold weekN; omega
  · unfold weekN; omega
theorem weekB_of {day y w d : Int} (hy : 1 ≤ y ∧ y ≤ 9999) (hd : 1 ≤ day ∧ day ≤ 3652059) (h1 : bef y < thu day) (h1' : thu day ≤ bef (y + 1)) (h2 : wk day y = w) (h3 : (day - 1) % 7 + 1 = d) : weekB y w d = true := by
  have e := week_day h1 h2 h3
  rw [e] at hd h1 h1' h2
  exact decide_eq_true ⟨hy, by omega, hd, h1, h1', h2⟩
theorem weekO_no {y w d : Int} (h : weekB y w d = false) : weekO y w d = none := if_neg (by rw [h]; simp)
theorem weekO_yes {y w d : Int} (h : weekB y w d = true) : weekO y w d = some (weekN y w d) := if_pos h
theorem weekB_neg {y w d : Int} (h : y < 1 ∨ w < 1 ∨ d < 1 ∨ 7 < d) : weekB y w d = false := by
  cases e : weekB y w d with
  | false => rfl
  | true =>
    have a := week_in e
    have b := of_decide_eq_true e
    omega
def pointB (l : List UInt8) : Bool := decide (l.length = 10 ∧ byA l 4 = 45 ∧ byA l 7 = 45)
/-- What is read by a form. -/
def readO (form pivot : Int) (l : List UInt8) : Option Int :=
  if form = 1 then (if l.length = 8 then dayO (numF (l.take 4)) (numF ((l.drop 4).take 2)) (numF (l.drop 6)) else none)
  else if form = 2 then (if l.length = 6 then (if 0 ≤ numF (l.take 2) then dayO (pivot + (numF (l.take 2) - pivot) % 100) (numF ((l.drop 2).take 2)) (numF (l.drop 4)) else none) else none)
  else if form = 3 then (if l.length = 8 then dayO (numF (l.drop 4)) (numF ((l.drop 2).take 2)) (numF (l.take 2)) else none)
  else if form = 4 then (if pointB l = true then dayO (numF (l.take 4)) (numF ((l.drop 5).take 2)) (numF (l.drop 8)) else none)
  else (if l.length = 7 then weekO (numF (l.take 4)) (numF ((l.drop 4).take 2)) (numF (l.drop 6)) else none)
/-- What the program makes of three numbers. -/
def opt3 (f : Int → Int → Int → Option Int) : Option (List Int) → Option Int
  | some [x, y, z] => f x y z
  | _ => none
theorem opt3_prt {a b c : Nat} (hc : 0 < c) (l : List UInt8) (f : Int → Int → Int → Option Int) (hf : ∀ x y z, (x = -1 ∨ y = -1 ∨ z = -1) → f x y z = none) :
    opt3 f (prt [a, b, c] l) = if l.length = a + b + c then f (numF (l.take a)) (numF ((l.drop a).take b)) (numF (l.drop (a + b))) else none := by
  rw [prt3 hc]
  by_cases hl : l.length = a + b + c
  case neg => rw [if_neg (fun h => hl h.1), if_neg hl]; rfl
  rw [if_pos hl]
  cases h1 : digs (l.take a) with
  | false => rw [if_neg (by simp), hf _ _ _ (.inl (numF_no h1))]; rfl
  | true =>
  cases h2 : digs ((l.drop a).take b) with
  | false => rw [if_neg (by simp), hf _ _ _ (.inr (.inl (numF_no h2)))]; rfl
  | true =>
  cases h3 : digs (l.drop (a + b)) with
  | false => rw [if_neg (by simp), hf _ _ _ (.inr (.inr (numF_no h3)))]; rfl
  | true => rw [if_pos ⟨hl, rfl, rfl, rfl⟩, numF_yes h1, numF_yes h2, numF_yes h3]; rfl
end Go.Proofs.YtmeefinnefanpaaDoor.Work
