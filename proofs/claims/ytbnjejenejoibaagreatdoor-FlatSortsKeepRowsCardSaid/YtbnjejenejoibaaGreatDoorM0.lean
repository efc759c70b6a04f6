/- Plain facts about the steps of long addition, subtraction, multiplication and division with digits of a base. No program in sight. -/
import Derived.Test.YtbnjejenejoibaaGreatDoorRH
import Derived.Lib.Atoi
-- merged: Limbs2 E0 K1 M0
namespace Go.Proofs.YtbnjejenejoibaaGreatDoor.Limb
theorem val_set (b : Nat) (l : List Nat) (k d : Nat) (hk : k < l.length) : val b (l.set k d) + b ^ k * l.getD k 0 = val b l + b ^ k * d := by
 induction l generalizing k with
 | nil => simp at hk
 | cons e l ih =>
  cases k with
  | zero => simp [val]; omega
  | succ k =>
   have := ih k (by simpa using hk)
   have e1 : (e :: l).getD (k + 1) 0 = l.getD k 0 := by simp [List.getD_eq_getElem?_getD]
   rw [e1, List.set_cons_succ, val_cons, val_cons, Nat.pow_succ]
   have h2 := congrArg (b * ·) this
   simp only [Nat.mul_add] at h2
   have h3 : b ^ k * b * l.getD k 0 = b * (b ^ k * l.getD k 0) := by rw [Nat.mul_comm (b ^ k) b, Nat.mul_assoc]
   have h4 : b ^ k * b * d = b * (b ^ k * d) := by rw [Nat.mul_comm (b ^ k) b, Nat.mul_assoc]
   omega
theorem Digs.set {b : Nat} {l : List Nat} (h : Digs b l) (k : Nat) {d : Nat} (hd : d < b) : Digs b (l.set k d) := by
 intro x hx
 rcases List.mem_or_eq_of_mem_set hx with hx | rfl
 ·exact h x hx
 ·exact hd
theorem digs_zeros {b : Nat} (hb : 0 < b) (n : Nat) : Digs b (List.replicate n 0) := by
 intro x hx
 have := List.eq_of_mem_replicate hx
 omega
theorem val_zeros (b n : Nat) : val b (List.replicate n 0) = 0 := by
 induction n with
 | zero => rfl
 | succ n ih => rw [List.replicate_succ, val_cons, ih]; simp
theorem getD_set_other {l : List Nat} {k j d : Nat} (h : j ≠ k) : (l.set k d).getD j 0 = l.getD j 0 := by
 rw [List.getD_eq_getElem?_getD, List.getD_eq_getElem?_getD, List.getElem?_set]
 rw [if_neg (by omega)]
def dig (b br p q : Nat) : Nat := if p < br + q then p + b - br - q else p - br - q
def bor (br p q : Nat) : Nat := if p < br + q then 1 else 0
theorem dig_lt {b br p q : Nat} (hbr : br <= 1) (hp : p < b) (hq : q < b) : dig b br p q < b := by
 unfold dig; split <;> omega
theorem bor_le (br p q : Nat) : bor br p q <= 1 := by unfold bor; split <;> omega
theorem dig_bor {b br p q : Nat} (hbr : br <= 1) (_hp : p < b) (hq : q < b) : dig b br p q + (br + q) = p + b * bor br p q := by
 unfold dig bor; split <;> simp <;> omega
theorem diff_step {b : Nat} {os : List Nat} {br x y p q : Nat} (h : x + b ^ os.length * br = val b os + y) (hbr : br <= 1) (hp : p < b) (hq : q < b) :
  (x + b ^ os.length * p) + b ^ (os.length + 1) * bor br p q = val b (os ++ [dig b br p q]) + (y + b ^ os.length * q) := by
 rw [val_snoc, Nat.pow_succ]
 have e := congrArg (b ^ os.length * ·) (dig_bor hbr hp hq)
 simp only [Nat.mul_add] at e
 rw [<- Nat.mul_assoc] at e
 omega
theorem diff_end {b : Nat} {os : List Nat} {br x y : Nat} (h : x + b ^ os.length * br = val b os + y) (hd : Digs b os) (hle : y <= x) : val b os = x - y := by
 have h1 := val_lt hd
 rcases Nat.eq_zero_or_pos br with h0 | h0
 ·subst h0; simp at h; omega
 ·have : b ^ os.length * 1 <= b ^ os.length * br := Nat.mul_le_mul_left _ h0
  omega
theorem mul_step {b : Nat} {os : List Nat} {j c m z : Nat} (hj : j < os.length) (h : val b os + b ^ j * c = z) :
  val b (os.set j ((c + os.getD j 0 + m) % b)) + b ^ (j + 1) * ((c + os.getD j 0 + m) / b) = z + b ^ j * m := by
 have h1 := val_set b os j ((c + os.getD j 0 + m) % b) hj
 have h2 := pow_split (b ^ j) b (c + os.getD j 0 + m)
 rw [Nat.pow_succ]
 rw [Nat.mul_add, Nat.mul_add] at h2
 omega
theorem mul_carry {b c o x y : Nat} (hc : c < b) (ho : o < b) (hx : x < b) (hy : y < b) : (c + o + x * y) / b < b := by
 rw [Nat.div_lt_iff_lt_mul (by omega)]
 have h1 : x * y <= (b - 1) * (b - 1) := Nat.mul_le_mul (by omega) (by omega)
 obtain ⟨e, rfl⟩ : ∃ e, b = e + 1 := ⟨b - 1, by omega⟩
 simp only [Nat.add_sub_cancel] at h1
 simp only [Nat.add_mul, Nat.mul_add]
 omega
theorem div_step {A i Q b r t : Nat} (h : A / 2 ^ (i + 1) = t * b + r) (hQ : Q = 2 ^ (i + 1) * t) :
  A / 2 ^ i = 2 * t * b + (2 * r + A / 2 ^ i % 2) /\ Q = 2 ^ i * (2 * t) := by
 refine ⟨?_, by rw [hQ, Nat.pow_succ, Nat.mul_assoc]⟩
 have h1 : A / 2 ^ i / 2 = t * b + r := by rw [Nat.div_div_eq_div_mul, <- Nat.pow_succ]; exact h
 have h2 : 2 * t * b = 2 * (t * b) := Nat.mul_assoc _ _ _
 omega
end Go.Proofs.YtbnjejenejoibaaGreatDoor.Limb
namespace Go.Proofs.YtbnjejenejoibaaGreatDoor.Work
theorem year_ex {day : Int} (h2 : day <= 3652059) : ∀ (n : Nat) (y : Int), y + n = 9999 -> bef y < day -> ∃ z, y <= z /\ z <= 9999 /\ bef z < day /\ day <= bef (z + 1)
 | 0, y, hn, hb => ⟨y, by omega, by omega, hb, by rw [show y + 1 = 10000 by omega, bef_end]; exact h2⟩
 | n + 1, y, hn, hb => by
  by_cases h : day <= bef (y + 1)
  ·exact ⟨y, by omega, by omega, hb, h⟩
  ·obtain ⟨z, h3, h4, h5, h6⟩ := year_ex h2 n (y + 1) (by omega) (by omega)
   exact ⟨z, by omega, h4, h5, h6⟩
theorem month_ex {y r : Int} (hr : r <= cum y 12) : ∀ (n k : Nat), k + n = 11 -> cum y k < r -> ∃ j : Nat, k <= j /\ j <= 11 /\ cum y j < r /\ r <= cum y (j + 1)
 | 0, k, hn, hb => ⟨k, by omega, by omega, hb, by rw [show k + 1 = 12 by omega]; exact hr⟩
 | n + 1, k, hn, hb => by
  by_cases h : r <= cum y (k + 1)
  ·exact ⟨k, by omega, by omega, hb, h⟩
  ·obtain ⟨z, h3, h4, h5, h6⟩ := month_ex hr n (k + 1) (by omega) (by omega)
   exact ⟨z, by omega, h4, h5, h6⟩
theorem date_ex {day : Int} (h : 1 <= day) (h2 : day <= 3652059) : ∃ y m d, DateIs day y m d := by
 obtain ⟨y, y1, y2, y3, y4⟩ := year_ex h2 9998 1 (by omega) (by have : bef 1 = 0 := by decide
                                                                omega)
 rw [bef_succ] at y4
 obtain ⟨k, -, k2, k3, k4⟩ := month_ex (y := y) (r := day - bef y) (by omega) 11 0 (by omega) (by rw [cum]; omega)
 rw [cum] at k4
 refine ⟨y, (k : Int) + 1, day - bef y - cum y k, dateB_mk ⟨by omega, by omega, by omega, by omega⟩, ?_⟩
 unfold num
 rw [show ((k : Int) + 1 - 1).toNat = k by omega]
 omega
theorem DateIs.facts {day y m d : Int} (h : DateIs day y m d) : (1 <= y /\ y <= 9999) /\ (1 <= m /\ m <= 12) /\ (1 <= d /\ d <= 31) /\ d <= dim y m /\ bef y < day /\ day <= bef (y + 1) := by
 obtain ⟨h1, h2⟩ := h
 have a := num_year h1
 have b := dateB_yes h1
 have c := dim_bd y m
 rw [h2] at a
 exact ⟨b.1, b.2.1, by omega, by omega, a.1, a.2⟩
def thu (day : Int) : Int := day - (day - 1) % 7 + 3
theorem thu_bd {day : Int} (h : 1 <= day) (h2 : day <= 3652059) : 1 <= thu day /\ thu day <= 3652059 := by unfold thu; omega
def wk (day y : Int) : Int := (thu day - bef y - 1) / 7 + 1
theorem wk_bd {day y : Int} (h : bef y < thu day) (h2 : thu day <= bef (y + 1)) : 1 <= wk day y /\ wk day y <= 53 := by
 have a := bef_succ y
 have b := cum_12_bd y
 unfold wk
 omega
end Go.Proofs.YtbnjejenejoibaaGreatDoor.Work
namespace Go.Proofs.YtbnjejenejoibaaGreatDoor.Nmb
set_option linter.unusedVariables false
def wide (l : List UInt8) : List UInt8 := List.replicate (14 - l.length) 48 ++ l
end Go.Proofs.YtbnjejenejoibaaGreatDoor.Nmb
namespace Go.Proofs.YtbnjejenejoibaaGreatDoor.Work
open Nmb
set_option linter.unusedVariables false
def dvF : List UInt8 -> Nat -> Nat
 | [], a => a
 | c :: l, a => dvF l (10 * a + (c.toNat - 48))
theorem dvF_cons (c : UInt8) (l : List UInt8) (a : Nat) : dvF (c :: l) a = dvF l (10 * a + (c.toNat - 48)) := rfl
def dv (l : List UInt8) : Nat := dvF l 0
theorem digs_mem {l : List UInt8} (h : digs l = true) : ∀ c ∈ l, 48 <= c.toNat /\ c.toNat <= 57 := by
 intro c hc
 obtain ⟨i, hi, rfl⟩ := List.getElem_of_mem hc
 have := (digs_yes h).2 i hi
 unfold dgt at this
 rw [byA_get hi] at this
 omega
theorem dvF_lt : ∀ (l : List UInt8) (a : Nat), (∀ c ∈ l, 48 <= c.toNat /\ c.toNat <= 57) -> dvF l a < (a + 1) * 10 ^ l.length
 | [], a, _ => by show a < (a + 1) * 1; omega
 | c :: l, a, h => by
  have h1 := h c (by simp)
  have := dvF_lt l (10 * a + (c.toNat - 48)) (fun d hd => h d (by simp [hd]))
  rw [dvF_cons, List.length_cons, Nat.pow_succ]
  have h2 : (10 * a + (c.toNat - 48) + 1) * 10 ^ l.length <= (10 * (a + 1)) * 10 ^ l.length := Nat.mul_le_mul_right _ (by omega)
  have h3 : (10 * (a + 1)) * 10 ^ l.length = (a + 1) * (10 ^ l.length * 10) := by rw [Nat.mul_comm 10 (a + 1), Nat.mul_assoc, Nat.mul_comm 10]
  omega
theorem dv_lt {l : List UInt8} (h : digs l = true) : dv l < 10 ^ l.length := by
 have := dvF_lt l 0 (digs_mem h)
 unfold dv
 omega
theorem dv_lt4 {l : List UInt8} (h : digs l = true) (hl : l.length <= 4) : dv l < 10000 := by
 have := dv_lt h
 have h2 : 10 ^ l.length <= 10 ^ 4 := Nat.pow_le_pow_right (by decide) hl
 omega
theorem dec_dv : ∀ (l : List UInt8) (a : Nat), (∀ c ∈ l, 48 <= c.toNat /\ c.toNat <= 57) -> Lib.decFrom a l = some (dvF l a)
 | [], a, _ => rfl
 | c :: l, a, h => by
  have h1 := h c (by simp)
  have e : Lib.digitVal c = some (c.toNat - 48) := by unfold Lib.digitVal; rw [if_pos h1]
  rw [Lib.decFrom, e]
  show Lib.decFrom (a * 10 + (c.toNat - 48)) l = some (dvF l (10 * a + (c.toNat - 48)))
  rw [Nat.mul_comm a 10]
  exact dec_dv l _ (fun d hd => h d (by simp [hd]))
theorem atoi_dv {l : List UInt8} (h : digs l = true) : Lib.atoi l = some ((dv l : Nat) : Int) := by
 have hm := digs_mem h
 have h0 := (digs_yes h).1
 match l, hm, h0 with
 | c :: l, hm, _ =>
  have h1 := hm c (by simp)
  have n45 : (c == 45) = false := by
   rw [beq_eq_false_iff_ne]; intro e; subst e; revert h1; decide
  have n43 : (c == 43) = false := by
   rw [beq_eq_false_iff_ne]; intro e; subst e; revert h1; decide
  rw [Lib.atoi, n45, n43]
  show (Lib.decNat (c :: l)).map _ = _
  unfold Lib.decNat
  rw [if_neg (by simp), dec_dv (c :: l) 0 hm]
  rfl
def numF (l : List UInt8) : Int := if digs l = true then (dv l : Int) else -1
theorem numF_yes {l : List UInt8} (h : digs l = true) : numF l = (dv l : Int) := if_pos h
theorem numF_no {l : List UInt8} (h : digs l = false) : numF l = -1 := if_neg (by rw [h]; simp)
def prt : List Nat -> List UInt8 -> Option (List Int)
 | [], l => if l.isEmpty = true then some [] else none
 | n :: ws, l => if n <= l.length /\ digs (l.take n) = true then (prt ws (l.drop n)).map (fun r => ((dv (l.take n) : Nat) : Int) :: r) else none
theorem prt_short {n : Nat} {ws : List Nat} {l : List UInt8} (h : l.length < n) : prt (n :: ws) l = none := by rw [prt, if_neg (by omega)]
theorem prt_bad {n : Nat} {ws : List Nat} {l : List UInt8} (h : digs (l.take n) = false) : prt (n :: ws) l = none := by rw [prt, if_neg (by rw [h]; simp)]
theorem prt_next {n : Nat} {ws : List Nat} {l : List UInt8} (h : n <= l.length) (hd : digs (l.take n) = true) : prt (n :: ws) l = (prt ws (l.drop n)).map (fun r => ((dv (l.take n) : Nat) : Int) :: r) := by rw [prt, if_pos ⟨h, hd⟩]
theorem prt3 {a b c : Nat} (hc : 0 < c) (l : List UInt8) : prt [a, b, c] l =
  if l.length = a + b + c /\ digs (l.take a) = true /\ digs ((l.drop a).take b) = true /\ digs (l.drop (a + b)) = true then some [(dv (l.take a) : Int), (dv ((l.drop a).take b) : Int), (dv (l.drop (a + b)) : Int)] else none := by
 have hd : (l.drop a).drop b = l.drop (a + b) := by rw [List.drop_drop]
 have hlen : (l.drop (a + b)).length = l.length - (a + b) := by simp
 by_cases h1 : a <= l.length /\ digs (l.take a) = true
 case neg => rw [prt, if_neg h1, if_neg (fun h => h1 ⟨by omega, h.2.1⟩)]
 rw [prt_next h1.1 h1.2]
 by_cases h2 : b <= (l.drop a).length /\ digs ((l.drop a).take b) = true
 case neg =>
  rw [prt, if_neg h2, if_neg (fun h => h2 ⟨by simp; omega, h.2.2.1⟩)]; rfl
 rw [prt_next h2.1 h2.2, hd]
 have hb : b <= l.length - a := by have := h2.1; simpa using this
 by_cases h3 : c <= (l.drop (a + b)).length /\ digs ((l.drop (a + b)).take c) = true
 case neg =>
  rw [prt, if_neg h3, if_neg (fun h => h3 ⟨by omega, by rw [List.take_of_length_le (by omega)]; exact h.2.2.2⟩)]; rfl
 rw [prt_next h3.1 h3.2, prt]
 by_cases h4 : ((l.drop (a + b)).drop c).isEmpty = true
 ·have h5 : (l.drop (a + b)).length <= c := by rw [List.isEmpty_iff] at h4; have := congrArg List.length h4; simp at this; simp; omega
  rw [if_pos h4, List.take_of_length_le h5]
  rw [List.take_of_length_le h5] at h3
  rw [if_pos ⟨by have := h3.1; omega, h1.2, h2.2, h3.2⟩]; rfl
 ·rw [if_neg h4, if_neg (fun h => h4 (by rw [List.isEmpty_iff]; apply List.eq_nil_of_length_eq_zero; simp; omega))]; rfl
def dayO (y m d : Int) : Option Int := if dateB y m d = true then some (num y m d) else none
theorem dayO_neg {y m d : Int} (h : y < 1 ∨ m < 1 ∨ d < 1) : dayO y m d = none := by
 unfold dayO; rw [if_neg]; intro h2; have := dateB_yes h2; omega
def weekN (y w d : Int) : Int := bef y + 4 - (bef y + 4 - 1) % 7 + (w - 1) * 7 + d - 1
def weekB (y w d : Int) : Bool := decide ((1 <= y /\ y <= 9999) /\ (1 <= d /\ d <= 7) /\ (1 <= weekN y w d /\ weekN y w d <= 3652059) /\ bef y < thu (weekN y w d) /\ thu (weekN y w d) <= bef (y + 1) /\ wk (weekN y w d) y = w)
def weekO (y w d : Int) : Option Int := if weekB y w d = true then some (weekN y w d) else none
def pointB (l : List UInt8) : Bool := decide (l.length = 10 /\ byA l 4 = 45 /\ byA l 7 = 45)
def readO (form pivot : Int) (l : List UInt8) : Option Int :=
 if form = 1 then (if l.length = 8 then dayO (numF (l.take 4)) (numF ((l.drop 4).take 2)) (numF (l.drop 6)) else none)
 else if form = 2 then (if l.length = 6 then (if 0 <= numF (l.take 2) then dayO (pivot + (numF (l.take 2) - pivot) % 100) (numF ((l.drop 2).take 2)) (numF (l.drop 4)) else none) else none)
 else if form = 3 then (if l.length = 8 then dayO (numF (l.drop 4)) (numF ((l.drop 2).take 2)) (numF (l.take 2)) else none)
 else if form = 4 then (if pointB l = true then dayO (numF (l.take 4)) (numF ((l.drop 5).take 2)) (numF (l.drop 8)) else none)
 else (if l.length = 7 then weekO (numF (l.take 4)) (numF ((l.drop 4).take 2)) (numF (l.drop 6)) else none)
def opt3 (f : Int -> Int -> Int -> Option Int) : Option (List Int) -> Option Int
 | some [x, y, z] => f x y z
 | _ => none
theorem opt3_prt {a b c : Nat} (hc : 0 < c) (l : List UInt8) (f : Int -> Int -> Int -> Option Int) (hf : ∀ x y z, (x = -1 ∨ y = -1 ∨ z = -1) -> f x y z = none) :
  opt3 f (prt [a, b, c] l) = if l.length = a + b + c then f (numF (l.take a)) (numF ((l.drop a).take b)) (numF (l.drop (a + b))) else none := by
 rw [prt3 hc]
 by_cases hl : l.length = a + b + c
 case neg => rw [if_neg (fun h => hl h.1), if_neg hl]; rfl
 rw [if_pos hl]
 cases h1 : digs (l.take a) with
 | false => rw [if_neg (by simp), hf _ _ _ (.inl (numF_no h1))]; rfl
 | true =>
 cases h2 : digs ((l.drop a).take b) with
 | false => rw [if_neg (by simp), hf _ _ _ (.inr (.inl (numF_no h2)))]; rfl
 | true =>
 cases h3 : digs (l.drop (a + b)) with
 | false => rw [if_neg (by simp), hf _ _ _ (.inr (.inr (numF_no h3)))]; rfl
 | true => rw [if_pos ⟨hl, rfl, rfl, rfl⟩, numF_yes h1, numF_yes h2, numF_yes h3]; rfl
end Go.Proofs.YtbnjejenejoibaaGreatDoor.Work
