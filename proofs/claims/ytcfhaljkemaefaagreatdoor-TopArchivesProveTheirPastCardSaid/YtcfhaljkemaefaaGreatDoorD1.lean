/- Plain facts on working days: a search, a count, and the two ways of counting. No program in sight. The walks of working days: the leaves. -/
import Derived.Test.YtcfhaljkemaefaaGreatDoorA7
import Derived.Laws.ShiftsVar
import Derived.Laws.ShiftsVarLaws
-- merged: D0 D1

namespace Go.Proofs.YtcfhaljkemaefaaGreatDoor.Work

/-- The first number that is not 0 among those at i and the next ones; 0: there is none. -/
def scan (f : Nat → Int) (i : Nat) : Nat → Int
  | 0 => 0
  | k + 1 => if f i = 0 then scan f (i + 1) k else f i
theorem scan_hit {f : Nat → Int} {i n : Nat} {F : Int} (h : scan f i (n - i) = F) (hi : i < n) (hf : f i ≠ 0) : F = f i := by
  obtain ⟨k, hk⟩ : ∃ k, n - i = k + 1 := ⟨n - i - 1, by omega⟩
  rw [hk, scan, if_neg hf] at h
  exact h.symm
theorem scan_miss {f : Nat → Int} {i n : Nat} {F : Int} (h : scan f i (n - i) = F) (hi : i < n) (hf : f i = 0) : scan f (i + 1) (n - (i + 1)) = F := by
  obtain ⟨k, hk⟩ : ∃ k, n - i = k + 1 := ⟨n - i - 1, by omega⟩
  rw [hk, scan, if_pos hf] at h
  rw [show n - (i + 1) = k by omega]
  exact h
theorem scan_end {f : Nat → Int} {i n : Nat} {F : Int} (h : scan f i (n - i) = F) (hi : n ≤ i) : F = 0 := by
  rw [show n - i = 0 by omega, scan] at h
  exact h.symm
theorem scan_zero {f : Nat → Int} {i k : Nat} (h : scan f i k = 0) : ∀ j, i ≤ j → j < i + k → f j = 0 := by
  induction k generalizing i with
  | zero => intro j h1 h2; omega
  | succ k ih =>
    rw [scan] at h
    split at h
    · rename_i h0
      intro j h1 h2
      rcases Nat.eq_or_lt_of_le h1 with e | e
      · rw [← e]; exact h0
      · exact ih h j e (by omega)
    · rename_i h0; exact absurd h h0

def dayB (d : Int) : Bool := decide (1 ≤ d ∧ d ≤ 3652059)
theorem dayB_yes {d : Int} (h : dayB d = true) : 1 ≤ d ∧ d ≤ 3652059 := by simpa [dayB] using h
theorem dayB_no {d : Int} (h : dayB d = false) : ¬ (1 ≤ d ∧ d ≤ 3652059) := by
  intro h2
  have : dayB d = true := by simpa [dayB] using h2
  rw [h] at this; cases this
theorem dayB_mk {d : Int} (h : 1 ≤ d ∧ d ≤ 3652059) : dayB d = true := by simpa [dayB] using h
theorem dayB_not {d : Int} (h : ¬ (1 ≤ d ∧ d ≤ 3652059)) : dayB d = false := by
  cases e : dayB d with
  | false => rfl
  | true => exact absurd (dayB_yes e) h

/-- Whether a day of the week (0: Monday) is set. -/
def bitB (r : Int) (k : Nat) : Bool := decide (r / 2 ^ k % 2 = 1)
def restB (r d : Int) : Bool := bitB r ((d - 1) % 7).toNat
theorem restB_week (r a b : Int) (h : a % 7 = b % 7) : restB r a = restB r b := by
  unfold restB
  have : (a - 1) % 7 = (b - 1) % 7 := by omega
  rw [this]

def workB (r : Int) (hs : List Int) (d : Int) : Bool := !decide (d ∈ hs) && !restB r d

/-- The holiday at a place; its fault. -/
def hol (hs : List Int) (j : Nat) : Int := hs.getD j 0
def holAt (hs : List Int) (i : Nat) : Int := if dayB (hol hs i) = false then 1 else if 0 < i ∧ hol hs i ≤ hol hs (i - 1) then 8 else 0
def calF (r : Int) (hs : List Int) : Int := if ¬ (0 ≤ r ∧ r ≤ 126) then 1 else if 1000 < hs.length then 2 else scan (holAt hs) 0 hs.length

theorem calF_ok {r : Int} {hs : List Int} (h : calF r hs = 0) : (0 ≤ r ∧ r ≤ 126) ∧ hs.length ≤ 1000 ∧ (∀ j, j < hs.length → 1 ≤ hol hs j ∧ hol hs j ≤ 3652059) ∧ ∀ j, j + 1 < hs.length → hol hs j < hol hs (j + 1) := by
  unfold calF at h
  split at h
  · omega
  · rename_i hr
    split at h
    · omega
    · rename_i hl
      have hz := scan_zero h
      refine ⟨by omega, by omega, fun j hj => ?_, fun j hj => ?_⟩
      · have := hz j (by omega) (by omega)
        unfold holAt at this
        split at this
        · omega
        · rename_i hd
          exact dayB_yes (by simpa using hd)
      · have := hz (j + 1) (by omega) (by omega)
        unfold holAt at this
        split at this
        · omega
        · split at this
          · omega
          · rename_i h2
            simp at h2
            exact h2

/-- The step of the search for a working day. -/
def seek (r : Int) (hs : List Int) (step : Int) : Nat → Int → Int → Int × Int
  | 0, day, left => if left ≤ 0 then (day, 0) else (0, 9)
  | f + 1, day, left => if left ≤ 0 then (day, 0) else if dayB (day + step) = false then (0, 9) else seek r hs step f (day + step) (if workB r hs (day + step) = true then left - 1 else left)
theorem seek_done {r : Int} {hs : List Int} {step day left : Int} {f : Nat} (h : left ≤ 0) : seek r hs step f day left = (day, 0) := by
  cases f <;> rw [seek, if_pos h]
theorem seek_out {r : Int} {hs : List Int} {step day left : Int} {f : Nat} (h : 0 < left) (hd : dayB (day + step) = false) : seek r hs step f day left = (0, 9) := by
  cases f with
  | zero => rw [seek, if_neg (by omega)]
  | succ f => rw [seek, if_neg (by omega), if_pos hd]
theorem seek_hit {r : Int} {hs : List Int} {step day left : Int} {f : Nat} (h : 0 < left) (hd : dayB (day + step) = true) (hw : workB r hs (day + step) = true) : seek r hs step (f + 1) day left = seek r hs step f (day + step) (left - 1) := by
  rw [seek, if_neg (by omega), if_neg (by rw [hd]; simp), if_pos hw]
theorem seek_miss {r : Int} {hs : List Int} {step day left : Int} {f : Nat} (h : 0 < left) (hd : dayB (day + step) = true) (hw : workB r hs (day + step) = false) : seek r hs step (f + 1) day left = seek r hs step f (day + step) left := by
  rw [seek, if_neg (by omega), if_neg (by rw [hd]; simp), if_neg (by rw [hw]; simp)]

/-- What WorkDay comes to. -/
def workDay (r : Int) (hs : List Int) (day n : Int) : Int × Int :=
  if calF r hs ≠ 0 then (0, calF r hs)
  else if ¬ ((1 ≤ day ∧ day ≤ 3652059) ∧ (-10000 ≤ n ∧ n ≤ 10000)) then (0, 1)
  else if n < 0 then seek r hs (-1) (day - 1).toNat day (-n)
  else if n = 0 then seek r hs 1 (3652059 - (day - 1)).toNat (day - 1) 1
  else seek r hs 1 (3652059 - day).toNat day n

/-- How many of the k numbers from a on have a property. -/
def cnt (p : Int → Bool) (a : Int) : Nat → Int
  | 0 => 0
  | k + 1 => cnt p a k + if p (a + k) = true then 1 else 0
theorem cnt_add (p : Int → Bool) (a : Int) (k m : Nat) : cnt p a (k + m) = cnt p a k + cnt p (a + k) m := by
  induction m with
  | zero => simp [cnt]
  | succ m ih =>
    rw [← Nat.add_assoc, cnt, ih, cnt, Int.add_assoc]
    have : a + ((k + m : Nat) : Int) = a + (k : Int) + (m : Int) := by omega
    rw [this]
theorem cnt_first (p : Int → Bool) (a : Int) (k : Nat) : cnt p a (k + 1) = (if p a = true then 1 else 0) + cnt p (a + 1) k := by
  have := cnt_add p a 1 k
  rw [Nat.add_comm] at this
  rw [this]
  simp [cnt]
theorem cnt_nonneg (p : Int → Bool) (a : Int) (k : Nat) : 0 ≤ cnt p a k ∧ cnt p a k ≤ k := by
  induction k with
  | zero => simp [cnt]
  | succ k ih => rw [cnt]; split <;> omega

/-- The search finds the day up to which there are so many working days. -/
theorem seek_counts {r : Int} {hs : List Int} {f : Nat} {day left to : Int} (hl : 0 ≤ left) (hf : (f : Int) = 3652059 - day) (h : seek r hs 1 f day left = (to, 0)) :
    day ≤ to ∧ to ≤ 3652059 ∧ (0 < left → day < to) ∧ cnt (workB r hs) (day + 1) (to - day).toNat = left := by
  induction f generalizing day left with
  | zero =>
    rw [seek] at h
    split at h
    · rename_i h0
      simp only [Prod.mk.injEq] at h
      obtain ⟨rfl, _⟩ := h
      refine ⟨Int.le_refl _, by omega, by omega, ?_⟩
      rw [Int.sub_self]
      simp [cnt]
      omega
    · simp at h
  | succ f ih =>
    by_cases h0 : left ≤ 0
    · rw [seek_done h0] at h
      simp only [Prod.mk.injEq] at h
      obtain ⟨rfl, _⟩ := h
      refine ⟨Int.le_refl _, by omega, by omega, ?_⟩
      rw [Int.sub_self]
      simp [cnt]
      omega
    · by_cases hd : dayB (day + 1) = false
      · rw [seek_out (by omega) hd] at h; simp at h
      · have hd : dayB (day + 1) = true := by simpa using hd
        by_cases hw : workB r hs (day + 1) = true
        · rw [seek_hit (by omega) hd hw] at h
          obtain ⟨h1, h2, h3, h4⟩ := ih (by omega) (by omega) h
          refine ⟨by omega, h2, by omega, ?_⟩
          have e : (to - day).toNat = (to - (day + 1)).toNat + 1 := by omega
          rw [e, cnt_first, h4, if_pos hw]
          omega
        · have hw : workB r hs (day + 1) = false := by simpa using hw
          rw [seek_miss (by omega) hd hw] at h
          obtain ⟨h1, h2, h3, h4⟩ := ih (by omega) (by omega) h
          refine ⟨by omega, h2, by omega, ?_⟩
          have e : (to - day).toNat = (to - (day + 1)).toNat + 1 := by omega
          rw [e, cnt_first, h4, if_neg (by rw [hw]; simp)]
          omega
theorem seek_fault {r : Int} {hs : List Int} {step : Int} {f : Nat} {day left : Int} : (seek r hs step f day left).2 = 0 ∨ ((seek r hs step f day left).1 = 0 ∧ (seek r hs step f day left).2 = 9) := by
  induction f generalizing day left with
  | zero => rw [seek]; split <;> simp
  | succ f ih =>
    rw [seek]
    split
    · simp
    · split
      · simp
      · exact ih
theorem seek_bound {r : Int} {hs : List Int} {step : Int} {f : Nat} {day left : Int} (hd : 0 ≤ day ∧ day ≤ 3652059) : 0 ≤ (seek r hs step f day left).1 ∧ (seek r hs step f day left).1 ≤ 3652059 := by
  induction f generalizing day left with
  | zero => rw [seek]; split <;> simp <;> omega
  | succ f ih =>
    rw [seek]
    split
    · exact hd
    · split
      · simp
      · rename_i h
        have := dayB_yes (d := day + step) (by simpa using h)
        exact ih (by omega)

/-- The holidays up to a place that count against the working days. -/
def holN (r : Int) (hs : List Int) (a b : Int) : Nat → Int
  | 0 => 0
  | j + 1 => holN r hs a b j + if (a ≤ hol hs j ∧ hol hs j < b) ∧ restB r (hol hs j) = false then 1 else 0

theorem hol_take {hs : List Int} {j n : Nat} (h : j < n) : hol (hs.take n) j = hol hs j := by
  unfold hol
  rw [List.getD_eq_getElem?_getD, List.getD_eq_getElem?_getD, List.getElem?_take, if_pos h]

theorem cnt_congr {p q : Int → Bool} {a : Int} {k : Nat} (h : ∀ d, a ≤ d → d < a + k → p d = q d) : cnt p a k = cnt q a k := by
  induction k with
  | zero => rfl
  | succ k ih =>
    rw [cnt, cnt, ih (fun d h1 h2 => h d h1 (by omega)), h (a + k) (by omega) (by omega)]
/-- One number less. -/
theorem cnt_less (p : Int → Bool) (h a : Int) (k : Nat) : cnt p a k = cnt (fun d => !decide (d = h) && p d) a k + if (a ≤ h ∧ h < a + k) ∧ p h = true then 1 else 0 := by
  induction k with
  | zero => rw [cnt, cnt, if_neg (by omega)]; rfl
  | succ k ih =>
    rw [cnt, cnt, ih]
    by_cases e : a + (k : Int) = h
    · subst e
      rw [if_neg (c := (a ≤ a + (k : Int) ∧ a + (k : Int) < a + (k : Int)) ∧ p (a + (k : Int)) = true) (by omega)]
      by_cases hp : p (a + (k : Int)) = true
      · rw [if_pos hp, if_neg (by simp), if_pos ⟨by omega, hp⟩]
        try omega
      · rw [if_neg hp, if_neg (by simp), if_neg (fun h => hp h.2)]
    · have e1 : (!decide (a + (k : Int) = h) && p (a + (k : Int))) = p (a + (k : Int)) := by simp [e]
      rw [e1]
      have e2 : ((a ≤ h ∧ h < a + ((k + 1 : Nat) : Int)) ∧ p h = true) ↔ ((a ≤ h ∧ h < a + (k : Int)) ∧ p h = true) := by
        constructor
        · rintro ⟨⟨h1, h2⟩, h3⟩; exact ⟨⟨h1, by omega⟩, h3⟩
        · rintro ⟨⟨h1, h2⟩, h3⟩; exact ⟨⟨h1, by omega⟩, h3⟩
      simp only [e2]
      omega

theorem hol_sorted {hs : List Int} (h : ∀ j, j + 1 < hs.length → hol hs j < hol hs (j + 1)) {i j : Nat} (hij : i < j) (hj : j < hs.length) : hol hs i < hol hs j := by
  obtain ⟨k, rfl⟩ : ∃ k, j = i + k + 1 := ⟨j - i - 1, by omega⟩
  clear hij
  induction k with
  | zero => exact h i (by omega)
  | succ k ih =>
    have h1 := ih (by omega)
    have h2 := h (i + k + 1) (by omega)
    rw [show i + (k + 1) + 1 = i + k + 1 + 1 by omega]
    omega
theorem hol_mem {hs : List Int} {n : Nat} {d : Int} : d ∈ hs.take n ↔ ∃ j, j < n ∧ j < hs.length ∧ hol hs j = d := by
  rw [List.mem_take_iff_getElem]
  constructor
  · rintro ⟨j, hj, e⟩
    refine ⟨j, by omega, by omega, ?_⟩
    unfold hol
    rw [List.getD_eq_getElem?_getD, List.getElem?_eq_getElem (by omega)]
    exact e
  · rintro ⟨j, h1, h2, e⟩
    refine ⟨j, by omega, ?_⟩
    unfold hol at e
    rw [List.getD_eq_getElem?_getD, List.getElem?_eq_getElem h2] at e
    exact e

/-- The working days are the days that are no days of rest, less the holidays. -/
theorem cnt_work {r : Int} {hs : List Int} (h : ∀ j, j + 1 < hs.length → hol hs j < hol hs (j + 1)) (a : Int) (k : Nat) :
    cnt (workB r hs) a k = cnt (fun d => !restB r d) a k - holN r hs a (a + k) hs.length := by
  have key : ∀ n, n ≤ hs.length → cnt (fun d => !decide (d ∈ hs.take n) && !restB r d) a k = cnt (fun d => !restB r d) a k - holN r hs a (a + k) n := by
    intro n
    induction n with
    | zero => intro _; rw [holN]; simp
    | succ n ih =>
      intro hn
      have h1 := ih (by omega)
      have h2 := cnt_less (fun d => !decide (d ∈ hs.take n) && !restB r d) (hol hs n) a k
      have hni : hol hs n ∉ hs.take n := by
        rw [hol_mem]
        rintro ⟨j, h3, h4, h5⟩
        have := hol_sorted h h3 (by omega)
        omega
      have h3 : cnt (fun d => !decide (d ∈ hs.take (n + 1)) && !restB r d) a k = cnt (fun d => !decide (d = hol hs n) && (!decide (d ∈ hs.take n) && !restB r d)) a k := by
        apply cnt_congr
        intro d _ _
        have e : d ∈ hs.take (n + 1) ↔ d = hol hs n ∨ d ∈ hs.take n := by
          rw [hol_mem, hol_mem]
          constructor
          · rintro ⟨j, h1, h2, e⟩
            rcases Nat.lt_or_ge j n with h3 | h3
            · exact .inr ⟨j, h3, h2, e⟩
            · exact .inl (by rw [← e]; congr 1; omega)
          · rintro (e | ⟨j, h1, h2, e⟩)
            · exact ⟨n, by omega, by omega, e.symm⟩
            · exact ⟨j, by omega, h2, e⟩
        rw [show decide (d ∈ hs.take (n + 1)) = decide (d = hol hs n ∨ d ∈ hs.take n) from decide_eq_decide.2 e]
        by_cases e1 : d = hol hs n <;> by_cases e2 : d ∈ hs.take n <;> simp [e1, e2]
      rw [h3]
      have e4 : (!decide (hol hs n ∈ hs.take n) && !restB r (hol hs n)) = !restB r (hol hs n) := by simp [hni]
      simp only [e4] at h2
      rw [holN]
      have e5 : (restB r (hol hs n) = false) ↔ ((!restB r (hol hs n)) = true) := by simp
      simp only [e5]
      omega
  have := key hs.length (Nat.le_refl _)
  rw [List.take_length] at this
  exact this

/-- One day of the week from a day on: the program's count. -/
def termP (r a : Int) (L : Nat) (k : Nat) : Int := if restB r (a + k) = false ∧ (k : Int) < L then ((L : Int) - k - 1) / 7 + 1 else 0
def sumP (r a : Int) (L : Nat) : Nat → Int
  | 0 => 0
  | k + 1 => sumP r a L k + termP r a L k
theorem termP_step (r a : Int) (L k : Nat) (hk : k < 7) : termP r a (L + 1) k = termP r a L k + if L % 7 = k ∧ restB r (a + L) = false then 1 else 0 := by
  unfold termP
  by_cases hb : restB r (a + k) = false
  · by_cases hm : L % 7 = k
    · have e : restB r (a + L) = restB r (a + k) := restB_week _ _ _ (by omega)
      rw [e]
      simp only [hb, true_and, hm, and_self, if_true]
      rw [if_pos (by omega)]
      split <;> omega
    · rw [if_neg (c := L % 7 = k ∧ restB r (a + L) = false) (fun h => hm h.1)]
      simp only [hb, true_and]
      by_cases h1 : (k : Int) < L
      · rw [if_pos (by omega), if_pos h1]; omega
      · rw [if_neg (by omega), if_neg h1]; rfl
  · rw [if_neg (fun h => hb h.1), if_neg (fun h => hb h.1)]
    rw [if_neg (fun h => hb (by rw [← h.2]; exact restB_week _ _ _ (by omega)))]
    rfl
theorem sumP_step (r a : Int) (L n : Nat) (hn : n ≤ 7) : sumP r a (L + 1) n = sumP r a L n + if L % 7 < n ∧ restB r (a + L) = false then 1 else 0 := by
  induction n with
  | zero => simp [sumP]
  | succ n ih =>
    rw [sumP, sumP, ih (by omega), termP_step _ _ _ _ (by omega)]
    by_cases hb : restB r (a + L) = false
    · simp only [hb, and_true]
      repeat' split
      all_goals omega
    · simp [hb]
theorem sumP_cnt (r a : Int) (L : Nat) : sumP r a L 7 = cnt (fun d => !restB r d) a L := by
  induction L with
  | zero => simp [sumP, termP, cnt]
  | succ L ih =>
    rw [sumP_step _ _ _ _ (by omega), ih, cnt]
    have e : (L % 7 < 7 ∧ restB r (a + L) = false) ↔ ((!restB r (a + L)) = true) := by
      constructor
      · rintro ⟨_, h⟩; simp [h]
      · intro h; exact ⟨Nat.mod_lt _ (by decide), by simpa using h⟩
    simp only [e]

/-- One day of the week from a day up to another one: the reference's count. -/
def termR (r a b : Int) (k : Nat) : Int := if bitB r k = false then (b + 5 - k) / 7 - (a + 5 - k) / 7 else 0
def sumRf (r a b : Int) : Nat → Int
  | 0 => 0
  | k + 1 => sumRf r a b k + termR r a b k
theorem termR_step (r a b : Int) (k : Nat) (hk : k < 7) : termR r a (b + 1) k = termR r a b k + if ((b - 1) % 7).toNat = k ∧ bitB r k = false then 1 else 0 := by
  unfold termR
  by_cases hb : bitB r k = false
  · simp only [hb, and_true, if_true]
    split <;> omega
  · simp [hb]
theorem sumRf_step (r a b : Int) (n : Nat) (hn : n ≤ 7) : sumRf r a (b + 1) n = sumRf r a b n + if ((b - 1) % 7).toNat < n ∧ restB r b = false then 1 else 0 := by
  induction n with
  | zero => simp [sumRf]
  | succ n ih =>
    rw [sumRf, sumRf, ih (by omega), termR_step _ _ _ _ (by omega)]
    unfold restB
    generalize ((b - 1) % 7).toNat = m
    by_cases e : m = n
    · subst e
      by_cases hb : bitB r m = false
      · simp [hb]; omega
      · simp [hb]
    · by_cases hb : bitB r m = false
      · simp only [hb, and_true]
        simp only [e, false_and, if_false]
        repeat' split
        all_goals omega
      · simp [hb, e]
theorem sumRf_cnt (r a : Int) (L : Nat) : sumRf r a (a + L) 7 = cnt (fun d => !restB r d) a L := by
  induction L with
  | zero => simp [sumRf, termR, cnt]
  | succ L ih =>
    have e0 : a + ((L + 1 : Nat) : Int) = a + (L : Int) + 1 := by omega
    rw [e0, sumRf_step _ _ _ _ (by omega), ih, cnt]
    have e : (((a + (L : Int) - 1) % 7).toNat < 7 ∧ restB r (a + L) = false) ↔ ((!restB r (a + L)) = true) := by
      constructor
      · rintro ⟨_, h⟩; simp [h]
      · intro h; exact ⟨by omega, by simpa using h⟩
    simp only [e]

/-- What WorkDays comes to. -/
def workDays (r : Int) (hs : List Int) (a b : Int) : Int × Int :=
  if calF r hs ≠ 0 then (0, calF r hs)
  else if ¬ ((1 ≤ a ∧ a ≤ 3652059) ∧ (1 ≤ b ∧ b ≤ 3652059)) then (0, 1)
  else if b < a then (0, 8)
  else (cnt (workB r hs) a (b - a).toNat, 0)
theorem days_p {r : Int} {hs : List Int} {a b : Int} (h : calF r hs = 0) (hab : a ≤ b) : sumP r a (b - a).toNat 7 - holN r hs a b hs.length = cnt (workB r hs) a (b - a).toNat := by
  rw [cnt_work (calF_ok h).2.2.2, sumP_cnt]
  congr 2
  omega
theorem days_r {r : Int} {hs : List Int} {a b : Int} (h : calF r hs = 0) (hab : a ≤ b) : sumRf r a b 7 - holN r hs a b hs.length = cnt (workB r hs) a (b - a).toNat := by
  rw [cnt_work (calF_ok h).2.2.2, ← sumRf_cnt]
  rw [show a + ((b - a).toNat : Int) = b by omega]

end Go.Proofs.YtcfhaljkemaefaaGreatDoor.Work

namespace Go.Proofs.YtcfhaljkemaefaaGreatDoor
open Go.RowKit Limb Work

theorem retI {k : IntKind} {a b : Int} (h : a = b) : Ending.returned (.int k a) = .returned (.int k b) := by rw [h]
theorem retB {a b : Bool} (h : a = b) : Ending.returned (.bool a) = .returned (.bool b) := by rw [h]
/-- A slice of numbers as it lies in memory. -/
def Ints (w : World) (A : Option Addr) (n : Nat) (hs : List Int) : Prop :=
  hs.length = n ∧ (∀ d ∈ hs, -9223372036854775808 ≤ d ∧ d ≤ 9223372036854775807) ∧
    (0 < n → ∃ b off, A = some ⟨b, off, none⟩ ∧ b < w.heap.size ∧ ∀ j, j < n → w.cell? ⟨b, off + j, none⟩ = some (.int .i64 (hol hs j)))
theorem Ints.below {w w' : World} {A : Option Addr} {n : Nat} {hs : List Int} (h : Ints w A n hs) (hb : Below w.heap.size w w') : Ints w' A n hs :=
  ⟨h.1, h.2.1, fun hn => by
    obtain ⟨b, off, e, hl, hc⟩ := h.2.2 hn
    exact ⟨b, off, e, Nat.lt_of_lt_of_le hl hb.size, fun j hj => (hb.cell (p := ⟨b, off + j, none⟩) hl).trans (hc j hj)⟩⟩
theorem Ints.alloc {w : World} {A : Option Addr} {n : Nat} {hs : List Int} (h : Ints w A n hs) (o : Obj) : Ints (w.alloc o) A n hs := h.below ((Below.refl _ _).alloc (Nat.le_refl _) o)
theorem hol_get {hs : List Int} {j : Nat} (h : j < hs.length) : hs[j] = hol hs j := by
  unfold hol
  rw [List.getD_eq_getElem?_getD, List.getElem?_eq_getElem h]
  rfl
theorem Ints.rng {w : World} {A : Option Addr} {n : Nat} {hs : List Int} (h : Ints w A n hs) {j : Nat} (hj : j < n) : -9223372036854775808 ≤ hol hs j ∧ hol hs j ≤ 9223372036854775807 := by
  have hl : j < hs.length := by rw [h.1]; exact hj
  have := h.2.1 hs[j] (List.getElem_mem hl)
  rw [hol_get hl] at this
  exact this

theorem i64_and1 : ∀ c : Nat, c < 128 → bits .and .i64 (c : Int) 1 = ((c % 2 : Nat) : Int) := by decide
theorem shr_bd {r : Int} (hr : 0 ≤ r ∧ r ≤ 126) (k : Nat) : 0 ≤ r / 2 ^ k ∧ r / 2 ^ k ≤ 126 := by
  have hp : (0 : Int) < 2 ^ k := Int.pow_pos (by decide)
  refine ⟨Int.ediv_nonneg hr.1 (by omega), ?_⟩
  have h1 : r / 2 ^ k ≤ r := Int.ediv_le_self _ hr.1
  omega
theorem and1_bit {r : Int} {k : Nat} (hr : 0 ≤ r ∧ r ≤ 126) (hk : k ≤ 6) : (bits .and .i64 (r / 2 ^ k) 1 == 1) = bitB r k := by
  have _ := hk
  obtain ⟨h0, h1⟩ := shr_bd hr k
  unfold bitB
  generalize r / 2 ^ k = v at *
  obtain ⟨c, rfl⟩ := Int.eq_ofNat_of_zero_le h0
  rw [i64_and1 c (by omega), Bool.eq_iff_iff]
  simp
  try omega
theorem mod_bit {r : Int} {k : Nat} : ((r / 2 ^ k) % 2 == 1) = bitB r k := by
  unfold bitB
  rw [Bool.eq_iff_iff]
  simp

theorem holAt_day {hs : List Int} {i : Nat} (h : dayB (hol hs i) = false) : holAt hs i = 1 := by unfold holAt; rw [if_pos h]
theorem holAt_ord {hs : List Int} {i : Nat} (h : dayB (hol hs i) = true) (h2 : 0 < i ∧ hol hs i ≤ hol hs (i - 1)) : holAt hs i = 8 := by unfold holAt; rw [if_neg (by rw [h]; simp), if_pos h2]
theorem holAt_ok {hs : List Int} {i : Nat} (h : dayB (hol hs i) = true) (h2 : ¬ (0 < i ∧ hol hs i ≤ hol hs (i - 1))) : holAt hs i = 0 := by unfold holAt; rw [if_neg (by rw [h]; simp), if_neg h2]
theorem calF_scan {r : Int} {hs : List Int} (hr : 0 ≤ r ∧ r ≤ 126) (hl : ¬ 1000 < hs.length) : calF r hs = scan (holAt hs) 0 hs.length := by unfold calF; rw [if_neg (by omega), if_neg hl]
theorem calF_r {r : Int} {hs : List Int} (hr : ¬ (0 ≤ r ∧ r ≤ 126)) : calF r hs = 1 := by unfold calF; rw [if_pos hr]
theorem calF_l {r : Int} {hs : List Int} (hr : 0 ≤ r ∧ r ≤ 126) (hl : 1000 < hs.length) : calF r hs = 2 := by unfold calF; rw [if_neg (by omega), if_pos hl]

end Go.Proofs.YtcfhaljkemaefaaGreatDoor
