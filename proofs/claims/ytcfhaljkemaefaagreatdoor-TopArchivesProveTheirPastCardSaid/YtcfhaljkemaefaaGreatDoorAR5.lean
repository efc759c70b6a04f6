/- Plain: records of an archive: what is wrong with them, their text, and that a text is read as its records. Plain: the digest of bytes: a hash of 64 bits in sixteen hexadecimal digits; the head of records. strconv.formatBits at base 16 and what it calls. (Printed by genAR3.py.) Archive's walks: strconv.FormatUint at base 16; the hash's step. -/
import Derived.Test.YtcfhaljkemaefaaGreatDoorM0
import Derived.Lib.ItoaNum
import Derived.Lib.ItoaMem
import Derived.Lib.TrailingZeros
import Derived.Laws.Bits64b
import Derived.Shelf.Strings.SlTrimAscii
import Derived.Laws.Bits64
-- merged: AR0 AR1 AR3 AR5

namespace Go.Proofs.YtcfhaljkemaefaaGreatDoor
open Nmb Work
set_option linter.unusedVariables false
set_option linter.unusedSimpArgs false

/-! ### Numbers written and read -/
theorem adec_all : ∀ (n : Nat), ∀ c ∈ Lib.decDigits n, 48 ≤ c.toNat ∧ c.toNat ≤ 57 := by
  intro n
  induction n using Nat.strongRecOn with
  | ind n ih =>
    intro c hc
    rw [Lib.decDigits] at hc
    split at hc
    · rename_i h
      rw [List.mem_singleton] at hc
      subst hc
      rw [UInt8.toNat_ofNat']
      omega
    · rename_i h
      rcases List.mem_append.1 hc with h1 | h1
      · exact ih (n / 10) (by omega) c h1
      · rw [List.mem_singleton] at h1
        subst h1
        rw [UInt8.toNat_ofNat']
        omega
theorem adec_val : ∀ (n : Nat), dv (Lib.decDigits n) = n := by
  intro n
  induction n using Nat.strongRecOn with
  | ind n ih =>
    rw [Lib.decDigits]
    split
    · rename_i h
      show 10 * 0 + ((UInt8.ofNat (48 + n)).toNat - 48) = n
      rw [UInt8.toNat_ofNat']
      omega
    · rename_i h
      show dvF _ 0 = n
      rw [dvF_append]
      have h1 := ih (n / 10) (by omega)
      unfold dv at h1
      rw [h1]
      show 10 * (n / 10) + ((UInt8.ofNat (48 + n % 10)).toNat - 48) = n
      rw [UInt8.toNat_ofNat']
      omega
theorem adec_ne (n : Nat) : Lib.decDigits n ≠ [] := by
  rw [Lib.decDigits]
  split <;> simp
theorem adec_head : ∀ (n : Nat), 10 ≤ n → (Lib.decDigits n).headD 48 ≠ 48 := by
  intro n
  induction n using Nat.strongRecOn with
  | ind n ih =>
    intro hn
    rw [Lib.decDigits, dif_neg (by omega)]
    by_cases h : n / 10 < 10
    · rw [Lib.decDigits, dif_pos h]
      simp only [List.cons_append, List.headD_cons]
      intro e
      have := congrArg UInt8.toNat e
      rw [UInt8.toNat_ofNat'] at this
      simp at this
      omega
    · have h1 := ih (n / 10) (by omega) (by omega)
      rcases hd : Lib.decDigits (n / 10) with _ | ⟨a, l⟩
      · exact absurd hd (adec_ne _)
      · rw [hd] at h1
        simpa using h1
theorem adec_len {n k : Nat} (h : n < 10 ^ (k + 1)) : (Lib.decDigits n).length ≤ k + 1 := by
  induction k generalizing n with
  | zero => rw [Lib.decDigits, dif_pos (by omega)]; simp
  | succ k ih =>
    rw [Lib.decDigits]
    split
    · simp
    · rw [List.length_append, List.length_singleton]
      have := ih (n := n / 10) (by rw [Nat.pow_succ] at h; omega)
      omega

/-! ### Records -/
structure Rec where
  time : Int
  kind : ByteArray
  key : ByteArray
  dig : ByteArray
  drop : Bool
  text : ByteArray
def rec0 : Rec := ⟨0, ⟨#[]⟩, ⟨#[]⟩, ⟨#[]⟩, false, ⟨#[]⟩⟩
def arA (l : List Rec) (j : Nat) : Rec := l.getD j rec0
theorem arA_get {l : List Rec} {j : Nat} (h : j < l.length) : l[j] = arA l j := by unfold arA; simp [List.getD_eq_getElem?_getD, h]
def hexC (c : UInt8) : Bool := decide (48 ≤ c.toNat ∧ c.toNat ≤ 57) || decide (97 ≤ c.toNat ∧ c.toNat ≤ 102)
def isDigB (l : List UInt8) : Bool := decide (l.length = 16) && l.all hexC
/-- What is wrong with the fields of a record. -/
def fldF (time : Int) (kind key text : List UInt8) : Int :=
  if ¬ (0 ≤ time ∧ time ≤ 1000000000000000) then 1
  else if nameB kind = false then 5
  else if ¬ (1 ≤ key.length ∧ key.length ≤ 40) ∨ inL key 33 126 = false then 3
  else if 2000 < text.length then 2
  else if inL text 32 126 = false then 3 else 0
def recF (dg : List UInt8 → List UInt8) (r : Rec) : Int :=
  if fldF r.time r.kind.data.toList r.key.data.toList r.text.data.toList ≠ 0 then fldF r.time r.kind.data.toList r.key.data.toList r.text.data.toList
  else if (r.drop = true ∧ r.text ≠ ⟨#[]⟩) ∨ isDigB r.dig.data.toList = false then 3
  else if r.drop = false ∧ dg r.text.data.toList ≠ r.dig.data.toList then 15
  else 0
/-- What is wrong with the records up to a place. -/
def arcG (dg : List UInt8 → List UInt8) (l : List Rec) : Nat → Int
  | 0 => 0
  | n + 1 => if arcG dg l n ≠ 0 then arcG dg l n else if recF dg (arA l n) ≠ 0 then recF dg (arA l n) else if 0 < n ∧ (arA l n).time < (arA l (n - 1)).time then 8 else 0
def arcF (dg : List UInt8 → List UInt8) (l : List Rec) : Int := if 2000 < l.length then 2 else arcG dg l l.length
theorem arcG_ok {dg : List UInt8 → List UInt8} {l : List Rec} : ∀ {n : Nat}, arcG dg l n = 0 → ∀ j, j < n → recF dg (arA l j) = 0 ∧ (0 < j → (arA l (j - 1)).time ≤ (arA l j).time)
  | 0, _, j, hj => absurd hj (Nat.not_lt_zero _)
  | n + 1, h, j, hj => by
    unfold arcG at h
    split at h
    · rename_i h1; exact absurd h h1
    rename_i h1
    split at h
    · rename_i h2; exact absurd h h2
    rename_i h2
    split at h; · cases h
    rename_i h3
    rcases Nat.lt_or_ge j n with h4 | h4
    · exact arcG_ok (Classical.byContradiction h1) j h4
    · obtain rfl : j = n := by omega
      exact ⟨Classical.byContradiction h2, fun h5 => Int.not_lt.1 fun h6 => h3 ⟨h5, h6⟩⟩
theorem arcG_all {dg : List UInt8 → List UInt8} {l : List Rec} : ∀ {n : Nat}, (∀ j, j < n → recF dg (arA l j) = 0 ∧ (0 < j → (arA l (j - 1)).time ≤ (arA l j).time)) → arcG dg l n = 0
  | 0, _ => rfl
  | n + 1, h => by
    unfold arcG
    rw [arcG_all fun j hj => h j (by omega), if_neg (fun e => e rfl), (h n (by omega)).1, if_neg (fun e => e rfl), if_neg]
    rintro ⟨h1, h2⟩
    have := (h n (by omega)).2 h1
    omega
/-- A record without its text, if it is old. -/
def dropR (before : Int) (r : Rec) : Rec := if r.time < before then { r with drop := true, text := ⟨#[]⟩ } else r
def dropL (before : Int) (l : List Rec) : List Rec := l.map (dropR before)
theorem drop_get (before : Int) {l : List Rec} {j : Nat} (h : j < l.length) : arA (dropL before l) j = dropR before (arA l j) := by
  unfold arA dropL
  simp [List.getD_eq_getElem?_getD, h]
theorem drop_time (before : Int) (r : Rec) : (dropR before r).time = r.time := by unfold dropR; split <;> rfl
theorem drop_body (before : Int) (r : Rec) : (dropR before r).kind = r.kind ∧ (dropR before r).key = r.key ∧ (dropR before r).dig = r.dig := by unfold dropR; split <;> exact ⟨rfl, rfl, rfl⟩
theorem inL_nil (a b : Int) : inL [] a b = true := by unfold inL; simp
theorem fldF_text {time : Int} {kind key text : List UInt8} (h : fldF time kind key text = 0) : fldF time kind key [] = 0 := by
  unfold fldF at h ⊢
  split at h; · cases h
  rename_i h1
  split at h; · cases h
  rename_i h2
  split at h; · cases h
  rename_i h3
  rw [if_neg h1, if_neg h2, if_neg h3, if_neg (by simp), if_neg (by rw [inL_nil]; decide)]
theorem drop_ok {dg : List UInt8 → List UInt8} (before : Int) {r : Rec} (h : recF dg r = 0) : recF dg (dropR before r) = 0 := by
  unfold dropR
  split
  · unfold recF at h ⊢
    split at h
    · rename_i h1; exact absurd h h1
    rename_i h1
    have h2 := fldF_text (Classical.byContradiction h1)
    split at h; · cases h
    rename_i h3
    have e : (⟨#[]⟩ : ByteArray).data.toList = [] := rfl
    simp only [e, h2]
    rw [if_neg (fun k => k rfl), if_neg, if_neg]
    · rintro ⟨k, -⟩; cases k
    · rintro (⟨-, k⟩ | k)
      · exact k rfl
      · exact h3 (.inr k)
  · exact h
theorem drop_arc {dg : List UInt8 → List UInt8} (before : Int) {l : List Rec} (h : arcF dg l = 0) : arcF dg (dropL before l) = 0 := by
  unfold arcF at h ⊢
  split at h; · cases h
  rename_i h1
  have hl : (dropL before l).length = l.length := by unfold dropL; simp
  rw [hl, if_neg h1]
  refine arcG_all fun j hj => ?_
  have h2 := arcG_ok h j hj
  rw [drop_get before hj, drop_time]
  refine ⟨drop_ok before h2.1, fun h3 => ?_⟩
  rw [drop_get before (by omega), drop_time]
  exact h2.2 h3

/-! ### The text of records -/
def wDrop : List UInt8 := [100, 114, 111, 112, 112, 101, 100]
def restA (r : Rec) : List UInt8 := if r.drop = true then wDrop else 58 :: r.text.data.toList
def bodyA (r : Rec) : List UInt8 := Lib.itoa r.time ++ 32 :: (r.kind.data.toList ++ 32 :: (r.key.data.toList ++ 32 :: r.dig.data.toList))
def lineA (r : Rec) : List UInt8 := bodyA r ++ 32 :: restA r
def textA (l : List Rec) : List UInt8 := l.flatMap fun r => lineA r ++ [10]
theorem line_eq (r : Rec) : lineA r = Lib.itoa r.time ++ 32 :: (r.kind.data.toList ++ 32 :: (r.key.data.toList ++ 32 :: (r.dig.data.toList ++ 32 :: restA r))) := by
  unfold lineA bodyA
  simp [List.append_assoc]
theorem idx_app {g : UInt8} {b : List UInt8} : ∀ {a : List UInt8}, g ∉ a → Lib.indexByte (a ++ g :: b) g = (a.length : Int)
  | [], _ => by
    rw [List.nil_append]
    unfold Lib.indexByte
    rw [if_pos (by simp)]
    rfl
  | x :: a, h => by
    have hx : x ≠ g := fun e => h (by simp [e])
    rw [List.cons_append]
    unfold Lib.indexByte
    rw [if_neg (by simpa using hx), idx_app (fun e => h (List.mem_cons_of_mem _ e)), if_neg (by simp)]
    simp
theorem splitK_hit {g : UInt8} {a b : List UInt8} (h : g ∉ a) (k : Nat) : Lib.splitK [g] 0 (k + 1) (a ++ g :: b) = a :: Lib.splitK [g] 0 k b := by
  rw [show Lib.splitK [g] 0 (k + 1) (a ++ g :: b) = if Lib.index (a ++ g :: b) [g] == -1 then [a ++ g :: b] else (a ++ g :: b).take ((Lib.index (a ++ g :: b) [g]).toNat + 0) :: Lib.splitK [g] 0 k ((a ++ g :: b).drop ((Lib.index (a ++ g :: b) [g]).toNat + [g].length)) from rfl,
    Lib.index_one, idx_app h, if_neg (by simp), Int.toNat_natCast, Nat.add_zero, List.length_singleton]
  congr 1
  · simp
  · congr 1
    rw [List.drop_append]
    simp
/-- What a right record has. -/
structure RecK (r : Rec) : Prop where
  time : 0 ≤ r.time ∧ r.time ≤ 1000000000000000
  kind : nameB r.kind.data.toList = true
  key : 1 ≤ r.key.data.toList.length ∧ r.key.data.toList.length ≤ 40 ∧ inL r.key.data.toList 33 126 = true
  text : r.text.data.toList.length ≤ 2000 ∧ inL r.text.data.toList 32 126 = true
  drop : r.drop = true → r.text = ⟨#[]⟩
  dig : isDigB r.dig.data.toList = true
theorem recF_ok {dg : List UInt8 → List UInt8} {r : Rec} (h : recF dg r = 0) : RecK r := by
  unfold recF at h
  split at h
  · rename_i h1; exact absurd h h1
  rename_i h1
  split at h; · cases h
  rename_i h2
  have h3 : fldF r.time r.kind.data.toList r.key.data.toList r.text.data.toList = 0 := Classical.byContradiction h1
  unfold fldF at h3
  split at h3; · cases h3
  rename_i k1
  split at h3; · cases h3
  rename_i k2
  split at h3; · cases h3
  rename_i k3
  split at h3; · cases h3
  rename_i k4
  split at h3; · cases h3
  rename_i k5
  refine ⟨Classical.byContradiction k1, by cases hb : nameB r.kind.data.toList with | true => rfl | false => exact absurd hb k2, ?_, ⟨by omega, by cases hb : inL r.text.data.toList 32 126 with | true => rfl | false => exact absurd hb k5⟩, fun hd => Classical.byContradiction fun k => h2 (.inl ⟨hd, k⟩), by cases hb : isDigB r.dig.data.toList with | true => rfl | false => exact absurd (.inr hb) h2⟩
  have k6 : 1 ≤ r.key.data.toList.length ∧ r.key.data.toList.length ≤ 40 := Classical.byContradiction fun k => k3 (.inl k)
  exact ⟨k6.1, k6.2, by cases hb : inL r.key.data.toList 33 126 with | true => rfl | false => exact absurd (.inr hb) k3⟩
theorem inL_mem {l : List UInt8} {a b : Int} (h : inL l a b = true) {c : UInt8} (hc : c ∈ l) : a ≤ (c.toNat : Int) ∧ (c.toNat : Int) ≤ b := by
  obtain ⟨i, hi, rfl⟩ := List.getElem_of_mem hc
  have := inL_yes h hi
  rwa [byA_get hi] at this
theorem itoa_dec {t : Int} (h : 0 ≤ t) : Lib.itoa t = Lib.decDigits t.toNat := by unfold Lib.itoa; rw [if_neg (by omega)]
theorem name_mem {l : List UInt8} (h : nameB l = true) {c : UInt8} (hc : c ∈ l) : 33 ≤ c.toNat ∧ c.toNat ≤ 126 := by
  unfold nameB at h
  simp only [Bool.and_eq_true] at h
  have := List.all_eq_true.1 h.2 c hc
  unfold nameC lowB at this
  simp only [Bool.or_eq_true, decide_eq_true_eq, beq_iff_eq] at this
  omega
theorem dig_mem {l : List UInt8} (h : isDigB l = true) {c : UInt8} (hc : c ∈ l) : 33 ≤ c.toNat ∧ c.toNat ≤ 126 := by
  unfold isDigB at h
  simp only [Bool.and_eq_true] at h
  have := List.all_eq_true.1 h.2 c hc
  unfold hexC at this
  simp only [Bool.or_eq_true, decide_eq_true_eq] at this
  omega
theorem itoa_mem {t : Int} (h : 0 ≤ t) {c : UInt8} (hc : c ∈ Lib.itoa t) : 33 ≤ c.toNat ∧ c.toNat ≤ 126 := by
  rw [itoa_dec h] at hc
  have := adec_all _ c hc
  omega
/-- A right record's line, cut at its first four blanks. -/
theorem line_cut {r : Rec} (h : RecK r) : Lib.splitK [32] 0 4 (lineA r) = [Lib.itoa r.time, r.kind.data.toList, r.key.data.toList, r.dig.data.toList, restA r] := by
  have no : ∀ {l : List UInt8}, (∀ c ∈ l, 33 ≤ c.toNat ∧ c.toNat ≤ 126) → (32 : UInt8) ∉ l := fun hl hm => by have := hl 32 hm; simp at this
  rw [line_eq, splitK_hit (no fun c hc => itoa_mem h.time.1 hc), splitK_hit (no fun c hc => name_mem h.kind hc), splitK_hit (no fun c hc => by have := inL_mem h.key.2.2 hc; omega), splitK_hit (no fun c hc => dig_mem h.dig hc)]
  rfl
theorem line_no {r : Rec} (h : RecK r) : (10 : UInt8) ∉ lineA r := by
  have no : ∀ {l : List UInt8}, (∀ c ∈ l, 33 ≤ c.toNat ∧ c.toNat ≤ 126) → (10 : UInt8) ∉ l := fun hl hm => by have := hl 10 hm; simp at this
  rw [line_eq]
  simp only [List.mem_append, List.mem_cons]
  rintro (k | k | k | k | k | k | k | k | k)
  · exact no (fun c hc => itoa_mem h.time.1 hc) k
  · cases k
  · exact no (fun c hc => name_mem h.kind hc) k
  · cases k
  · exact no (fun c hc => by have := inL_mem h.key.2.2 hc; omega) k
  · cases k
  · exact no (fun c hc => dig_mem h.dig hc) k
  · cases k
  · unfold restA at k
    split at k
    · revert k; decide
    · rcases List.mem_cons.1 k with k | k
      · cases k
      · have := inL_mem h.text.2 k
        simp at this
theorem pcs_lines {g : UInt8} : ∀ {ps : List (List UInt8)}, ps ≠ [] → (∀ p ∈ ps, g ∉ p) → pcs g (jn g ps) = ps
  | [], h, _ => absurd rfl h
  | [p], _, h => pcs_none (h p (by simp))
  | p :: q :: ps, _, h => by
    rw [jn_cons (by simp), pcs_hit (h p (by simp)), pcs_lines (by simp) (fun r hr => h r (List.mem_cons_of_mem _ hr))]
theorem text_jn : ∀ {l : List Rec}, l ≠ [] → textA l = jn 10 (l.map lineA) ++ [10]
  | [], h => absurd rfl h
  | [r], _ => by unfold textA; simp [jn]
  | r :: s :: l, _ => by
    have ih := text_jn (l := s :: l) (by simp)
    show lineA r ++ [10] ++ textA (s :: l) = _
    rw [ih]
    show _ = jn 10 (lineA r :: (s :: l).map lineA) ++ [10]
    rw [jn_cons (p := lineA r) (ps := (s :: l).map lineA) (by simp)]
    simp only [List.append_assoc, List.cons_append, List.nil_append]
/-- The lines of right records' text. -/
theorem text_lines {l : List Rec} (h : ∀ r ∈ l, RecK r) (hl : l ≠ []) : pcs 10 (jn 10 (l.map lineA)) = l.map lineA :=
  pcs_lines (fun e => hl (List.map_eq_nil_iff.1 e)) fun p hp => by
    obtain ⟨r, hr, rfl⟩ := List.mem_map.1 hp
    exact line_no (h r hr)
end Go.Proofs.YtcfhaljkemaefaaGreatDoor

namespace Go.Proofs.YtcfhaljkemaefaaGreatDoor
open Nmb Work
set_option linter.unusedVariables false
set_option linter.unusedSimpArgs false

def hx (k : Nat) : UInt8 := if k < 10 then UInt8.ofNat (48 + k) else UInt8.ofNat (87 + k)
theorem hx_hex {k : Nat} (h : k < 16) : hexC (hx k) = true := by
  have : ∀ i : Fin 16, hexC (hx i.val) = true := by decide
  exact this ⟨k, h⟩
/-- The hexadecimal digits of a number put ahead of others. -/
def hexF : Nat → Nat → List UInt8 → List UInt8
  | 0, _, acc => acc
  | n + 1, u, acc => if u < 16 then hx u :: acc else hexF n (u / 16) (hx (u % 16) :: acc)
def hexL (u : Nat) : List UInt8 := hexF 16 u []
theorem hexF_all : ∀ (n u : Nat) (acc : List UInt8), acc.all hexC = true → (hexF n u acc).all hexC = true
  | 0, _, _, h => h
  | n + 1, u, acc, h => by
    unfold hexF
    split
    · rename_i h1
      rw [List.all_cons, hx_hex h1, h]
      rfl
    · exact hexF_all n (u / 16) _ (by rw [List.all_cons, hx_hex (Nat.mod_lt _ (by decide)), h]; rfl)
theorem hexF_len : ∀ (n u : Nat) (acc : List UInt8), (hexF n u acc).length ≤ n + acc.length
  | 0, _, acc => by show acc.length ≤ _; omega
  | n + 1, u, acc => by
    unfold hexF
    split
    · simp; omega
    · have := hexF_len n (u / 16) (hx (u % 16) :: acc)
      simp at this
      omega
theorem hexF_pos : ∀ (n u : Nat) (acc : List UInt8), 1 ≤ acc.length ∨ 1 ≤ n → 1 ≤ (hexF n u acc).length
  | 0, _, acc, h => by show 1 ≤ acc.length; omega
  | n + 1, u, acc, _ => by
    unfold hexF
    split
    · simp
    · exact hexF_pos n _ _ (.inl (by simp))
def fstp (h : Nat) (x : UInt8) : Nat := (h ^^^ x.toNat) * 1099511628211 % 18446744073709551616
theorem fstp_lt (h : Nat) (x : UInt8) : fstp h x < 18446744073709551616 := Nat.mod_lt _ (Nat.succ_pos _)
/-- The hash up to a byte. -/
def fnvN (h : Nat) : List UInt8 → Nat
  | [] => h
  | x :: l => fnvN (fstp h x) l
theorem fnvN_lt : ∀ (l : List UInt8) (h : Nat), h < 18446744073709551616 → fnvN h l < 18446744073709551616
  | [], h, hh => hh
  | x :: l, h, _ => by rw [fnvN]; exact fnvN_lt l _ (fstp_lt h x)
theorem fnvN_snoc (x : UInt8) : ∀ (l : List UInt8) (h : Nat), fnvN h (l ++ [x]) = fstp (fnvN h l) x
  | [], h => by rw [List.nil_append, fnvN, fnvN, fnvN]
  | y :: l, h => by rw [List.cons_append, fnvN, fnvN, fnvN_snoc x l]
def fnvL (l : List UInt8) : Nat := fnvN 14695981039346656037 l
def dgsL (l : List UInt8) : List UInt8 := List.replicate (16 - (hexL (fnvL l)).length) 48 ++ hexL (fnvL l)
theorem dgsL_ok (l : List UInt8) : isDigB (dgsL l) = true := by
  unfold isDigB dgsL
  generalize fnvL l = u
  have h1 := hexF_len 16 u []
  have h2 := hexF_all 16 u [] rfl
  rw [List.length_append, List.length_replicate, List.all_append]
  have h3 : (hexL u).length ≤ 16 := h1
  have h4 : (hexL u).all hexC = true := h2
  have h5 : (List.replicate (16 - (hexL u).length) (48 : UInt8)).all hexC = true := by
    rw [List.all_eq_true]
    intro x hx
    rw [(List.mem_replicate.1 hx).2]
    decide
  rw [h4, h5, decide_eq_true (by omega)]
  rfl

/-! ### The head of records -/
def headA (l : List Rec) : Nat → List UInt8
  | 0 => List.replicate 16 48
  | n + 1 => dgsL (headA l n ++ 32 :: bodyA (arA l n))
theorem headA_ok (l : List Rec) : ∀ n, isDigB (headA l n) = true
  | 0 => by show isDigB (List.replicate 16 48) = true; decide
  | n + 1 => dgsL_ok _
theorem body_drop (before : Int) (r : Rec) : bodyA (dropR before r) = bodyA r := by
  obtain ⟨h1, h2, h3⟩ := drop_body before r
  unfold bodyA
  rw [drop_time, h1, h2, h3]
theorem headA_drop (before : Int) {l : List Rec} : ∀ {n : Nat}, n ≤ l.length → headA (dropL before l) n = headA l n
  | 0, _ => rfl
  | n + 1, h => by
    show dgsL (headA (dropL before l) n ++ 32 :: bodyA (arA (dropL before l) n)) = dgsL (headA l n ++ 32 :: bodyA (arA l n))
    rw [headA_drop before (by omega), drop_get before (by omega), body_drop]
theorem arA_take {l : List Rec} {n j : Nat} (h : j < n) : arA (l.take n) j = arA l j := by
  unfold arA
  rw [List.getD_eq_getElem?_getD, List.getD_eq_getElem?_getD, List.getElem?_take, if_pos h]
theorem headA_take {l : List Rec} {k : Nat} : ∀ {n : Nat}, n ≤ k → headA (l.take k) n = headA l n
  | 0, _ => rfl
  | n + 1, h => by
    show dgsL (headA (l.take k) n ++ 32 :: bodyA (arA (l.take k) n)) = dgsL (headA l n ++ 32 :: bodyA (arA l n))
    rw [headA_take (by omega), arA_take (by omega)]
theorem arc_take {dg : List UInt8 → List UInt8} {l : List Rec} (h : arcF dg l = 0) (n : Nat) : arcF dg (l.take n) = 0 := by
  unfold arcF at h ⊢
  split at h; · cases h
  rename_i h1
  rw [if_neg (by rw [List.length_take]; omega)]
  refine arcG_all fun j hj => ?_
  rw [List.length_take] at hj
  have h2 := arcG_ok h j (by omega)
  rw [arA_take (by omega)]
  refine ⟨h2.1, fun h3 => ?_⟩
  rw [arA_take (by omega)]
  exact h2.2 h3
end Go.Proofs.YtcfhaljkemaefaaGreatDoor

namespace Go.Proofs.YtcfhaljkemaefaaGreatDoor
open Go.RowKit Limb Nmb Work
set_option linter.unusedVariables false
set_option linter.unusedSimpArgs false

theorem zero65 : ∀ w, (zeroValue 147).run Tryz.prog w = .ok (.agg (Array.replicate 65 (.int .u8 0))) w := (zero_of_info (n := 65) (by kernel_rfl)).1
def hexT : List UInt8 := [48, 49, 50, 51, 52, 53, 54, 55, 56, 57, 97, 98, 99, 100, 101, 102, 103, 104, 105, 106, 107, 108, 109, 110, 111, 112, 113, 114, 115, 116, 117, 118, 119, 120, 121, 122]
theorem hexT_at {k : Nat} (h : k < 16) : hexT[k]? = some (hx k) := by
  have : ∀ i : Fin 16, hexT[i.val]? = some (hx i.val) := by decide
  exact this ⟨k, h⟩
theorem hexT_idx {P : Program} (t : TypeId) (ht : P.underlying t = some .string) (k : IntKind) (i : Nat) (hi : i < 16) (w : World) :
    (Instr.index t (.string ⟨hexT.toArray⟩) (.int k ((i : Nat) : Int))).run P w = .ok (.int .u8 ((hx i).toNat : Int)) w := by
  have hs : (⟨hexT.toArray⟩ : ByteArray).size = 36 := rfl
  have e0 := hexT_at hi
  rw [run_index_string w t _ k _ ht, dif_pos ⟨by omega, by rw [hs]; omega⟩]
  have e : ((i : Int)).toNat = i := by omega
  simp only [e]
  have h1 : (⟨hexT.toArray⟩ : ByteArray)[i]'(by rw [hs]; omega) = hx i := by
    have h2 : i < hexT.length := by show i < 36; omega
    rw [List.getElem?_eq_getElem h2] at e0
    exact Option.some.inj e0
  rw [h1]
theorem cell_lt {w : World} {p : Addr} {v : Value} (h : w.cell? p = some v) : p.block < w.heap.size := by
  rcases Nat.lt_or_ge p.block w.heap.size with h1 | h1
  · exact h1
  · unfold World.cell? at h
    rw [Array.getElem?_eq_none h1] at h
    simp at h
theorem hexB_at {k : Nat} (h : k < 16) (hh : k < (⟨#[48, 49, 50, 51, 52, 53, 54, 55, 56, 57, 97, 98, 99, 100, 101, 102, 103, 104, 105, 106, 107, 108, 109, 110, 111, 112, 113, 114, 115, 116, 117, 118, 119, 120, 121, 122]⟩ : ByteArray).size) : (⟨#[48, 49, 50, 51, 52, 53, 54, 55, 56, 57, 97, 98, 99, 100, 101, 102, 103, 104, 105, 106, 107, 108, 109, 110, 111, 112, 113, 114, 115, 116, 117, 118, 119, 120, 121, 122]⟩ : ByteArray)[k]'hh = hx k := by
  have : ∀ i : Fin 16, (⟨#[48, 49, 50, 51, 52, 53, 54, 55, 56, 57, 97, 98, 99, 100, 101, 102, 103, 104, 105, 106, 107, 108, 109, 110, 111, 112, 113, 114, 115, 116, 117, 118, 119, 120, 121, 122]⟩ : ByteArray)[i.val]'(Nat.lt_of_lt_of_le i.isLt (by decide)) = hx i.val := by decide
  exact this ⟨k, h⟩
theorem row_set {w wr : World} {B i : Nat} {G : Nat → Int} {x : UInt8} (hi : i < 65) (hc : ∀ t, t < 65 → wr.cell? ⟨B, t, none⟩ = some (.int .u8 (G t))) (hf : ∀ t, t < 65 → wr.frozen? ⟨B, t, none⟩ = false) :
    (∀ t, t < 65 → (wr.setCell ⟨B, i, none⟩ (.int .u8 (x.toNat : Int))).cell? ⟨B, t, none⟩ = some (.int .u8 ((fun t => if t = i then (x.toNat : Int) else G t) t))) ∧ (∀ t, t < 65 → (wr.setCell ⟨B, i, none⟩ (.int .u8 (x.toNat : Int))).frozen? ⟨B, t, none⟩ = false) := by
  refine ⟨fun t ht => ?_, fun t ht => ?_⟩
  · by_cases h : t = i
    · subst h
      rw [World.cell?_setCell_same _ _ _ (hc t ht)]
      simp
    · rw [World.cell?_setCell_other _ _ _ _ (by simp [h]), hc t ht]
      simp only [if_neg h]
  · rw [World.frozen?_setCell]
    exact hf t ht
set_option maxHeartbeats 1000000 in
set_option maxRecDepth 100000 in
theorem tz64_16 (w : World) (hcell : w.cell? ⟨7, 15, none⟩ = some (.int .u8 4)) : Calls Tryz.prog 127 #[.int .u64 16] w fun e w' => e = .returned (.int .i64 4) ∧ w' = w := by
  have key : IntKind.u64.wrap (bits BinOp.and IntKind.u64 16 (IntKind.u64.wrap (-16)) * 285870213051353865) / 288230376151711744 = 15 := by decide
  go_enter Tryz.func127, Tryz.ntmps127
  go_wp2_with (simp only [key])
  go_ret
  exact ⟨rfl, rfl⟩
set_option maxHeartbeats 1000000 in
set_option maxRecDepth 100000 in
theorem tz_16 (w : World) (hcell : w.cell? ⟨7, 15, none⟩ = some (.int .u8 4)) : Calls Tryz.prog 118 #[.int .u64 16] w fun e w' => e = .returned (.int .i64 4) ∧ w' = w := by
  have HT := Lib.hid (tz64_16 w hcell)
  clear hcell
  go_enter Tryz.func118, Tryz.ntmps118
  go_wp2_with (go_at_call 127; refine HT.out.mono ?_; rintro e w' ⟨rfl, rfl⟩)
  go_ret
  exact ⟨rfl, rfl⟩
set_option maxHeartbeats 1000000 in
set_option maxRecDepth 100000 in
theorem isPow16 (w : World) : Calls Tryz.prog 117 #[.int .i64 16] w fun e w' => e = .returned (.bool true) ∧ w' = w := by
  have hb : bits .and .i64 16 15 = 0 := by decide
  go_enter Tryz.func117, Tryz.ntmps117
  go_wp2
  go_ret
  exact ⟨rfl, rfl⟩
set_option maxHeartbeats 3000000 in
set_option maxRecDepth 100000 in
theorem formatBits16 (U : Nat) (hU : U < 18446744073709551616) (w : World)
    (hcell : w.cell? ⟨7, 15, none⟩ = some (.int .u8 4)) :
    Calls Tryz.prog 98 #[.slice none 0 0, .int .u64 U, .int .i64 16, .bool false, .bool false] w fun e w' => e = .returned (.tuple #[.slice none 0 0, .string ⟨(hexL U).toArray⟩]) ∧ Below w.heap.size w w' := by
  have v213 := zero65
  have HP := Lib.hid isPow16
  have HT := Lib.hid (fun w' (hb : Below w.heap.size w w') => tz_16 w' ((hb.cell (cell_lt hcell)).trans hcell))
  clear hcell
  go_enter Tryz.func98, Tryz.ntmps98
  go_wp2_with (first
    | (go_at_call 117; refine (HP.out _).mono ?_; rintro e w' ⟨rfl, rfl⟩))
  go_at_call 118
  refine (HT.out _ ((Below.refl w.heap.size w).alloc (Nat.le_refl _) _)).mono ?_
  rintro e w' ⟨rfl, rfl⟩
  have hz0 : ∀ t, t < 65 → (w.alloc (Obj.cells (Array.replicate 65 (Value.int IntKind.u8 0)) 147)).cell? ⟨w.heap.size, t, none⟩ = some (.int .u8 0) := fun t ht => by
    rw [World.cell?_alloc_new, Array.getElem?_replicate, if_pos ht]
  have hzf : ∀ t, t < 65 → (w.alloc (Obj.cells (Array.replicate 65 (Value.int IntKind.u8 0)) 147)).frozen? ⟨w.heap.size, t, none⟩ = false := fun t _ => World.frozen?_alloc_new _ _ _ _
  have hbe := (Below.refl w.heap.size w).alloc (Nat.le_refl _) (Obj.cells (Array.replicate 65 (Value.int IntKind.u8 0)) 147)
  generalize w.alloc (Obj.cells (Array.replicate 65 (Value.int IntKind.u8 0)) 147) = w1 at *
  go_wp2
  go_loopw [13, 1] (fun vi vu wr => ∃ (m v : Nat) (acc : List UInt8) (G : Nat → Int), vi = .int .i64 ((m : Int) + 50) ∧ vu = .int .u64 (v : Int) ∧ m < 16 ∧ v < 16 ^ (m + 1) ∧ Hid (acc.length = 15 - m) ∧ Hid (hexF (m + 1) v acc = hexL U) ∧ (∀ t, t < 65 → wr.cell? ⟨w.heap.size, t, none⟩ = some (.int .u8 (G t))) ∧ (∀ t, t < 65 → wr.frozen? ⟨w.heap.size, t, none⟩ = false) ∧ Hid (∀ j (hj : j < acc.length), G (m + 50 + j) = (acc[j].toNat : Int)) ∧ Hid (Below w.heap.size w wr)) (fun vi _ _ => (RowKit.intOf vi).toNat)
  case atStart => exact ⟨15, U, [], fun _ => 0, rfl, rfl, by decide, by omega, rfl, rfl, hz0, hzf, fun j hj => absurd hj (Nat.not_lt_zero _), hbe⟩
  case round =>
    obtain ⟨m, v, acc, G, rfl, rfl, hm, hv, hl, he, hc, hf, hG, hb⟩ := hrel
    have hv64 : v < 18446744073709551616 := Nat.lt_of_lt_of_le hv (Nat.pow_le_pow_right (n := 16) (by omega) (show m + 1 ≤ 16 by omega))
    have hand : bits .and .u64 (v : Int) 15 = ((v % 16 : Nat) : Int) := by
      rw [show (15 : Int) = ((15 : Nat) : Int) from rfl, bits_and_u64_nat v 15 hv64 (by decide), show (15 : Nat) = 2 ^ 4 - 1 from rfl, Nat.and_two_pow_sub_one_eq_mod]
    have hx1 : ∀ w, (Instr.index 9 (.string ⟨hexT.toArray⟩) (.int .u64 ((v % 16 : Nat) : Int))).run Tryz.prog w = .ok (.int .u8 ((hx (v % 16)).toNat : Int)) w := fun w => hexT_idx 9 Tryz.underlying9 .u64 (v % 16) (Nat.mod_lt _ (by decide)) w
    clear hz0 hzf hbe hU
    have hci : w.heap.size = w.heap.size := rfl
    have hc0 := hc (m + 49) (by omega)
    have hf0 := hf (m + 49) (by omega)
    have hB := Lib.hid hv
    have HC := Lib.hid hc
    have HF := Lib.hid hf
    clear hv hc hf
    by_cases h16 : (16 : Int) ≤ (v : Int)
    · go_wp2
      rw [hexB_at (Nat.mod_lt _ (by decide)) (Nat.lt_of_lt_of_le (Nat.mod_lt v (by decide : 0 < 16)) (by decide))]
      obtain ⟨k, rfl⟩ : ∃ k, m = k + 1 := ⟨m - 1, by have := hB.out; rcases Nat.eq_zero_or_pos m with h | h; (subst h; omega); omega⟩
      have hrow := row_set (w := w) (x := hx (v % 16)) (by omega : k + 1 + 49 < 65) HC.out HF.out
      refine ⟨⟨k, v / 16, hx (v % 16) :: acc, _, by congr 1; omega, by congr 1, by omega, ?_, ?_, ?_, hrow.1, hrow.2, ?_, ?_⟩, ?_⟩
      · have := hB.out
        rw [Nat.div_lt_iff_lt_mul (by decide), ← Nat.pow_succ]
        exact this
      · have := hl.out
        show (hx (v % 16) :: acc).length = _
        rw [List.length_cons]; omega
      · have := he.out
        rw [hexF, if_neg (by omega)] at this
        exact this
      · intro j hj
        rcases j with _ | j
        · simp
        · have h1 := hG.out j (by simpa using hj)
          have h2 : ¬ (k + 50 + (j + 1) = k + 1 + 49) := by omega
          simp only [h2, if_false, List.getElem_cons_succ]
          rw [← h1]
          congr 1; omega
      · exact hb.out.setCell (Nat.le_refl _) _
      · show ((k + 1 : Nat) + 50 - 1 : Int).toNat < ((k + 1 : Nat) + 50 : Int).toNat
        omega
    · have hlt : v < 16 := by omega
      have hrow := row_set (w := w) (x := hx v) (by omega : m + 49 < 65) HC.out HF.out
      have hbe2 := hb.out.setCell (p := ⟨w.heap.size, m + 49, none⟩) (Nat.le_refl _) (.int .u8 ((hx v).toNat : Int))
      clear hx1
      have hal : Tryz.prog.arrayLen 147 = 65 := by simp [Program.arrayLen, Tryz.underlying147]
      have hsl : ∀ W, (Instr.sliceAt 147 (.pointer (some ⟨w.heap.size, 0, none⟩)) (some (.int .i64 ((m : Int) + 50 - 1))) none none).run Tryz.prog W = .ok (.slice (some ⟨w.heap.size, m + 49, none⟩) (16 - m) (16 - m)) W := fun W => by
        rw [run_sliceAt_array_l W 147 ⟨w.heap.size, 0, none⟩ (by simp [Program.arrayLen, Program.elem, Tryz.underlying147]) .i64 ((m : Int) + 50 - 1) (by omega) (by rw [hal]; omega)]
        go_simp
        have e9 : ((m : Int) + 50).toNat - 1 = m + 49 := by omega
        rw [e9, if_neg (by omega)]
        exact ⟨rfl, by omega⟩
      have hcv : (convert 48 9 (.slice (some ⟨w.heap.size, m + 49, none⟩) (16 - m) (16 - m))).run Tryz.prog (wr.setCell ⟨w.heap.size, m + 49, none⟩ (.int .u8 (((⟨#[48, 49, 50, 51, 52, 53, 54, 55, 56, 57, 97, 98, 99, 100, 101, 102, 103, 104, 105, 106, 107, 108, 109, 110, 111, 112, 113, 114, 115, 116, 117, 118, 119, 120, 121, 122]⟩ : ByteArray)[v]'(Nat.lt_of_lt_of_le hlt (by decide))).toNat : Int))) = .ok (.string ⟨(hexL U).toArray⟩) (wr.setCell ⟨w.heap.size, m + 49, none⟩ (.int .u8 (((⟨#[48, 49, 50, 51, 52, 53, 54, 55, 56, 57, 97, 98, 99, 100, 101, 102, 103, 104, 105, 106, 107, 108, 109, 110, 111, 112, 113, 114, 115, 116, 117, 118, 119, 120, 121, 122]⟩ : ByteArray)[v]'(Nat.lt_of_lt_of_le hlt (by decide))).toNat : Int))) := by
        rw [hexB_at hlt (Nat.lt_of_lt_of_le hlt (by decide))]
        have h := run_convert_bytes_back (P := Tryz.prog) (wr.setCell ⟨w.heap.size, m + 49, none⟩ (.int .u8 ((hx v).toNat : Int))) 48 9 5 ⟨w.heap.size, m + 49, none⟩ (16 - m) (hx v :: acc) Tryz.underlying48 Tryz.underlying5 Tryz.underlying9 (fun j hj => by
          have h2 := hl.out
          rw [List.length_cons] at hj
          rw [Lib.add_plain, hrow.1 _ (by omega)]
          rcases j with _ | j
          · simp
          · have h3 := hG.out j (by omega)
            have h4 : ¬ (m + 49 + (j + 1) = m + 49) := by omega
            simp only [if_neg h4, List.getElem_cons_succ]
            rw [← h3]
            congr 2; congr 1; omega)
        have h5 : (hx v :: acc).length = 16 - m := by have := hl.out; rw [List.length_cons]; omega
        have h6 : hx v :: acc = hexL U := by rw [← he.out, hexF, if_pos hlt]
        rw [h5, h6] at h
        exact h
      clear hal
      go_wp2
      rw [hexB_at hlt (Nat.lt_of_lt_of_le hlt (by decide))]
      clear hcv hsl
      go_ret2
      exact ⟨rfl, hbe2⟩
end Go.Proofs.YtcfhaljkemaefaaGreatDoor

namespace Go.Proofs.YtcfhaljkemaefaaGreatDoor
open Go.RowKit Limb Nmb Work
set_option linter.unusedVariables false
set_option linter.unusedSimpArgs false

theorem fstp_int {h : Nat} (x : UInt8) (hh : h < 18446744073709551616) : IntKind.u64.wrap (bits BinOp.xor IntKind.u64 (h : Int) (x.toNat : Int) * 1099511628211) = ((fstp h x : Nat) : Int) := by
  have hx := x.toNat_lt
  rw [bits_xor_u64_nat h x.toNat hh (by omega)]
  have e : IntKind.u64.wrap (((h ^^^ x.toNat : Nat) : Int) * 1099511628211) = (((h ^^^ x.toNat : Nat) : Int) * 1099511628211) % 18446744073709551616 := by simp [IntKind.wrap, IntKind.signed, IntKind.bits]
  rw [e]
  unfold fstp
  omega
set_option maxHeartbeats 1000000 in
set_option maxRecDepth 100000 in
theorem fuint_i (U : Nat) (hU : U < 18446744073709551616) (w : World) (hcell : w.cell? ⟨7, 15, none⟩ = some (.int .u8 4)) :
    Calls Tryz.prog 75 #[.int .u64 U, .int .i64 16] w fun e w' => e = .returned (.string ⟨(hexL U).toArray⟩) ∧ Below w.heap.size w w' := by
  have HF := Lib.hid (formatBits16 U hU w hcell)
  clear hcell hU
  go_enter Tryz.func75, Tryz.ntmps75
  go_wp2_with fail
  refine HF.out.mono ?_
  rintro e w1 ⟨rfl, hb⟩
  go_wp2
  go_ret
  exact ⟨rfl, hb⟩
set_option maxHeartbeats 1000000 in
set_option maxRecDepth 100000 in
theorem fuint_c (U : Nat) (hU : U < 18446744073709551616) (w : World) (hcell : w.cell? ⟨7, 15, none⟩ = some (.int .u8 4)) :
    Calls Tryz.prog 45 #[.int .u64 U, .int .i64 16] w fun e w' => e = .returned (.string ⟨(hexL U).toArray⟩) ∧ Below w.heap.size w w' := by
  have HF := Lib.hid (fuint_i U hU w hcell)
  clear hcell hU
  go_enter Tryz.func45, Tryz.ntmps45
  go_wp2_with fail
  refine HF.out.mono ?_
  rintro e w1 ⟨rfl, hb⟩
  go_wp2
  go_ret
  exact ⟨rfl, hb⟩
end Go.Proofs.YtcfhaljkemaefaaGreatDoor
