/- The library's contracts of strings.Join and of a Builder's WriteString, laid at this dump. (Printed by genHB.py.) Plain facts on numbers with check digits. No program in sight. Plain facts about numbers that are written with digits of a base, the lowest digit first. No program in sight. Plain facts about the steps of long addition, subtraction, multiplication and division with digits of a base. No program in sight. -/
import Derived.Shelf.Lay
import Derived.Shelf.Strings.BuilderF
import Derived.Shelf.Strings.OnBuilder
import Derived.Shelf.Strings.BuilderK
import Derived.Test.YtklblmbacnnoeaaGreatDoorProg
-- merged: HB K0 Limbs Limbs2

namespace Go.Proofs
open Go.Shelf
def Tryz.layH166_ren : Go.Shelf.Ren := ⟨fun | 166 => 63 | 240 => 115 | 276 => 173 | n => n, fun | 0 => 0 | 3 => 3 | 4 => 4 | 5 => 5 | 9 => 9 | 20 => 20 | 31 => 25 | 37 => 97 | 70 => 96 | 72 => 99 | 75 => 101 | 76 => 102 | 80 => 104 | 127 => 148 | 164 => 190 | n => n, fun | n => n⟩
theorem Tryz.layH166 : Go.Proofs.Lays.n166 Tryz.prog Tryz.layH166_ren := {
  mixed := by kernel_rfl
  f166 := Tryz.func63.trans (congrArg some (by kernel_rfl))
  f240 := Tryz.func115.trans (congrArg some (by kernel_rfl))
  f276 := Tryz.func173.trans (congrArg some (by kernel_rfl))
  t0 := Tryz.underlying0
  a0 := Tryz.isAgg0
  z0 := Tryz.sizeOf0
  v0 := Tryz.zeroValue0
  t3 := Tryz.underlying3
  a3 := Tryz.isAgg3
  z3 := Tryz.sizeOf3
  v3 := Tryz.zeroValue3
  t4 := Tryz.underlying4
  a4 := Tryz.isAgg4
  z4 := Tryz.sizeOf4
  v4 := Tryz.zeroValue4
  t9 := Tryz.underlying9
  a9 := Tryz.isAgg9
  z9 := Tryz.sizeOf9
  v9 := Tryz.zeroValue9
  t20 := Tryz.underlying20
  a20 := Tryz.isAgg20
  z20 := Tryz.sizeOf20
  v20 := Tryz.zeroValue20
  t37 := Tryz.underlying97
  a37 := Tryz.isAgg97
  z37 := Tryz.sizeOf97
  v37 := Tryz.zeroValue97
  t70 := Tryz.underlying96
  a70 := Tryz.isAgg96
  z70 := Tryz.sizeOf96
  v70 := Tryz.zeroValue96
  t72 := Tryz.underlying99
  a72 := Tryz.isAgg99
  z72 := Tryz.sizeOf99
  v72 := Tryz.zeroValue99
  t75 := Tryz.underlying101
  a75 := Tryz.isAgg101
  z75 := Tryz.sizeOf101
  v75 := Tryz.zeroValue101
  t164 := Tryz.underlying190
  a164 := Tryz.isAgg190
  z164 := Tryz.sizeOf190
  v164 := Tryz.zeroValue190 }
theorem Tryz.layH166_extra : Builder.Extra Tryz.prog Tryz.layH166_ren := {
  sizeBuilder := by kernel_rfl
  liesBuilder := by kernel_rfl
  t5 := Tryz.underlying5
  a5 := Tryz.isAgg5
  z5 := Tryz.sizeOf5
  v5 := Tryz.zeroValue5
  infoByte := by kernel_rfl
  cellsByte := by kernel_rfl
  sizeByte := by kernel_rfl
  neB5 := by decide }
open Go.RowKit in
theorem Tryz.wstrk_c (B b : Nat) (bs : List Value) (s : ByteArray) (w : World) (h : Lib.IsBuilderF 99 5 B b bs w) (hlen : bs.length + s.size ≤ 140737488355328) (hBw : B ≤ w.heap.size) :
    Calls Tryz.prog 63 #[.pointer (some ⟨b, 0, none⟩), .string s] w fun e w' => e = .returned (.tuple #[.int .i64 s.size, .nilIface]) ∧ (Lib.BuilderAtF 99 5 B b (.pointer (some ⟨b, 0, none⟩)) (bs ++ Lib.strCells s) w' ∧ Below B w w' ∧ Lib.OthersKept 5 (some b) w w') :=
  Any.Builder_WriteString_k Tryz.layH166 Tryz.layH166_extra B b bs s w h hlen hBw
end Go.Proofs

namespace Go.Proofs.YtklblmbacnnoeaaGreatDoor.Nmb
set_option linter.unusedVariables false

/-- The byte at a place, and its digit. -/
def byA (l : List UInt8) (i : Nat) : Int := ((l.getD i 48).toNat : Int)
def dgt (l : List UInt8) (i : Nat) : Int := byA l i - 48
theorem byA_get {l : List UInt8} {i : Nat} (h : i < l.length) : byA l i = (l[i].toNat : Int) := by
  unfold byA
  rw [List.getD_eq_getElem?_getD, List.getElem?_eq_getElem h]; rfl
/-- All bytes from a low one to a high one. -/
def inL (l : List UInt8) (a b : Int) : Bool := decide (∀ i, i < l.length → a ≤ byA l i ∧ byA l i ≤ b)
theorem inL_yes {l : List UInt8} {a b : Int} (h : inL l a b = true) {i : Nat} (hi : i < l.length) : a ≤ byA l i ∧ byA l i ≤ b := of_decide_eq_true h i hi
theorem inL_mk {l : List UInt8} {a b : Int} (h : ∀ i, i < l.length → a ≤ byA l i ∧ byA l i ≤ b) : inL l a b = true := decide_eq_true h
theorem inL_no {l : List UInt8} {a b : Int} {i : Nat} (hi : i < l.length) (h : ¬ (a ≤ byA l i ∧ byA l i ≤ b)) : inL l a b = false := decide_eq_false (fun k => h (k i hi))
def digs (l : List UInt8) : Bool := inL l 48 57 && !l.isEmpty
theorem digs_yes {l : List UInt8} (h : digs l = true) : 0 < l.length ∧ ∀ i, i < l.length → 0 ≤ dgt l i ∧ dgt l i ≤ 9 := by
  unfold digs at h
  rw [Bool.and_eq_true] at h
  refine ⟨?_, fun i hi => ?_⟩
  · cases l with
    | nil => simp at h
    | cons a b => simp
  · have := inL_yes h.1 hi
    unfold dgt
    omega
/-- Capital letters and digits. -/
def tagC (c : Int) : Bool := decide ((65 ≤ c ∧ c ≤ 90) ∨ (48 ≤ c ∧ c ≤ 57))
def tagL (l : List UInt8) : Bool := l.all fun c => tagC (c.toNat : Int)
/-! ### What a number of a bank leaves -/
/-- The reference's: the values of letters as digits, then the remainder. -/
def valC (c : UInt8) : List UInt8 := if 65 ≤ (c.toNat : Int) ∧ (c.toNat : Int) ≤ 90 then [UInt8.ofNat (48 + (c.toNat - 55) / 10), UInt8.ofNat (48 + (c.toNat - 55) % 10)] else [c]
def vals (l : List UInt8) : List UInt8 := l.flatMap valC
theorem ofNat_toNat {n : Nat} (h : n < 256) : ((UInt8.ofNat n).toNat : Int) = n := by
  rw [UInt8.toNat_ofNat_of_lt' (by simpa using h)]
/-! ### The digit of a tax number -/
/-! ### Numbers -/
end Go.Proofs.YtklblmbacnnoeaaGreatDoor.Nmb

namespace Go.Proofs.YtklblmbacnnoeaaGreatDoor.Limb

/-- The number whose digits, the lowest first, are the list. -/
def val (b : Nat) : List Nat → Nat
  | [] => 0
  | d :: l => d + b * val b l

/-- All digits are below the base. -/
def Digs (b : Nat) (l : List Nat) : Prop := ∀ d ∈ l, d < b

/-- There is no 0 at the end. -/
def Norm (l : List Nat) : Prop := ∀ d, l.getLast? = some d → d ≠ 0

theorem val_nil (b : Nat) : val b [] = 0 := rfl
theorem val_cons (b d : Nat) (l : List Nat) : val b (d :: l) = d + b * val b l := rfl

theorem val_append (b : Nat) (l m : List Nat) : val b (l ++ m) = val b l + b ^ l.length * val b m := by
  induction l with
  | nil => simp [val]
  | cons d l ih =>
    simp only [List.cons_append, val_cons, ih, List.length_cons, Nat.pow_succ, Nat.mul_add]
    have : b ^ l.length * b * val b m = b * (b ^ l.length * val b m) := by
      rw [Nat.mul_comm (b ^ l.length) b, Nat.mul_assoc]
    omega

theorem val_snoc (b : Nat) (l : List Nat) (d : Nat) : val b (l ++ [d]) = val b l + b ^ l.length * d := by
  rw [val_append]; simp [val]

theorem Digs.nil (b : Nat) : Digs b [] := by intro d h; cases h
theorem Digs.append {b : Nat} {l m : List Nat} (h : Digs b l) (k : Digs b m) : Digs b (l ++ m) := by
  intro d hd
  rcases List.mem_append.1 hd with hd | hd
  · exact h d hd
  · exact k d hd
theorem Digs.snoc {b d : Nat} {l : List Nat} (h : Digs b l) (hd : d < b) : Digs b (l ++ [d]) :=
  h.append (by intro x hx; simp at hx; omega)
theorem Digs.take {b : Nat} {l : List Nat} (h : Digs b l) (k : Nat) : Digs b (l.take k) := fun d hd => h d (List.mem_of_mem_take hd)
theorem Digs.drop {b : Nat} {l : List Nat} (h : Digs b l) (k : Nat) : Digs b (l.drop k) := fun d hd => h d (List.mem_of_mem_drop hd)
theorem Digs.getD {b : Nat} {l : List Nat} (h : Digs b l) (hb : 0 < b) (k : Nat) : l.getD k 0 < b := by
  rw [List.getD_eq_getElem?_getD]
  rcases Nat.lt_or_ge k l.length with hk | hk
  · rw [List.getElem?_eq_getElem hk]; exact h _ (List.getElem_mem hk)
  · rw [List.getElem?_eq_none hk]; exact hb
theorem Digs.get {b : Nat} {l : List Nat} (h : Digs b l) {k : Nat} (hk : k < l.length) : l[k] < b := h _ (List.getElem_mem hk)

theorem getD_get {l : List Nat} {k : Nat} (h : k < l.length) : l.getD k 0 = l[k] := by
  rw [List.getD_eq_getElem?_getD, List.getElem?_eq_getElem h]; rfl

theorem val_take_succ (b : Nat) (l : List Nat) (k : Nat) : val b (l.take (k + 1)) = val b (l.take k) + b ^ k * l.getD k 0 := by
  rcases Nat.lt_or_ge k l.length with hk | hk
  · rw [List.take_succ_eq_append_getElem hk, val_snoc, List.length_take, Nat.min_eq_left (by omega), getD_get hk]
  · rw [List.take_of_length_le (by omega), List.take_of_length_le hk, List.getD_eq_getElem?_getD, List.getElem?_eq_none hk]; simp

theorem val_split (b : Nat) (l : List Nat) (k : Nat) (hk : k ≤ l.length) : val b l = val b (l.take k) + b ^ k * val b (l.drop k) := by
  have h := val_append b (l.take k) (l.drop k)
  rw [List.take_append_drop, List.length_take, Nat.min_eq_left hk] at h
  exact h

theorem val_lt {b : Nat} {l : List Nat} (h : Digs b l) : val b l < b ^ l.length := by
  induction l with
  | nil => simp [val]
  | cons d l ih =>
    have hd : d < b := h d (by simp)
    have hl := ih fun x hx => h x (by simp [hx])
    rw [val_cons, List.length_cons, Nat.pow_succ, Nat.mul_comm _ b]
    have h2 : b * (val b l + 1) ≤ b * b ^ l.length := Nat.mul_le_mul_left b hl
    rw [Nat.mul_add] at h2
    omega

theorem norm_nil : Norm [] := by intro d h; cases h
theorem norm_snoc {l : List Nat} {d : Nat} : Norm (l ++ [d]) ↔ d ≠ 0 := by
  unfold Norm
  rw [List.getLast?_append]
  simp
theorem snoc_of {l : List Nat} (h : l ≠ []) : ∃ m d, l = m ++ [d] := ⟨l.dropLast, l.getLast h, (List.dropLast_concat_getLast h).symm⟩

theorem val_ge {b : Nat} {l : List Nat} (hn : Norm l) (hl : l ≠ []) : b ^ (l.length - 1) ≤ val b l := by
  obtain ⟨m, d, rfl⟩ := snoc_of hl
  have hd := norm_snoc.1 hn
  rw [val_snoc, List.length_append, List.length_singleton, Nat.add_sub_cancel]
  have : b ^ m.length * 1 ≤ b ^ m.length * d := Nat.mul_le_mul_left _ (by omega)
  omega

theorem val_pos {b : Nat} (hb : 0 < b) {l : List Nat} (hn : Norm l) (hl : l ≠ []) : 0 < val b l :=
  Nat.lt_of_lt_of_le (Nat.pow_pos hb) (val_ge hn hl)

/-- How many digits a number has is bounded by its size. -/
theorem len_le {b K : Nat} (hb : 1 < b) {l : List Nat} (hn : Norm l) (hv : val b l < b ^ K) : l.length ≤ K := by
  rcases Classical.em (l = []) with rfl | e
  · simp
  · have h := val_ge (b := b) hn e
    have h2 : b ^ (l.length - 1) < b ^ K := Nat.lt_of_le_of_lt h hv
    have h3 := (Nat.pow_lt_pow_iff_right hb).1 h2
    omega

/-- Longer numbers without a 0 at the end are greater. -/
theorem val_lt_of_len {b : Nat} (hb : 1 < b) {l m : List Nat} (hl : Digs b l) (hm : Norm m) (h : l.length < m.length) : val b l < val b m := by
  have hne : m ≠ [] := by intro e; rw [e] at h; simp at h
  have h1 := val_lt hl
  have h2 := val_ge (b := b) hm hne
  have h3 : b ^ l.length ≤ b ^ (m.length - 1) := Nat.pow_le_pow_right (by omega) (by omega)
  omega

/-- Numbers of one length compare by their highest digit that differs. -/
theorem val_lt_of_digit {b : Nat} {l m : List Nat} {k : Nat} (hl : Digs b l) (hk : k < l.length) (hk' : k < m.length)
    (ht : l.drop (k + 1) = m.drop (k + 1)) (h : l.getD k 0 < m.getD k 0) : val b l < val b m := by
  rw [val_split b l (k + 1) hk, val_split b m (k + 1) hk', ht, val_take_succ, val_take_succ]
  have h1 := val_lt (hl.take k)
  rw [List.length_take, Nat.min_eq_left (by omega)] at h1
  have h2 : b ^ k * (l.getD k 0 + 1) ≤ b ^ k * m.getD k 0 := Nat.mul_le_mul_left _ h
  rw [Nat.mul_add] at h2
  omega

theorem drop_eq_step {l m : List Nat} {k : Nat} (hk : k < l.length) (hk' : k < m.length) (ht : l.drop (k + 1) = m.drop (k + 1)) (h : l.getD k 0 = m.getD k 0) : l.drop k = m.drop k := by
  rw [List.drop_eq_getElem_cons hk, List.drop_eq_getElem_cons hk', ht]
  rw [getD_get hk, getD_get hk'] at h
  rw [h]

/-! ### Trimming -/
/-- The digits without the 0 at the end. -/
def trim (l : List Nat) : List Nat := (l.reverse.dropWhile (· == 0)).reverse

theorem trim_snoc_zero (l : List Nat) : trim (l ++ [0]) = trim l := by simp [trim]
theorem trim_snoc_pos (l : List Nat) {d : Nat} (h : d ≠ 0) : trim (l ++ [d]) = l ++ [d] := by simp [trim, h]
theorem snoc_induction {P : List Nat → Prop} (h0 : P []) (h1 : ∀ l d, P l → P (l ++ [d])) (l : List Nat) : P l := by
  have : ∀ n (l : List Nat), l.length = n → P l := by
    intro n
    induction n with
    | zero => intro l hl; rw [List.length_eq_zero_iff] at hl; subst hl; exact h0
    | succ n ih =>
      intro l hl
      obtain ⟨m, d, rfl⟩ := snoc_of (l := l) (by intro e; subst e; simp at hl)
      exact h1 _ _ (ih m (by simpa using hl))
  exact this _ l rfl

theorem val_trim (b : Nat) (l : List Nat) : val b (trim l) = val b l := by
  refine snoc_induction (P := fun l => val b (trim l) = val b l) rfl ?_ l
  intro l d ih
  by_cases h : d = 0
  · subst h; rw [trim_snoc_zero, ih, val_snoc]; simp
  · rw [trim_snoc_pos l h]
theorem norm_trim (l : List Nat) : Norm (trim l) := by
  refine snoc_induction (P := fun l => Norm (trim l)) norm_nil ?_ l
  intro l d ih
  by_cases h : d = 0
  · subst h; rw [trim_snoc_zero]; exact ih
  · rw [trim_snoc_pos l h]; exact norm_snoc.2 h
theorem trim_prefix (l : List Nat) : ∃ k, k ≤ l.length ∧ trim l = l.take k := by
  refine snoc_induction (P := fun l => ∃ k, k ≤ l.length ∧ trim l = l.take k) ⟨0, by simp, rfl⟩ ?_ l
  intro l d ⟨k, hk, e⟩
  by_cases h : d = 0
  · subst h
    refine ⟨k, by simp; omega, ?_⟩
    rw [trim_snoc_zero, e, List.take_append_of_le_length hk]
  · exact ⟨l.length + 1, by simp, by rw [trim_snoc_pos l h, List.take_of_length_le (by simp)]⟩
theorem digs_trim {b : Nat} {l : List Nat} (h : Digs b l) : Digs b (trim l) := by
  obtain ⟨k, _, e⟩ := trim_prefix l
  rw [e]; exact h.take k
/-! ### One digit of a sum, of a difference, of a product -/
theorem pow_split (P b t : Nat) : P * (t % b) + P * b * (t / b) = P * t := by
  rw [Nat.mul_assoc, ← Nat.mul_add, Nat.mod_add_div]

/-- A sum: with c carried at the place k, and the digits p and q. -/
theorem sum_step {b : Nat} {os : List Nat} {c x y p q : Nat} (h : val b os + b ^ os.length * c = x + y) :
    val b (os ++ [(c + p + q) % b]) + b ^ (os.length + 1) * ((c + p + q) / b) = (x + b ^ os.length * p) + (y + b ^ os.length * q) := by
  rw [val_snoc, Nat.pow_succ]
  have := pow_split (b ^ os.length) b (c + p + q)
  rw [Nat.mul_add, Nat.mul_add] at this
  omega

theorem carry_le {b c p q : Nat} (hc : c ≤ 1) (hp : p < b) (hq : q < b) : (c + p + q) / b ≤ 1 := by
  have : (c + p + q) / b < 2 := by
    rw [Nat.div_lt_iff_lt_mul (by omega)]; omega
  omega

end Go.Proofs.YtklblmbacnnoeaaGreatDoor.Limb

namespace Go.Proofs.YtklblmbacnnoeaaGreatDoor.Limb

theorem val_set (b : Nat) (l : List Nat) (k d : Nat) (hk : k < l.length) : val b (l.set k d) + b ^ k * l.getD k 0 = val b l + b ^ k * d := by
  induction l generalizing k with
  | nil => simp at hk
  | cons e l ih =>
    cases k with
    | zero => simp [val]; omega
    | succ k =>
      have := ih k (by simpa using hk)
      have e1 : (e :: l).getD (k + 1) 0 = l.getD k 0 := by simp [List.getD_eq_getElem?_getD]
      rw [e1, List.set_cons_succ, val_cons, val_cons, Nat.pow_succ]
      have h2 := congrArg (b * ·) this
      simp only [Nat.mul_add] at h2
      have h3 : b ^ k * b * l.getD k 0 = b * (b ^ k * l.getD k 0) := by rw [Nat.mul_comm (b ^ k) b, Nat.mul_assoc]
      have h4 : b ^ k * b * d = b * (b ^ k * d) := by rw [Nat.mul_comm (b ^ k) b, Nat.mul_assoc]
      omega

theorem Digs.set {b : Nat} {l : List Nat} (h : Digs b l) (k : Nat) {d : Nat} (hd : d < b) : Digs b (l.set k d) := by
  intro x hx
  rcases List.mem_or_eq_of_mem_set hx with hx | rfl
  · exact h x hx
  · exact hd
theorem digs_zeros {b : Nat} (hb : 0 < b) (n : Nat) : Digs b (List.replicate n 0) := by
  intro x hx
  have := List.eq_of_mem_replicate hx
  omega
theorem val_zeros (b n : Nat) : val b (List.replicate n 0) = 0 := by
  induction n with
  | zero => rfl
  | succ n ih => rw [List.replicate_succ, val_cons, ih]; simp

theorem getD_set_other {l : List Nat} {k j d : Nat} (h : j ≠ k) : (l.set k d).getD j 0 = l.getD j 0 := by
  rw [List.getD_eq_getElem?_getD, List.getD_eq_getElem?_getD, List.getElem?_set]
  rw [if_neg (by omega)]
/-! ### Subtraction -/
/-- A difference: with br borrowed at the place k, and the digits p and q: the digit that is written, and what is borrowed next. -/
def dig (b br p q : Nat) : Nat := if p < br + q then p + b - br - q else p - br - q
def bor (br p q : Nat) : Nat := if p < br + q then 1 else 0
theorem dig_lt {b br p q : Nat} (hbr : br ≤ 1) (hp : p < b) (hq : q < b) : dig b br p q < b := by
  unfold dig; split <;> omega
theorem bor_le (br p q : Nat) : bor br p q ≤ 1 := by unfold bor; split <;> omega
theorem dig_bor {b br p q : Nat} (hbr : br ≤ 1) (_hp : p < b) (hq : q < b) : dig b br p q + (br + q) = p + b * bor br p q := by
  unfold dig bor; split <;> simp <;> omega
theorem diff_step {b : Nat} {os : List Nat} {br x y p q : Nat} (h : x + b ^ os.length * br = val b os + y) (hbr : br ≤ 1) (hp : p < b) (hq : q < b) :
    (x + b ^ os.length * p) + b ^ (os.length + 1) * bor br p q = val b (os ++ [dig b br p q]) + (y + b ^ os.length * q) := by
  rw [val_snoc, Nat.pow_succ]
  have e := congrArg (b ^ os.length * ·) (dig_bor hbr hp hq)
  simp only [Nat.mul_add] at e
  rw [← Nat.mul_assoc] at e
  omega
theorem diff_end {b : Nat} {os : List Nat} {br x y : Nat} (h : x + b ^ os.length * br = val b os + y) (hd : Digs b os) (hle : y ≤ x) : val b os = x - y := by
  have h1 := val_lt hd
  rcases Nat.eq_zero_or_pos br with h0 | h0
  · subst h0; simp at h; omega
  · have : b ^ os.length * 1 ≤ b ^ os.length * br := Nat.mul_le_mul_left _ h0
    omega

/-! ### Multiplication -/
theorem mul_step {b : Nat} {os : List Nat} {j c m z : Nat} (hj : j < os.length) (h : val b os + b ^ j * c = z) :
    val b (os.set j ((c + os.getD j 0 + m) % b)) + b ^ (j + 1) * ((c + os.getD j 0 + m) / b) = z + b ^ j * m := by
  have h1 := val_set b os j ((c + os.getD j 0 + m) % b) hj
  have h2 := pow_split (b ^ j) b (c + os.getD j 0 + m)
  rw [Nat.pow_succ]
  rw [Nat.mul_add, Nat.mul_add] at h2
  omega
theorem mul_carry {b c o x y : Nat} (hc : c < b) (ho : o < b) (hx : x < b) (hy : y < b) : (c + o + x * y) / b < b := by
  rw [Nat.div_lt_iff_lt_mul (by omega)]
  have h1 : x * y ≤ (b - 1) * (b - 1) := Nat.mul_le_mul (by omega) (by omega)
  obtain ⟨e, rfl⟩ : ∃ e, b = e + 1 := ⟨b - 1, by omega⟩
  simp only [Nat.add_sub_cancel] at h1
  simp only [Nat.add_mul, Nat.mul_add]
  omega

/-! ### Halves -/
/-! ### Bits -/
/-- One bit more of a division. -/
theorem div_step {A i Q b r t : Nat} (h : A / 2 ^ (i + 1) = t * b + r) (hQ : Q = 2 ^ (i + 1) * t) :
    A / 2 ^ i = 2 * t * b + (2 * r + A / 2 ^ i % 2) ∧ Q = 2 ^ i * (2 * t) := by
  refine ⟨?_, by rw [hQ, Nat.pow_succ, Nat.mul_assoc]⟩
  have h1 : A / 2 ^ i / 2 = t * b + r := by rw [Nat.div_div_eq_div_mul, ← Nat.pow_succ]; exact h
  have h2 : 2 * t * b = 2 * (t * b) := Nat.mul_assoc _ _ _
  omega
end Go.Proofs.YtklblmbacnnoeaaGreatDoor.Limb
