
/- Plain facts about the steps of long addition, subtraction, multiplication and division with digits of a base. No program in sight. -/
import Derived.Test.YtlkidhfjkgppoaaDoorLimbs
namespace Go.Proofs.YtlkidhfjkgppoaaDoor.Limb

theorem val_set (b : Nat) (l : List Nat) (k d : Nat) (hk : k < l.length) : val b (l.set k d) + b ^ k * l.getD k 0 = val b l + b ^ k * d := by
  induction l generalizing k with
  | nil => simp at hk
  | cons e l ih =>
    cases k with
    | zero => simp [val]; omega
    | succ k =>
      have := ih k (by simpa using hk)
      have e1 : (e :: l).getD (k + 1) 0 = l.getD k 0 := by simp [List.getD_eq_getElem?_getD]
      rw [e1, List.set_cons_succ, val_cons, val_cons, Nat.pow_succ]
      have h2 := congrArg (b * ·) this
      simp only [Nat.mul_add] at h2
      have h3 : b ^ k * b * l.getD k 0 = b * (b ^ k * l.getD k 0) := by rw [Nat.mul_comm (b ^ k) b, Nat.mul_assoc]
      have h4 : b ^ k * b * d = b * (b ^ k * d) := by rw [Nat.mul_comm (b ^ k) b, Nat.mul_assoc]
      omega

theorem Digs.set {b : Nat} {l : List Nat} (h : Digs b l) (k : Nat) {d : Nat} (hd : d < b) : Digs b (l.set k d) := by
  intro x hx
  rcases List.mem_or_eq_of_mem_set hx with hx | rfl
  · exact h x hx
  · exact hd
theorem digs_zeros {b : Nat} (hb : 0 < b) (n : Nat) : Digs b (List.replicate n 0) := by
  intro x hx
  have := List.eq_of_mem_replicate hx
  omega
theorem val_zeros (b n : Nat) : val b (List.replicate n 0) = 0 := by
  induction n with
  | zero => rfl
  | succ n ih => rw [List.replicate_succ, val_cons, ih]; simp

theorem getD_set_other {l : List Nat} {k j d : Nat} (h : j ≠ k) : (l.set k d).getD j 0 = l.getD j 0 := by
  rw [List.getD_eq_getElem?_getD, List.getD_eq_getElem?_getD, List.getElem?_set]
  rw [if_neg (by omega)]
theorem getD_set_same {l : List Nat} {k d : Nat} (h : k < l.length) : (l.set k d).getD k 0 = d := by
  rw [List.getD_eq_getElem?_getD, List.getElem?_set]
  simp [h]

/-! ### Subtraction -/
/-- A difference: with br borrowed at the place k, and the digits p and q: the digit that is written, and what is borrowed next. -/
def dig (b br p q : Nat) : Nat := if p < br + q then p + b - br - q else p - br - q
def bor (br p q : Nat) : Nat := if p < br + q then 1 else 0
theorem dig_lt {b br p q : Nat} (hbr : br ≤ 1) (hp : p < b) (hq : q < b) : dig b br p q < b := by
  unfold dig; split <;> omega
theorem bor_le (br p q : Nat) : bor br p q ≤ 1 := by unfold bor; split <;> omega
theorem dig_bor {b br p q : Nat} (hbr : br ≤ 1) (_hp : p < b) (hq : q < b) : dig b br p q + (br + q) = p + b * bor br p q := by
  unfold dig bor; split <;> simp <;> omega
theorem diff_step {b : Nat} {os : List Nat} {br x y p q : Nat} (h : x + b ^ os.length * br = val b os + y) (hbr : br ≤ 1) (hp : p < b) (hq : q < b) :
    (x + b ^ os.length * p) + b ^ (os.length + 1) * bor br p q = val b (os ++ [dig b br p q]) + (y + b ^ os.length * q) := by
  rw [val_snoc, Nat.pow_succ]
  have e := congrArg (b ^ os.length * ·) (dig_bor hbr hp hq)
  simp only [Nat.mul_add] at e
  rw [← Nat.mul_assoc] at e
  omega
theorem diff_end {b : Nat} {os : List Nat} {br x y : Nat} (h : x + b ^ os.length * br = val b os + y) (hd : Digs b os) (hle : y ≤ x) : val b os = x - y := by
  have h1 := val_lt hd
  rcases Nat.eq_zero_or_pos br with h0 | h0
  · subst h0; simp at h; omega
  · have : b ^ os.length * 1 ≤ b ^ os.length * br := Nat.mul_le_mul_left _ h0
    omega

/-! ### Multiplication -/
theorem mul_step {b : Nat} {os : List Nat} {j c m z : Nat} (hj : j < os.length) (h : val b os + b ^ j * c = z) :
    val b (os.set j ((c + os.getD j 0 + m) % b)) + b ^ (j + 1) * ((c + os.getD j 0 + m) / b) = z + b ^ j * m := by
  have h1 := val_set b os j ((c + os.getD j 0 + m) % b) hj
  have h2 := pow_split (b ^ j) b (c + os.getD j 0 + m)
  rw [Nat.pow_succ]
  rw [Nat.mul_add, Nat.mul_add] at h2
  omega
theorem mul_carry {b c o x y : Nat} (hc : c < b) (ho : o < b) (hx : x < b) (hy : y < b) : (c + o + x * y) / b < b := by
  rw [Nat.div_lt_iff_lt_mul (by omega)]
  have h1 : x * y ≤ (b - 1) * (b - 1) := Nat.mul_le_mul (by omega) (by omega)
  obtain ⟨e, rfl⟩ : ∃ e, b = e + 1 := ⟨b - 1, by omega⟩
  simp only [Nat.add_sub_cancel] at h1
  simp only [Nat.add_mul, Nat.mul_add]
  omega

/-! ### Halves -/
theorem half_step {b d r : Nat} (hd : d < b) (hr : r ≤ 1) (hb : b % 2 = 0) : (r * b + d) / 2 < b ∧ (r * b + d) % 2 ≤ 1 := by
  refine ⟨?_, by omega⟩
  rcases Nat.eq_zero_or_pos r with h | h
  · subst h; omega
  · have : r = 1 := by omega
    subst this; omega

/-! ### Bits -/
theorem or_pow {x j : Nat} (h : x % 2 ^ (j + 1) = 0) : x ||| 2 ^ j = x + 2 ^ j := by
  have h1 : 2 ^ j < 2 ^ (j + 1) := Nat.pow_lt_pow_right (by omega) (by omega)
  have h2 := Nat.two_pow_add_eq_or_of_lt h1 (x / 2 ^ (j + 1))
  have h3 := Nat.div_add_mod x (2 ^ (j + 1))
  rw [h, Nat.add_zero] at h3
  rw [h3] at h2
  exact h2.symm
theorem or_bit {x c : Nat} (h : x % 2 = 0) (hc : c ≤ 1) : x ||| c = x + c := by
  have h1 : c < 2 ^ 1 := by omega
  have h2 := Nat.two_pow_add_eq_or_of_lt h1 (x / 2)
  have h3 : 2 ^ 1 * (x / 2) = x := by omega
  rw [h3] at h2
  exact h2.symm

/-- The digit at a place. -/
theorem val_digit {b : Nat} (hb : 0 < b) {l : List Nat} (h : Digs b l) (k : Nat) : val b l / b ^ k % b = l.getD k 0 := by
  induction l generalizing k with
  | nil => simp [val]
  | cons d l ih =>
    have hd : d < b := h d (by simp)
    cases k with
    | zero => simp [val, Nat.mod_eq_of_lt hd]
    | succ k =>
      rw [val_cons, Nat.pow_succ, Nat.mul_comm (b ^ k) b, ← Nat.div_div_eq_div_mul, Nat.add_mul_div_left _ _ hb, Nat.div_eq_of_lt hd, Nat.zero_add, ih (fun x hx => h x (by simp [hx]))]
      simp [List.getD_eq_getElem?_getD]
/-- A bit of a number with digits of 32 bits. -/
theorem val_bit {l : List Nat} (h : Digs (2 ^ 32) l) (i : Nat) : l.getD (i / 32) 0 / 2 ^ (i % 32) % 2 = val (2 ^ 32) l / 2 ^ i % 2 := by
  rw [← val_digit (by decide) h (i / 32)]
  have e : 2 ^ i = (2 ^ 32) ^ (i / 32) * 2 ^ (i % 32) := by
    rw [← Nat.pow_mul, ← Nat.pow_add]; congr 1; omega
  rw [e, ← Nat.div_div_eq_div_mul]
  generalize val (2 ^ 32) l / (2 ^ 32) ^ (i / 32) = v
  have hlt : i % 32 < 32 := Nat.mod_lt _ (by omega)
  have e2 : 2 ^ 32 = 2 ^ (i % 32) * 2 ^ (32 - i % 32) := by rw [← Nat.pow_add]; congr 1; omega
  rw [e2, Nat.mod_mul_right_div_self]
  have e3 : 2 ^ (32 - i % 32) = 2 * 2 ^ (31 - i % 32) := by rw [← Nat.pow_succ']; congr 1; omega
  rw [e3, Nat.mod_mul_right_mod]

/-- One bit more of a division. -/
theorem div_step {A i Q b r t : Nat} (h : A / 2 ^ (i + 1) = t * b + r) (hQ : Q = 2 ^ (i + 1) * t) :
    A / 2 ^ i = 2 * t * b + (2 * r + A / 2 ^ i % 2) ∧ Q = 2 ^ i * (2 * t) := by
  refine ⟨?_, by rw [hQ, Nat.pow_succ, Nat.mul_assoc]⟩
  have h1 : A / 2 ^ i / 2 = t * b + r := by rw [Nat.div_div_eq_div_mul, ← Nat.pow_succ]; exact h
  have h2 : 2 * t * b = 2 * (t * b) := Nat.mul_assoc _ _ _
  omega
/-- The word in which a bit is set. -/
theorem word_low {q : List Nat} {i t : Nat} (h : Digs (2 ^ 32) q) (hQ : val (2 ^ 32) q = 2 ^ (i + 1) * t) : q.getD (i / 32) 0 % 2 ^ (i % 32 + 1) = 0 := by
  rw [← val_digit (by decide) h (i / 32), hQ]
  have e : 2 ^ (i + 1) * t = (2 ^ 32) ^ (i / 32) * (2 ^ (i % 32 + 1) * t) := by
    rw [← Nat.mul_assoc, ← Nat.pow_mul, ← Nat.pow_add]; congr 2; omega
  rw [e, Nat.mul_div_cancel_left _ (Nat.pow_pos (by decide))]
  have hlt : i % 32 < 32 := Nat.mod_lt _ (by omega)
  have e2 : 2 ^ 32 = 2 ^ (i % 32 + 1) * 2 ^ (31 - i % 32) := by rw [← Nat.pow_add]; congr 1; omega
  rw [e2, Nat.mul_mod_mul_left, Nat.mul_mod_right]
theorem set_bit {q : List Nat} {i t : Nat} (h : Digs (2 ^ 32) q) (hQ : val (2 ^ 32) q = 2 ^ (i + 1) * t) (hi : i / 32 < q.length) :
    val (2 ^ 32) (q.set (i / 32) (q.getD (i / 32) 0 ||| 2 ^ (i % 32))) = 2 ^ i * (2 * t + 1) := by
  rw [or_pow (word_low h hQ)]
  have h1 := val_set (2 ^ 32) q (i / 32) (q.getD (i / 32) 0 + 2 ^ (i % 32)) hi
  rw [Nat.mul_add, ← Nat.pow_mul, ← Nat.pow_add] at h1
  have e : 32 * (i / 32) + i % 32 = i := by omega
  rw [e, hQ] at h1
  have e2 : 2 ^ (i + 1) * t = 2 ^ i * (2 * t) := by rw [Nat.pow_succ, Nat.mul_assoc]
  rw [e2] at h1
  rw [Nat.mul_add, Nat.mul_one]
  generalize 2 ^ i * (2 * t) = X at *
  generalize 2 ^ i = Y at *
  omega
theorem or_lt {x j : Nat} (h : x < 2 ^ 32) (hj : j < 32) : x ||| 2 ^ j < 2 ^ 32 := Nat.or_lt_two_pow h (Nat.pow_lt_pow_right (by omega) hj)

end Go.Proofs.YtlkidhfjkgppoaaDoor.Limb
