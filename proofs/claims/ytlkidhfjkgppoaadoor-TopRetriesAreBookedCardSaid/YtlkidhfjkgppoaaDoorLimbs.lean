
/- Plain facts about numbers that are written with digits of a base, the lowest digit first. No program in sight. -/
namespace Go.Proofs.YtlkidhfjkgppoaaDoor.Limb

/-- The number whose digits, the lowest first, are the list. -/
def val (b : Nat) : List Nat → Nat
  | [] => 0
  | d :: l => d + b * val b l

/-- All digits are below the base. -/
def Digs (b : Nat) (l : List Nat) : Prop := ∀ d ∈ l, d < b

/-- There is no 0 at the end. -/
def Norm (l : List Nat) : Prop := ∀ d, l.getLast? = some d → d ≠ 0

theorem val_nil (b : Nat) : val b [] = 0 := rfl
theorem val_cons (b d : Nat) (l : List Nat) : val b (d :: l) = d + b * val b l := rfl

theorem val_append (b : Nat) (l m : List Nat) : val b (l ++ m) = val b l + b ^ l.length * val b m := by
  induction l with
  | nil => simp [val]
  | cons d l ih =>
    simp only [List.cons_append, val_cons, ih, List.length_cons, Nat.pow_succ, Nat.mul_add]
    have : b ^ l.length * b * val b m = b * (b ^ l.length * val b m) := by
      rw [Nat.mul_comm (b ^ l.length) b, Nat.mul_assoc]
    omega

theorem val_snoc (b : Nat) (l : List Nat) (d : Nat) : val b (l ++ [d]) = val b l + b ^ l.length * d := by
  rw [val_append]; simp [val]

theorem Digs.nil (b : Nat) : Digs b [] := by intro d h; cases h
theorem Digs.append {b : Nat} {l m : List Nat} (h : Digs b l) (k : Digs b m) : Digs b (l ++ m) := by
  intro d hd
  rcases List.mem_append.1 hd with hd | hd
  · exact h d hd
  · exact k d hd
theorem Digs.snoc {b d : Nat} {l : List Nat} (h : Digs b l) (hd : d < b) : Digs b (l ++ [d]) :=
  h.append (by intro x hx; simp at hx; omega)
theorem Digs.take {b : Nat} {l : List Nat} (h : Digs b l) (k : Nat) : Digs b (l.take k) := fun d hd => h d (List.mem_of_mem_take hd)
theorem Digs.drop {b : Nat} {l : List Nat} (h : Digs b l) (k : Nat) : Digs b (l.drop k) := fun d hd => h d (List.mem_of_mem_drop hd)
theorem Digs.getD {b : Nat} {l : List Nat} (h : Digs b l) (hb : 0 < b) (k : Nat) : l.getD k 0 < b := by
  rw [List.getD_eq_getElem?_getD]
  rcases Nat.lt_or_ge k l.length with hk | hk
  · rw [List.getElem?_eq_getElem hk]; exact h _ (List.getElem_mem hk)
  · rw [List.getElem?_eq_none hk]; exact hb
theorem Digs.get {b : Nat} {l : List Nat} (h : Digs b l) {k : Nat} (hk : k < l.length) : l[k] < b := h _ (List.getElem_mem hk)

theorem getD_get {l : List Nat} {k : Nat} (h : k < l.length) : l.getD k 0 = l[k] := by
  rw [List.getD_eq_getElem?_getD, List.getElem?_eq_getElem h]; rfl

theorem val_take_succ (b : Nat) (l : List Nat) (k : Nat) : val b (l.take (k + 1)) = val b (l.take k) + b ^ k * l.getD k 0 := by
  rcases Nat.lt_or_ge k l.length with hk | hk
  · rw [List.take_succ_eq_append_getElem hk, val_snoc, List.length_take, Nat.min_eq_left (by omega), getD_get hk]
  · rw [List.take_of_length_le (by omega), List.take_of_length_le hk, List.getD_eq_getElem?_getD, List.getElem?_eq_none hk]; simp

theorem val_split (b : Nat) (l : List Nat) (k : Nat) (hk : k ≤ l.length) : val b l = val b (l.take k) + b ^ k * val b (l.drop k) := by
  have h := val_append b (l.take k) (l.drop k)
  rw [List.take_append_drop, List.length_take, Nat.min_eq_left hk] at h
  exact h

theorem val_lt {b : Nat} {l : List Nat} (h : Digs b l) : val b l < b ^ l.length := by
  induction l with
  | nil => simp [val]
  | cons d l ih =>
    have hd : d < b := h d (by simp)
    have hl := ih fun x hx => h x (by simp [hx])
    rw [val_cons, List.length_cons, Nat.pow_succ, Nat.mul_comm _ b]
    have h2 : b * (val b l + 1) ≤ b * b ^ l.length := Nat.mul_le_mul_left b hl
    rw [Nat.mul_add] at h2
    omega

theorem norm_nil : Norm [] := by intro d h; cases h
theorem norm_snoc {l : List Nat} {d : Nat} : Norm (l ++ [d]) ↔ d ≠ 0 := by
  unfold Norm
  rw [List.getLast?_append]
  simp
theorem snoc_of {l : List Nat} (h : l ≠ []) : ∃ m d, l = m ++ [d] := ⟨l.dropLast, l.getLast h, (List.dropLast_concat_getLast h).symm⟩

theorem val_ge {b : Nat} {l : List Nat} (hn : Norm l) (hl : l ≠ []) : b ^ (l.length - 1) ≤ val b l := by
  obtain ⟨m, d, rfl⟩ := snoc_of hl
  have hd := norm_snoc.1 hn
  rw [val_snoc, List.length_append, List.length_singleton, Nat.add_sub_cancel]
  have : b ^ m.length * 1 ≤ b ^ m.length * d := Nat.mul_le_mul_left _ (by omega)
  omega

theorem val_pos {b : Nat} (hb : 0 < b) {l : List Nat} (hn : Norm l) (hl : l ≠ []) : 0 < val b l :=
  Nat.lt_of_lt_of_le (Nat.pow_pos hb) (val_ge hn hl)

theorem val_zero_iff {b : Nat} (hb : 0 < b) {l : List Nat} (hn : Norm l) : val b l = 0 ↔ l = [] := by
  constructor
  · intro h
    rcases Classical.em (l = []) with e | e
    · exact e
    · have := val_pos hb hn e; omega
  · rintro rfl; rfl

/-- How many digits a number has is bounded by its size. -/
theorem len_le {b K : Nat} (hb : 1 < b) {l : List Nat} (hn : Norm l) (hv : val b l < b ^ K) : l.length ≤ K := by
  rcases Classical.em (l = []) with rfl | e
  · simp
  · have h := val_ge (b := b) hn e
    have h2 : b ^ (l.length - 1) < b ^ K := Nat.lt_of_le_of_lt h hv
    have h3 := (Nat.pow_lt_pow_iff_right hb).1 h2
    omega

/-- Longer numbers without a 0 at the end are greater. -/
theorem val_lt_of_len {b : Nat} (hb : 1 < b) {l m : List Nat} (hl : Digs b l) (hm : Norm m) (h : l.length < m.length) : val b l < val b m := by
  have hne : m ≠ [] := by intro e; rw [e] at h; simp at h
  have h1 := val_lt hl
  have h2 := val_ge (b := b) hm hne
  have h3 : b ^ l.length ≤ b ^ (m.length - 1) := Nat.pow_le_pow_right (by omega) (by omega)
  omega

/-- Numbers of one length compare by their highest digit that differs. -/
theorem val_lt_of_digit {b : Nat} {l m : List Nat} {k : Nat} (hl : Digs b l) (hk : k < l.length) (hk' : k < m.length)
    (ht : l.drop (k + 1) = m.drop (k + 1)) (h : l.getD k 0 < m.getD k 0) : val b l < val b m := by
  rw [val_split b l (k + 1) hk, val_split b m (k + 1) hk', ht, val_take_succ, val_take_succ]
  have h1 := val_lt (hl.take k)
  rw [List.length_take, Nat.min_eq_left (by omega)] at h1
  have h2 : b ^ k * (l.getD k 0 + 1) ≤ b ^ k * m.getD k 0 := Nat.mul_le_mul_left _ h
  rw [Nat.mul_add] at h2
  omega

theorem drop_eq_step {l m : List Nat} {k : Nat} (hk : k < l.length) (hk' : k < m.length) (ht : l.drop (k + 1) = m.drop (k + 1)) (h : l.getD k 0 = m.getD k 0) : l.drop k = m.drop k := by
  rw [List.drop_eq_getElem_cons hk, List.drop_eq_getElem_cons hk', ht]
  rw [getD_get hk, getD_get hk'] at h
  rw [h]

/-! ### Trimming -/
/-- The digits without the 0 at the end. -/
def trim (l : List Nat) : List Nat := (l.reverse.dropWhile (· == 0)).reverse

theorem trim_snoc_zero (l : List Nat) : trim (l ++ [0]) = trim l := by simp [trim]
theorem trim_snoc_pos (l : List Nat) {d : Nat} (h : d ≠ 0) : trim (l ++ [d]) = l ++ [d] := by simp [trim, h]
theorem trim_nil : trim [] = [] := rfl

theorem snoc_induction {P : List Nat → Prop} (h0 : P []) (h1 : ∀ l d, P l → P (l ++ [d])) (l : List Nat) : P l := by
  have : ∀ n (l : List Nat), l.length = n → P l := by
    intro n
    induction n with
    | zero => intro l hl; rw [List.length_eq_zero_iff] at hl; subst hl; exact h0
    | succ n ih =>
      intro l hl
      obtain ⟨m, d, rfl⟩ := snoc_of (l := l) (by intro e; subst e; simp at hl)
      exact h1 _ _ (ih m (by simpa using hl))
  exact this _ l rfl

theorem val_trim (b : Nat) (l : List Nat) : val b (trim l) = val b l := by
  refine snoc_induction (P := fun l => val b (trim l) = val b l) rfl ?_ l
  intro l d ih
  by_cases h : d = 0
  · subst h; rw [trim_snoc_zero, ih, val_snoc]; simp
  · rw [trim_snoc_pos l h]
theorem norm_trim (l : List Nat) : Norm (trim l) := by
  refine snoc_induction (P := fun l => Norm (trim l)) norm_nil ?_ l
  intro l d ih
  by_cases h : d = 0
  · subst h; rw [trim_snoc_zero]; exact ih
  · rw [trim_snoc_pos l h]; exact norm_snoc.2 h
theorem trim_prefix (l : List Nat) : ∃ k, k ≤ l.length ∧ trim l = l.take k := by
  refine snoc_induction (P := fun l => ∃ k, k ≤ l.length ∧ trim l = l.take k) ⟨0, by simp, rfl⟩ ?_ l
  intro l d ⟨k, hk, e⟩
  by_cases h : d = 0
  · subst h
    refine ⟨k, by simp; omega, ?_⟩
    rw [trim_snoc_zero, e, List.take_append_of_le_length hk]
  · exact ⟨l.length + 1, by simp, by rw [trim_snoc_pos l h, List.take_of_length_le (by simp)]⟩
theorem digs_trim {b : Nat} {l : List Nat} (h : Digs b l) : Digs b (trim l) := by
  obtain ⟨k, _, e⟩ := trim_prefix l
  rw [e]; exact h.take k
theorem trim_of_norm {l : List Nat} (h : Norm l) : trim l = l := by
  rcases Classical.em (l = []) with rfl | e
  · rfl
  · obtain ⟨m, d, rfl⟩ := snoc_of e
    exact trim_snoc_pos m (norm_snoc.1 h)
/-- Norm digits are one to a number. -/
theorem val_inj {b : Nat} (hb : 1 < b) {l m : List Nat} (hl : Digs b l) (hm : Digs b m) (nl : Norm l) (nm : Norm m) (h : val b l = val b m) : l = m := by
  induction l generalizing m with
  | nil => exact ((val_zero_iff (by omega) nm).1 h.symm).symm
  | cons d l ih =>
    cases m with
    | nil =>
      have := val_pos (b := b) (by omega) nl (by simp)
      simp only [val_nil] at h; omega
    | cons e m =>
      rw [val_cons, val_cons] at h
      have hd : d < b := hl d (by simp)
      have he : e < b := hm e (by simp)
      have h1 : d = e := by
        have := congrArg (· % b) h
        simp only [Nat.add_mul_mod_self_left, Nat.mod_eq_of_lt hd, Nat.mod_eq_of_lt he] at this
        exact this
      subst h1
      have h2 : val b l = val b m := Nat.eq_of_mul_eq_mul_left (by omega : 0 < b) (by omega)
      have nl' : Norm l := by
        rcases Classical.em (l = []) with rfl | hne
        · exact norm_nil
        · intro x hx; exact nl x (by rw [List.getLast?_cons_of_ne_nil hne]; exact hx)
      have nm' : Norm m := by
        rcases Classical.em (m = []) with rfl | hne
        · exact norm_nil
        · intro x hx; exact nm x (by rw [List.getLast?_cons_of_ne_nil hne]; exact hx)
      rw [ih (fun x hx => hl x (by simp [hx])) (fun x hx => hm x (by simp [hx])) nl' nm' h2]

/-! ### One digit of a sum, of a difference, of a product -/
theorem pow_split (P b t : Nat) : P * (t % b) + P * b * (t / b) = P * t := by
  rw [Nat.mul_assoc, ← Nat.mul_add, Nat.mod_add_div]

/-- A sum: with c carried at the place k, and the digits p and q. -/
theorem sum_step {b : Nat} {os : List Nat} {c x y p q : Nat} (h : val b os + b ^ os.length * c = x + y) :
    val b (os ++ [(c + p + q) % b]) + b ^ (os.length + 1) * ((c + p + q) / b) = (x + b ^ os.length * p) + (y + b ^ os.length * q) := by
  rw [val_snoc, Nat.pow_succ]
  have := pow_split (b ^ os.length) b (c + p + q)
  rw [Nat.mul_add, Nat.mul_add] at this
  omega

theorem carry_le {b c p q : Nat} (hc : c ≤ 1) (hp : p < b) (hq : q < b) : (c + p + q) / b ≤ 1 := by
  have : (c + p + q) / b < 2 := by
    rw [Nat.div_lt_iff_lt_mul (by omega)]; omega
  omega

end Go.Proofs.YtlkidhfjkgppoaaDoor.Limb
