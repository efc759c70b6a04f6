
/- Plain laws: what is written is read again. -/
import Derived.Test.YtmeefinnefanpaaDoorT10
import Derived.Test.YtmeefinnefanpaaDoorT13
namespace Go.Proofs.YtmeefinnefanpaaDoor
open Go.RowKit Limb
set_option linter.unusedVariables false
set_option linter.unusedSimpArgs false
set_option linter.unnecessarySimpa false

theorem numL_snoc (l : List UInt8) (c : UInt8) : numL (l ++ [c]) = numL l * 10 + (c.toNat - 48) := by
  unfold numL; rw [List.foldl_append]; rfl
theorem numL_zeros (l : List UInt8) : ∀ k, numL (List.replicate k 48 ++ l) = numL l
  | 0 => rfl
  | k + 1 => by
    rw [List.replicate_succ, List.cons_append]
    exact numL_zeros l k
theorem numL_dec : ∀ n : Nat, numL (Lib.decDigits n) = n := by
  intro n
  induction n using Nat.strongRecOn with
  | _ n ih =>
    rw [Lib.decDigits]
    by_cases h : n < 10
    · rw [dif_pos h]
      have e := u8_ge (48 + n) (by omega)
      show 0 * 10 + ((UInt8.ofNat (48 + n)).toNat - 48) = n
      omega
    · rw [dif_neg h, numL_snoc, ih (n / 10) (by omega), u8_ge _ (by omega)]
      omega
theorem dec_ne (n : Nat) : 1 ≤ (Lib.decDigits n).length := by
  rw [Lib.decDigits]; split <;> simp
theorem dec_head : ∀ n : Nat, 0 < n → (Lib.decDigits n).head? ≠ some 48 := by
  intro n
  induction n using Nat.strongRecOn with
  | _ n ih =>
    intro h0
    rw [Lib.decDigits]
    by_cases h : n < 10
    · rw [dif_pos h]
      have e := u8_ge (48 + n) (by omega)
      intro hc
      injection hc with hc
      rw [hc] at e
      have : (48 : UInt8).toNat = 48 := rfl
      omega
    · rw [dif_neg h]
      have h1 := ih (n / 10) (by omega) (by omega)
      have h2 := dec_ne (n / 10)
      rcases hd : Lib.decDigits (n / 10) with _ | ⟨c, l⟩
      · rw [hd] at h2; simp at h2
      · rw [hd] at h1
        simpa using h1
theorem pad_split {u : Int} {q : Nat} : befL u q ++ behL u q = padL (digL u) q := List.take_append_drop _ _
theorem num_pad {u : Int} {q : Nat} : numL (befL u q ++ behL u q) = u.natAbs := by
  rw [pad_split]; unfold padL; rw [numL_zeros]; exact numL_dec _
theorem inB_of {l : List UInt8} (h : ∀ c ∈ l, 48 ≤ c.toNat ∧ c.toNat ≤ 57) : inB l 48 57 = true := by
  unfold inB; rw [List.all_eq_true]; intro c hc; exact decide_eq_true (h c hc)
theorem digB_of {l : List UInt8} (h0 : 0 < l.length) (h : ∀ c ∈ l, 48 ≤ c.toNat ∧ c.toNat ≤ 57) : digB l = true := by
  unfold digB
  rw [inB_of h]
  cases l with
  | nil => simp at h0
  | cons a l => rfl
theorem dig16 {u : Int} (h : -1000000000000000 ≤ u ∧ u ≤ 1000000000000000) : 1 ≤ (digL u).length ∧ (digL u).length ≤ 16 := by
  unfold digL
  refine ⟨dec_ne _, ?_⟩
  rcases Nat.eq_zero_or_pos u.natAbs with h0 | h0
  · rw [h0, Lib.decDigits_one (by decide)]; simp
  · rw [← tail_pos h0]
    exact tail_len 16 _ (by have : u.natAbs ≤ 1000000000000000 := by omega
                            exact Nat.lt_of_le_of_lt this (by decide))
theorem pad16 {u : Int} {q : Nat} (h : -1000000000000000 ≤ u ∧ u ≤ 1000000000000000) (hq : q ≤ 9) : (befL u q).length + (behL u q).length ≤ 16 ∧ (behL u q).length = q := by
  have h1 := padL_len (digL u) q
  have h2 := dig16 h
  unfold befL behL
  rw [List.length_take, List.length_drop]
  omega
theorem whole_bef {u : Int} {q : Nat} : wholeB (befL u q) = true := by
  unfold wholeB
  rw [digB_of bef_pos bef_48]
  by_cases h1 : (befL u q).length = 1
  · simp [h1]
  · have h2 := padL_len (digL u) q
    have h3 : (befL u q).length = (padL (digL u) q).length - q := by unfold befL; rw [List.length_take]; omega
    have h4 : q + 1 < (digL u).length := by omega
    have h5 : padL (digL u) q = digL u := by unfold padL; rw [show q + 1 - (digL u).length = 0 by omega]; rfl
    have h6 : 0 < u.natAbs := by
      rcases Nat.eq_zero_or_pos u.natAbs with h0 | h0
      · unfold digL at h4; rw [h0, Lib.decDigits_one (by decide)] at h4; simp at h4
      · exact h0
    have h7 := dec_head _ h6
    have h8 : (befL u q).head? = (Lib.decDigits u.natAbs).head? := by
      unfold befL
      rw [h5]
      show ((Lib.decDigits u.natAbs).take _).head? = _
      rw [List.head?_take]
      rw [if_neg (by unfold digL; unfold digL at h4; omega)]
    rw [h8]
    simp [h7]
theorem read_pad {u : Int} {q : Nat} (h : -1000000000000000 ≤ u ∧ u ≤ 1000000000000000) : readR (decide (u < 0)) (befL u q ++ behL u q) (q : Int) = (u, (q : Int), 0) := by
  unfold readR
  rw [num_pad]
  by_cases hn : u < 0
  · rw [if_pos (decide_eq_true hn), if_neg (by omega), show -((u.natAbs : Nat) : Int) = u by omega]
    unfold made; rw [if_pos (by omega)]
  · rw [if_neg (by simpa using hn), show ((u.natAbs : Nat) : Int) = u by omega]
    unfold made; rw [if_pos (by omega)]
theorem beh_zero {u : Int} {q : Nat} (h : q = 0) : behL u q = [] := by subst h; unfold behL; simp
theorem readText_back {u : Int} {q : Nat} (h : -1000000000000000 ≤ u ∧ u ≤ 1000000000000000) (hq : q ≤ 9) : readText (textL u q) = (u, (q : Int), 0) := by
  have hp := pad16 h hq
  have ht := text_head (u := u) (q := q)
  have hlen : ¬ 40 < (textL u q).length := by
    unfold textL
    simp only [List.length_append]
    have h1 : (sgL u).length ≤ 1 := by unfold sgL; split <;> simp
    split
    · simp; omega
    · simp; omega
  unfold readText
  simp only
  rw [ht.1, ht.2, text_cut]
  simp only
  rw [decide_eq_false hlen, whole_bef]
  by_cases hz : q = 0
  · have hb := beh_zero (u := u) hz
    have hr := read_pad (u := u) (q := q) h
    rw [hb, List.append_nil] at hr
    subst hz
    simpa using hr
  · simp only [if_neg hz]
    rw [digB_of (by omega) (beh_48 (u := u) (q := q)), decide_eq_false (show ¬ 9 < (behL u q).length by omega), hp.2]
    simpa [hz] using read_pad (u := u) (q := q) h

/-! ### Groups -/
theorem grp_ind {P : List UInt8 → List UInt8 → Prop} (g : UInt8) (h1 : ∀ l, l.length ≤ 3 → P l l) (h2 : ∀ l, 3 < l.length → P (l.take (l.length - 3)) (grp g (l.take (l.length - 3))) → P l (grp g (l.take (l.length - 3)) ++ g :: l.drop (l.length - 3))) : ∀ (k : Nat) (l : List UInt8), l.length ≤ k → P l (grp g l) := by
  intro k
  induction k with
  | zero => intro l hl; rw [grp_short (by omega)]; exact h1 l (by omega)
  | succ k ih =>
    intro l hl
    by_cases h : 3 < l.length
    · rw [grp_long h]
      exact h2 l h (ih _ (by simp; omega))
    · rw [grp_short (by omega)]
      exact h1 l (by omega)
theorem grp_mem (g : UInt8) (l : List UInt8) : ∀ c ∈ grp g l, c ∈ l ∨ c = g := by
  refine grp_ind (P := fun l m => ∀ c ∈ m, c ∈ l ∨ c = g) g (fun l _ c hc => .inl hc) (fun l hl ih c hc => ?_) l.length l (Nat.le_refl _)
  rcases List.mem_append.1 hc with h | h
  · rcases ih c h with h | h
    · exact .inl (List.mem_of_mem_take h)
    · exact .inr h
  · rcases List.mem_cons.1 h with h | h
    · exact .inr h
    · exact .inl (List.mem_of_mem_drop h)
theorem strike_grp {g : UInt8} {l : List UInt8} (hg : g ∉ l) : strike (grp g l) g = l := by
  refine grp_ind (P := fun l m => g ∉ l → strike m g = l) g (fun l _ hg => strike_none (List.count_eq_zero.2 hg)) (fun l hl ih hg => ?_) l.length l (Nat.le_refl _) hg
  have h1 := ih (fun h => hg (List.mem_of_mem_take h))
  have h2 : strike (l.drop (l.length - 3)) g = l.drop (l.length - 3) := strike_none (List.count_eq_zero.2 (fun h => hg (List.mem_of_mem_drop h)))
  unfold strike at h1 h2 ⊢
  rw [List.filter_append, h1, List.filter_cons]
  simp [h2]
theorem grp_head {g : UInt8} {l : List UInt8} (hl : 0 < l.length) : (grp g l).head? = l.head? := by
  refine grp_ind (P := fun l m => 0 < l.length → m.head? = l.head?) g (fun l _ _ => rfl) (fun l hl ih h0 => ?_) l.length l (Nat.le_refl _) hl
  have h1 := ih (by simp; omega)
  have h2 : (l.take (l.length - 3)).head? = l.head? := by rw [List.head?_take, if_neg (by omega)]
  rw [List.head?_append, h1, h2]
  cases l with
  | nil => simp at hl
  | cons a l => rfl
theorem marks_dig {pt gr : UInt8} (h : marksF (pt.toNat : Int) (gr.toNat : Int) = 0) : (∀ c : UInt8, 48 ≤ c.toNat ∧ c.toNat ≤ 57 → c ≠ pt ∧ c ≠ gr) := by
  unfold marksF at h
  split at h
  · cases h
  · next hn =>
    have h1 : wrongB (pt.toNat : Int) ≠ true := fun e => hn (.inr (.inl e))
    have h2 : wrongB (gr.toNat : Int) ≠ true := fun e => hn (.inr (.inr e))
    unfold wrongB at h1 h2
    simp at h1 h2
    intro c hc
    refine ⟨fun e => ?_, fun e => ?_⟩
    · subst e; omega
    · subst e; omega
theorem readGrp_back {u : Int} {q : Nat} {pt gr : UInt8} (h : -1000000000000000 ≤ u ∧ u ≤ 1000000000000000) (hq : q ≤ 9) (hm : marksF (pt.toNat : Int) (gr.toNat : Int) = 0) : readGrp (grpdL u q pt gr) pt gr = (u, (q : Int), 0) := by
  have hp := pad16 h hq
  have hmd := marks_dig hm
  obtain ⟨-, -, hpg⟩ := marks_ok hm
  have hgr : gr ∉ befL u q := fun hc => (hmd gr (bef_48 _ hc)).2 rfl
  have hpt : pt ∉ grp gr (befL u q) := by
    intro hc
    rcases grp_mem gr _ pt hc with h1 | h1
    · exact (hmd pt (bef_48 _ h1)).1 rfl
    · exact hpg h1
  have hst := strike_grp hgr
  have hgl := grp_len gr (befL u q)
  have hlen : ¬ 40 < (grpdL u q pt gr).length := by
    unfold grpdL
    simp only [List.length_append]
    have h1 : (sgL u).length ≤ 1 := by unfold sgL; split <;> simp
    split
    · simp; omega
    · simp; omega
  have hth : ((grpdL u q pt gr).head? == some 45) = decide (u < 0) ∧ (if decide (u < 0) = true then (grpdL u q pt gr).tail else grpdL u q pt gr) = grp gr (befL u q) ++ (if q = 0 then [] else pt :: behL u q) := by
    unfold grpdL sgL
    by_cases hn : u < 0
    · simp [hn]
    · have hb0 := bef_pos (u := u) (q := q)
      have hgh := grp_head (g := gr) hb0
      rcases hb : befL u q with _ | ⟨c, l⟩
      · rw [hb] at hb0; simp at hb0
      · have h2 := bef_48 (u := u) (q := q) c (by rw [hb]; simp)
        have hc : c ≠ 45 := by rintro rfl; revert h2; decide
        rw [hb] at hgh
        simp [hn, List.head?_append, hgh, hc]
  have hcut : cutL (grp gr (befL u q) ++ (if q = 0 then [] else pt :: behL u q)) pt = (grp gr (befL u q), (if q = 0 then [] else behL u q), decide (q ≠ 0)) := by
    by_cases hz : q = 0
    · rw [if_pos hz, if_pos hz, List.append_nil, cutL_miss hpt]; simp [hz]
    · rw [if_neg hz, if_neg hz, cutL_hit hpt]; simp [hz]
  unfold readGrp
  simp only
  rw [hth.1, hth.2, hcut]
  simp only
  rw [decide_eq_false hlen, hst, whole_bef]
  by_cases hz : q = 0
  · have hb := beh_zero (u := u) hz
    have hr := read_pad (u := u) (q := q) h
    rw [hb, List.append_nil] at hr
    subst hz
    simpa using hr
  · simp only [if_neg hz]
    rw [digB_of (by omega) (beh_48 (u := u) (q := q)), decide_eq_false (show ¬ 9 < (behL u q).length by omega), hp.2]
    simpa [hz] using read_pad (u := u) (q := q) h

/-! ### Implied -/
theorem readImp_back {u p a b : Int} (hf : impF u p a b = 0) :
    ((impS u p a b).length : Int) = b ∧ ∃ x : Int, (readImp (impS u p a b) a = (0, 0, 1) ∨ (readImp (impS u p a b) a = (x, a, 0) ∧ decB x a = true ∧ decB u p = true ∧ scaled x a 9 - scaled u p 9 = 0)) := by
  unfold impF at hf
  split at hf
  · cases hf
  · next h0 =>
    split at hf
    · cases hf
    · next h1 =>
      split at hf
      · cases hf
      · next h2 =>
        have h0 : decB u p = true ∧ 0 ≤ a ∧ a ≤ 9 ∧ 1 ≤ b ∧ b ≤ 30 := Classical.byContradiction h0
        have h1 : impN u p % impD a = 0 := Classical.byContradiction h1
        obtain ⟨hd, ha0, ha9, hb1, hb30⟩ := h0
        have hmul : impN u p = impN u p / impD a * impD a := by have := Nat.div_add_mod (impN u p) (impD a); rw [h1, Nat.add_zero, Nat.mul_comm] at this; exact this.symm
        generalize hm : impN u p / impD a = m at h2 hmul
        have hS : impS u p a b = sgL u ++ (List.replicate (b.toNat - (sgL u).length - (Lib.decDigits m).length) 48 ++ Lib.decDigits m) := by unfold impS; rw [hm, List.append_assoc]
        generalize hk : b.toNat - (sgL u).length - (Lib.decDigits m).length = k at hS
        have hlen : ((impS u p a b).length : Int) = b := by rw [hS]; simp only [List.length_append, List.length_replicate]; omega
        refine ⟨hlen, ?_⟩
        have hrest48 : ∀ c ∈ List.replicate k (48 : UInt8) ++ Lib.decDigits m, 48 ≤ c.toNat ∧ c.toNat ≤ 57 := by
          intro c hc
          rcases List.mem_append.1 hc with h | h
          · have := List.eq_of_mem_replicate h
            subst this
            decide
          · exact dec_48 _ c h
        have hrp : 0 < (List.replicate k (48 : UInt8) ++ Lib.decDigits m).length := by have := dec_ne m; simp only [List.length_append]; omega
        have hhd : ((impS u p a b).head? == some 45) = decide (u < 0) ∧ (if decide (u < 0) = true then (impS u p a b).tail else impS u p a b) = List.replicate k 48 ++ Lib.decDigits m := by
          rw [hS]
          generalize hr : List.replicate k (48 : UInt8) ++ Lib.decDigits m = r at hrest48 hrp
          unfold sgL
          by_cases hn : u < 0
          · simp [hn]
          · rcases r with _ | ⟨c, l⟩
            · simp at hrp
            · have h3 := hrest48 c (by simp)
              have hc : c ≠ 45 := by rintro rfl; revert h3; decide
              simp [hn, hc]
        have hnum : numL (List.replicate k 48 ++ Lib.decDigits m) = m := by rw [numL_zeros, numL_dec]
        have hri : readImp (impS u p a b) a = if m ≤ 1000000000000000 then (if u < 0 then -(m : Int) else (m : Int), a, 0) else (0, 0, 1) := by
          unfold readImp
          rw [if_neg (by omega), hhd.1, hhd.2, digB_of hrp hrest48, decide_eq_false (show ¬ 30 < (impS u p a b).length by omega), hnum]
          simp
        by_cases hb : m ≤ 1000000000000000
        · rw [if_pos hb] at hri
          refine ⟨if u < 0 then -(m : Int) else (m : Int), .inr ⟨hri, ?_, hd, ?_⟩⟩
          · apply decB_mk
            split <;> omega
          · have hsc : ∀ x : Int, scaled x a 9 = x * ((impD a : Nat) : Int) := fun x => rfl
            have hsu : scaled u p 9 = u * ((10 ^ (9 - p.toNat) : Nat) : Int) := rfl
            rw [hsc, hsu]
            have hz : (((impN u p : Nat)) : Int) = (m : Int) * ((impD a : Nat) : Int) := by rw [hmul, Int.natCast_mul]
            unfold impN at hz
            rw [Int.natCast_mul] at hz
            by_cases hn : u < 0
            · rw [if_pos hn, Int.neg_mul, ← hz, show ((u.natAbs : Nat) : Int) = -u by omega, Int.neg_mul]; omega
            · rw [if_neg hn, ← hz, show ((u.natAbs : Nat) : Int) = u by omega]; omega
        · rw [if_neg hb] at hri
          exact ⟨0, .inl hri⟩
end Go.Proofs.YtmeefinnefanpaaDoor
