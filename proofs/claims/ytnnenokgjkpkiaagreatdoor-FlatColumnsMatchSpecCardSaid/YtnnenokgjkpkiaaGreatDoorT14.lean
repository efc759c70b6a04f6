/- Plain: the sum of a column's values is the sum of its rows. The walk of the reference's Implied. The walk of the reference's marks. The walk of the reference's Grouped. The walk of amount.ReadGrouped. Plain laws: what is written is read again. -/
import Derived.Test.YtnnenokgjkpkiaaGreatDoorY7
import Derived.Test.YtnnenokgjkpkiaaGreatDoorR1
import Derived.Lib.Hide
import Derived.Test.YtnnenokgjkpkiaaGreatDoorA7
import Derived.Test.YtnnenokgjkpkiaaGreatDoorT6
import Derived.Test.YtnnenokgjkpkiaaGreatDoorT16
import Derived.Test.YtnnenokgjkpkiaaGreatDoorM2
-- merged: YQ T8 T9 T10 T13 T14
namespace Go.Proofs.YtnnenokgjkpkiaaGreatDoor
open Go.RowKit Limb Nmb Work
set_option linter.unusedVariables false
set_option linter.unusedSimpArgs false
def vZ (s : ByteArray) : Int := if s = ⟨#[]⟩ then 0 else scaled (readText s.data.toList).1 (readText s.data.toList).2.1 9
def sumVs : List ByteArray → Int
  | [] => 0
  | s :: l => vZ s + sumVs l
theorem sumVs_app (a b : List ByteArray) : sumVs (a ++ b) = sumVs a + sumVs b := by
  induction a with
  | nil => simp [sumVs]
  | cons x a ih => simp only [List.cons_append, sumVs, ih]; omega
theorem sumVs_take {L : List ByteArray} {j : Nat} (h : j < L.length) : sumVs (L.take (j + 1)) = sumVs (L.take j) + vZ (wd L j) := by
  rw [List.take_add_one, List.getElem?_eq_getElem h, sumVs_app]
  have e : L[j] = wd L j := by simp [wd, List.getD_eq_getElem?_getD, h]
  simp only [Option.toList, sumVs, e]
  omega
theorem vZ_bd (s : ByteArray) : -1000000000000000000000000 ≤ vZ s ∧ vZ s ≤ 1000000000000000000000000 := by
  unfold vZ
  split
  · omega
  · exact scl_bd (readText_dec2 _)
theorem sumVs_bd : ∀ L : List ByteArray, -1000000000000000000000000 * (L.length : Int) ≤ sumVs L ∧ sumVs L ≤ 1000000000000000000000000 * (L.length : Int)
  | [] => by simp [sumVs]
  | s :: l => by
    have h1 := vZ_bd s
    have h2 := sumVs_bd l
    simp only [sumVs, List.length_cons]
    omega
theorem sumVs_fit {L : List ByteArray} (h : L.length ≤ 2000) : -10000000000000000000000000000000 ≤ sumVs L ∧ sumVs L ≤ 10000000000000000000000000000000 := by
  have := sumVs_bd L
  omega
theorem colAt_parts {f : Fmt} {rs : List RowP} {tag name : ByteArray} (h : (colAtF f rs tag name).2.2 = 0) :
    askF f rs = 0 ∧ ¬ katI f tag < 0 ∧ ¬ ixF (nameIs name) (katK f tag).fields < 0 ∧ colAtF f rs tag name = (ixF (nameIs name) (katK f tag).fields, cA (katK f tag).fields (ixF (nameIs name) (katK f tag).fields).toNat, 0) := by
  have ha := colAt_ask h
  by_cases h1 : katI f tag < 0
  · rw [show colAtF f rs tag name = (0, col0, 5) by unfold colAtF; rw [if_neg (fun x => x ha), if_pos h1]] at h; cases h
  by_cases h2 : ixF (nameIs name) (katK f tag).fields < 0
  · rw [show colAtF f rs tag name = (0, col0, 5) by unfold colAtF; rw [if_neg (fun x => x ha), if_neg h1, if_pos h2]] at h; cases h
  exact ⟨ha, h1, h2, by unfold colAtF; rw [if_neg (fun x => x ha), if_neg h1, if_neg h2]⟩
theorem kat_tag {f : Fmt} {tag : ByteArray} (hf : FmtK f) (h : ¬ katI f tag < 0) : tag ≠ ⟨#[]⟩ := by
  rcases ixF_spec (tagIs tag) f.kinds with ⟨h1, -⟩ | ⟨k, hk, h1, h2, -⟩
  · exact absurd (show katI f tag < 0 by show ixF (tagIs tag) f.kinds < 0; omega) h
  · intro e
    subst e
    have h3 := (hf.kinds k hk).tag
    have h4 : (kA f.kinds k).tag = ⟨#[]⟩ := by simpa [tagIs, kA_get hk] using h2
    rw [h4] at h3
    exact absurd h3.1 (by decide)
theorem sum_vals {f : Fmt} {rs : List RowP} {tag name : ByteArray} (h : (colAtF f rs tag name).2.2 = 0) : sumVs (valsC rs tag (colAtF f rs tag name).1.toNat rs.length) = sumZr f tag name rs rs.length := by
  obtain ⟨ha, h1, h2, h3⟩ := colAt_parts h
  have ht := kat_tag (checkF_ok (askF_ok ha).1) h1
  rw [h3]
  have key : ∀ j, j ≤ rs.length → sumVs (valsC rs tag (ixF (nameIs name) (katK f tag).fields).toNat j) = sumZr f tag name rs j := by
    intro j
    induction j with
    | zero => intro _; rfl
    | succ j ih =>
      intro hj
      rw [valsC_succ (by omega), sumVs_app, ih (by omega)]
      show _ = sumZr f tag name rs j + rowZ f tag name (rA rs j)
      congr 1
      by_cases hr : (rA rs j).tag = tag
      · rw [if_pos hr]
        unfold rowZ
        rw [hr]
        simp only [sumVs, Int.add_zero]
        unfold vZ
        by_cases hv : wd (rA rs j).vals (ixF (nameIs name) (katK f tag).fields).toNat = ⟨#[]⟩
        · rw [if_pos hv, if_pos (.inr (.inr hv))]
        · rw [if_neg hv, if_neg (by rintro (⟨-, h⟩ | h | h); exact h rfl; exact h2 h; exact hv h)]
      · rw [if_neg hr]
        unfold rowZ
        rw [if_pos (.inl ⟨ht, hr⟩)]
        rfl
  exact key _ (Nat.le_refl _)
end Go.Proofs.YtnnenokgjkpkiaaGreatDoor
namespace Go.Proofs.YtnnenokgjkpkiaaGreatDoor
open Go.RowKit Limb
set_option linter.unusedVariables false
set_option linter.unusedSimpArgs false
theorem u8_ge (n : Nat) (h : n < 256) : (UInt8.ofNat n).toNat = n := by rw [UInt8.toNat_ofNat']; exact Nat.mod_eq_of_lt h
theorem dec_48 : ∀ (n : Nat), ∀ c ∈ Lib.decDigits n, 48 ≤ c.toNat ∧ c.toNat ≤ 57 := by
  intro n
  induction n using Nat.strongRecOn with
  | _ n ih =>
    rw [Lib.decDigits]
    by_cases h : n < 10
    · rw [dif_pos h]
      have e := u8_ge (48 + n) (by omega)
      intro c hc
      obtain rfl := List.mem_singleton.1 hc
      omega
    · rw [dif_neg h]
      have e := u8_ge (48 + n % 10) (by omega)
      intro c hc
      rw [List.mem_append] at hc
      rcases hc with hc | hc
      · exact ih (n / 10) (by omega) c hc
      · obtain rfl := List.mem_singleton.1 hc
        omega
def RetBt (b : Bool) (w : World) (e : Ending) (w' : World) : Prop := e = .returned (.bool b) ∧ Below w.heap.size w w'
theorem RetBt.of {b b' : Bool} {w w' : World} {e : Ending} (h : RetBt b w e w') (hb : b = b') : RetBt b' w e w' := by subst hb; exact h
theorem cutL_hit {c : UInt8} : ∀ {l r : List UInt8}, c ∉ l → cutL (l ++ c :: r) c = (l, r, true)
  | [], r, _ => by simp [cutL]
  | a :: l, r, h => by
    have h1 : a ≠ c := fun e => h (e ▸ List.mem_cons_self)
    have h2 : c ∉ l := fun e => h (List.mem_cons_of_mem _ e)
    rw [List.cons_append, cutL, cutL_hit h2]
    simp [h1]
theorem cutL_miss {c : UInt8} : ∀ {l : List UInt8}, c ∉ l → cutL l c = (l, [], false)
  | [], _ => by simp [cutL]
  | a :: l, h => by
    have h1 : a ≠ c := fun e => h (e ▸ List.mem_cons_self)
    have h2 : c ∉ l := fun e => h (List.mem_cons_of_mem _ e)
    rw [cutL, cutL_miss h2]
    simp [h1]
theorem padL_48 {u : Int} {q : Nat} : ∀ c ∈ padL (digL u) q, 48 ≤ c.toNat ∧ c.toNat ≤ 57 := by
  intro c hc
  unfold padL at hc
  rcases List.mem_append.1 hc with h | h
  · have := List.eq_of_mem_replicate h
    subst this
    decide
  · exact dec_48 _ c h
theorem bef_48 {u : Int} {q : Nat} : ∀ c ∈ befL u q, 48 ≤ c.toNat ∧ c.toNat ≤ 57 := fun c hc => padL_48 c (List.mem_of_mem_take hc)
theorem beh_48 {u : Int} {q : Nat} : ∀ c ∈ behL u q, 48 ≤ c.toNat ∧ c.toNat ≤ 57 := fun c hc => padL_48 c (List.mem_of_mem_drop hc)
theorem bef_pos {u : Int} {q : Nat} : 0 < (befL u q).length := by
  have h1 := padL_len (digL u) q
  unfold befL
  rw [List.length_take]
  omega
theorem bef_no46 {u : Int} {q : Nat} : (46 : UInt8) ∉ befL u q := fun h => by have := bef_48 _ h; revert this; decide
theorem text_cut {u : Int} {q : Nat} : cutL (befL u q ++ (if q = 0 then [] else 46 :: behL u q)) 46 = (befL u q, (if q = 0 then [] else behL u q), decide (q ≠ 0)) := by
  by_cases h : q = 0
  · rw [if_pos h, if_pos h, List.append_nil, cutL_miss bef_no46]; simp [h]
  · rw [if_neg h, if_neg h, cutL_hit bef_no46]; simp [h]
theorem text_head {u : Int} {q : Nat} : ((textL u q).head? == some 45) = decide (u < 0) ∧ (if decide (u < 0) = true then (textL u q).tail else textL u q) = befL u q ++ (if q = 0 then [] else 46 :: behL u q) := by
  unfold textL sgL
  by_cases h : u < 0
  · simp [h]
  · have hp := bef_pos (u := u) (q := q)
    rcases hb : befL u q with _ | ⟨c, l⟩
    · rw [hb] at hp; simp at hp
    · have h2 := bef_48 (u := u) (q := q) c (by rw [hb]; simp)
      have hc : c ≠ 45 := by rintro rfl; revert h2; decide
      simp [h, hc]
theorem text_len {u : Int} {q : Nat} (hq : q ≤ 9) (hu : u.natAbs < 10 ^ 30) : (textL u q).length ≤ 100 := by
  have h := bef_len (u := u) hq hu
  unfold textL
  simp only [List.length_append]
  have h1 : (sgL u).length ≤ 1 := by unfold sgL; split <;> simp
  split
  · simp; omega
  · simp; omega
end Go.Proofs.YtnnenokgjkpkiaaGreatDoor
namespace Go.Proofs.YtnnenokgjkpkiaaGreatDoor
open Go.RowKit Limb
set_option linter.unusedVariables false
set_option linter.unusedSimpArgs false
set_option linter.unnecessarySimpa false
theorem numL_snoc (l : List UInt8) (c : UInt8) : numL (l ++ [c]) = numL l * 10 + (c.toNat - 48) := by
  unfold numL; rw [List.foldl_append]; rfl
theorem numL_zeros (l : List UInt8) : ∀ k, numL (List.replicate k 48 ++ l) = numL l
  | 0 => rfl
  | k + 1 => by
    rw [List.replicate_succ, List.cons_append]
    exact numL_zeros l k
theorem numL_dec : ∀ n : Nat, numL (Lib.decDigits n) = n := by
  intro n
  induction n using Nat.strongRecOn with
  | _ n ih =>
    rw [Lib.decDigits]
    by_cases h : n < 10
    · rw [dif_pos h]
      have e := u8_ge (48 + n) (by omega)
      show 0 * 10 + ((UInt8.ofNat (48 + n)).toNat - 48) = n
      omega
    · rw [dif_neg h, numL_snoc, ih (n / 10) (by omega), u8_ge _ (by omega)]
      omega
theorem dec_ne (n : Nat) : 1 ≤ (Lib.decDigits n).length := by
  rw [Lib.decDigits]; split <;> simp
theorem dec_head : ∀ n : Nat, 0 < n → (Lib.decDigits n).head? ≠ some 48 := by
  intro n
  induction n using Nat.strongRecOn with
  | _ n ih =>
    intro h0
    rw [Lib.decDigits]
    by_cases h : n < 10
    · rw [dif_pos h]
      have e := u8_ge (48 + n) (by omega)
      intro hc
      injection hc with hc
      rw [hc] at e
      have : (48 : UInt8).toNat = 48 := rfl
      omega
    · rw [dif_neg h]
      have h1 := ih (n / 10) (by omega) (by omega)
      have h2 := dec_ne (n / 10)
      rcases hd : Lib.decDigits (n / 10) with _ | ⟨c, l⟩
      · rw [hd] at h2; simp at h2
      · rw [hd] at h1
        simpa using h1
theorem pad_split {u : Int} {q : Nat} : befL u q ++ behL u q = padL (digL u) q := List.take_append_drop _ _
theorem num_pad {u : Int} {q : Nat} : numL (befL u q ++ behL u q) = u.natAbs := by
  rw [pad_split]; unfold padL; rw [numL_zeros]; exact numL_dec _
theorem inB_of {l : List UInt8} (h : ∀ c ∈ l, 48 ≤ c.toNat ∧ c.toNat ≤ 57) : inB l 48 57 = true := by
  unfold inB; rw [List.all_eq_true]; intro c hc; exact decide_eq_true (h c hc)
theorem digB_of {l : List UInt8} (h0 : 0 < l.length) (h : ∀ c ∈ l, 48 ≤ c.toNat ∧ c.toNat ≤ 57) : digB l = true := by
  unfold digB
  rw [inB_of h]
  cases l with
  | nil => simp at h0
  | cons a l => rfl
theorem dig16 {u : Int} (h : -1000000000000000 ≤ u ∧ u ≤ 1000000000000000) : 1 ≤ (digL u).length ∧ (digL u).length ≤ 16 := by
  unfold digL
  refine ⟨dec_ne _, ?_⟩
  rcases Nat.eq_zero_or_pos u.natAbs with h0 | h0
  · rw [h0, Lib.decDigits_one (by decide)]; simp
  · rw [← tail_pos h0]
    exact tail_len 16 _ (by have : u.natAbs ≤ 1000000000000000 := by omega
                            exact Nat.lt_of_le_of_lt this (by decide))
theorem pad16 {u : Int} {q : Nat} (h : -1000000000000000 ≤ u ∧ u ≤ 1000000000000000) (hq : q ≤ 9) : (befL u q).length + (behL u q).length ≤ 16 ∧ (behL u q).length = q := by
  have h1 := padL_len (digL u) q
  have h2 := dig16 h
  unfold befL behL
  rw [List.length_take, List.length_drop]
  omega
theorem whole_bef {u : Int} {q : Nat} : wholeB (befL u q) = true := by
  unfold wholeB
  rw [digB_of bef_pos bef_48]
  by_cases h1 : (befL u q).length = 1
  · simp [h1]
  · have h2 := padL_len (digL u) q
    have h3 : (befL u q).length = (padL (digL u) q).length - q := by unfold befL; rw [List.length_take]; omega
    have h4 : q + 1 < (digL u).length := by omega
    have h5 : padL (digL u) q = digL u := by unfold padL; rw [show q + 1 - (digL u).length = 0 by omega]; rfl
    have h6 : 0 < u.natAbs := by
      rcases Nat.eq_zero_or_pos u.natAbs with h0 | h0
      · unfold digL at h4; rw [h0, Lib.decDigits_one (by decide)] at h4; simp at h4
      · exact h0
    have h7 := dec_head _ h6
    have h8 : (befL u q).head? = (Lib.decDigits u.natAbs).head? := by
      unfold befL
      rw [h5]
      show ((Lib.decDigits u.natAbs).take _).head? = _
      rw [List.head?_take]
      rw [if_neg (by unfold digL; unfold digL at h4; omega)]
    rw [h8]
    simp [h7]
theorem read_pad {u : Int} {q : Nat} (h : -1000000000000000 ≤ u ∧ u ≤ 1000000000000000) : readR (decide (u < 0)) (befL u q ++ behL u q) (q : Int) = (u, (q : Int), 0) := by
  unfold readR
  rw [num_pad]
  by_cases hn : u < 0
  · rw [if_pos (decide_eq_true hn), if_neg (by omega), show -((u.natAbs : Nat) : Int) = u by omega]
    unfold made; rw [if_pos (by omega)]
  · rw [if_neg (by simpa using hn), show ((u.natAbs : Nat) : Int) = u by omega]
    unfold made; rw [if_pos (by omega)]
theorem beh_zero {u : Int} {q : Nat} (h : q = 0) : behL u q = [] := by subst h; unfold behL; simp
theorem readText_back {u : Int} {q : Nat} (h : -1000000000000000 ≤ u ∧ u ≤ 1000000000000000) (hq : q ≤ 9) : readText (textL u q) = (u, (q : Int), 0) := by
  have hp := pad16 h hq
  have ht := text_head (u := u) (q := q)
  have hlen : ¬ 40 < (textL u q).length := by
    unfold textL
    simp only [List.length_append]
    have h1 : (sgL u).length ≤ 1 := by unfold sgL; split <;> simp
    split
    · simp; omega
    · simp; omega
  unfold readText
  simp only
  rw [ht.1, ht.2, text_cut]
  simp only
  rw [decide_eq_false hlen, whole_bef]
  by_cases hz : q = 0
  · have hb := beh_zero (u := u) hz
    have hr := read_pad (u := u) (q := q) h
    rw [hb, List.append_nil] at hr
    subst hz
    simpa using hr
  · simp only [if_neg hz]
    rw [digB_of (by omega) (beh_48 (u := u) (q := q)), decide_eq_false (show ¬ 9 < (behL u q).length by omega), hp.2]
    simpa [hz] using read_pad (u := u) (q := q) h
end Go.Proofs.YtnnenokgjkpkiaaGreatDoor
