/- Numbers as text, plain: what is read is written so; how long it is. Values that are right in a column are right in another one of which nothing is lost, plain. -/
import Derived.Test.YtaiabjiehpcaoaaGreatDoorT14
import Derived.Test.YtaiabjiehpcaoaaGreatDoorM2
import Derived.Test.YtaiabjiehpcaoaaGreatDoorZ3
import Derived.Test.YtaiabjiehpcaoaaGreatDoorJ1
import Derived.Test.YtaiabjiehpcaoaaGreatDoorY1
import Derived.Test.YtaiabjiehpcaoaaGreatDoorZ9
-- merged: ZC ZD ZE
namespace Go.Proofs.YtaiabjiehpcaoaaGreatDoor
open Limb Nmb Work
set_option linter.unusedVariables false
set_option linter.unusedSimpArgs false
theorem u8_back2 {c : UInt8} (h : 48 <= c.toNat /\ c.toNat <= 57) : UInt8.ofNat (48 + (c.toNat - 48)) = c := by
 have : 48 + (c.toNat - 48) = c.toNat := by omega
 rw [this]
 simp
theorem dec_step {m x : Nat} (hm : 0 < m) (hx : x < 10) : Lib.decDigits (m * 10 + x) = Lib.decDigits m ++ [UInt8.ofNat (48 + x)] := by
 rw [Lib.decDigits, dif_neg (by omega), show (m * 10 + x) / 10 = m by omega, show (m * 10 + x) % 10 = x by omega]
theorem digs_num : ∀ (n : Nat) (d : List UInt8), d.length = n -> d ≠ [] -> (∀ c ∈ d, 48 <= c.toNat /\ c.toNat <= 57) -> d = List.replicate (d.length - (Lib.decDigits (numL d)).length) 48 ++ Lib.decDigits (numL d)
 | 0, d, h, h0, _ => absurd (List.eq_nil_of_length_eq_zero h) h0
 | n + 1, d, h, h0, hd => by
  obtain ⟨e, c, rfl⟩ : ∃ e c, d = e ++ [c] := ⟨d.dropLast, d.getLast h0, (List.dropLast_concat_getLast h0).symm⟩
  have hc := hd c (by simp)
  have hel : e.length = n := by simp at h; omega
  rw [numL_snoc]
  by_cases he : e = []
  ·subst he
   have h1 : numL [] = 0 := rfl
   rw [h1, Nat.zero_mul, Nat.zero_add, Lib.decDigits_one (show c.toNat - 48 < 10 by omega), u8_back2 hc]
   rfl
  ·have ih := digs_num n e hel he (fun x hx => hd x (by simp [hx]))
   by_cases hm : numL e = 0
   ·rw [hm] at ih
    rw [hm, Nat.zero_mul, Nat.zero_add, Lib.decDigits_one (show c.toNat - 48 < 10 by omega), u8_back2 hc]
    have h48 : Lib.decDigits 0 = [48] := by rw [Lib.decDigits_one (by decide)]; rfl
    rw [h48] at ih
    have hr : e = List.replicate e.length 48 := by
     have h1 : 1 <= e.length := by cases e with | nil => exact absurd rfl he | cons => simp
     refine ih.trans ?_
     have h2 : List.replicate (e.length - 1) (48 : UInt8) ++ [48] = List.replicate (e.length - 1 + 1) 48 := (List.replicate_succ').symm
     show List.replicate (e.length - 1) (48 : UInt8) ++ [48] = _
     rw [h2]
     congr 1
     omega
    rw [List.length_append, List.length_singleton, Nat.add_sub_cancel]
    congr 1
   ·rw [dec_step (by omega) (by omega), u8_back2 hc, List.length_append, List.length_append, List.length_singleton, Nat.add_sub_add_right, <- List.append_assoc]
    congr 1
theorem inB_mem {l : List UInt8} (h : inB l 48 57 = true) : ∀ c ∈ l, 48 <= c.toNat /\ c.toNat <= 57 := fun c hc => of_decide_eq_true (List.all_eq_true.1 h c hc)
theorem digB_out {l : List UInt8} (h : digB l = true) : l ≠ [] /\ ∀ c ∈ l, 48 <= c.toNat /\ c.toNat <= 57 := by
 unfold digB at h
 rw [Bool.and_eq_true] at h
 exact ⟨(fun e => by rw [e] at h; exact absurd h.1 (by decide)), inB_mem h.2⟩
theorem cutL_join (l : List UInt8) (c : UInt8) : l = (cutL l c).1 ++ (if (cutL l c).2.2 = true then c :: (cutL l c).2.1 else []) := by
 rcases cutL_index l c with ⟨_, h⟩ | ⟨o, ho, hi, h⟩
 ·rw [h]; simp
 ·rw [h]
  have h1 := (Lib.indexByte_some hi).1
  simp only [if_true]
  have h2 : l[o]'ho = c := by rw [List.getElem?_eq_getElem ho] at h1; injection h1
  have h3 := List.drop_eq_getElem_cons ho
  rw [h2] at h3
  rw [<- h3, List.take_append_drop]
theorem pad_read {b a : List UInt8} (hb : wholeB b = true) (ha : a = [] ∨ digB a = true) {u : Int} (hu : u.natAbs = numL (b ++ a)) : padL (digL u) a.length = b ++ a := by
 unfold wholeB at hb
 rw [Bool.and_eq_true] at hb
 obtain ⟨hb0, hb1⟩ := digB_out hb.1
 have ha1 : ∀ c ∈ a, 48 <= c.toNat /\ c.toNat <= 57 := by
  rcases ha with rfl | h
  ·intro c hc; cases hc
  ·exact (digB_out h).2
 have hd := digs_num _ (b ++ a) rfl (by simp [hb0]) (fun c hc => by rcases List.mem_append.1 hc with h | h; exact hb1 c h; exact ha1 c h)
 have hbl : 1 <= b.length := by cases b with | nil => exact absurd rfl hb0 | cons => simp
 unfold padL digL
 rw [hu]
 refine Eq.trans ?_ hd.symm
 congr 2
 rw [List.length_append]
 have hor := hb.2
 rw [Bool.or_eq_true, beq_iff_eq] at hor
 rcases hor with h | h
 ·omega
 ·-- no zero ahead
  have hk : (b ++ a).length - (Lib.decDigits (numL (b ++ a))).length = 0 := by
   rcases Nat.eq_zero_or_pos ((b ++ a).length - (Lib.decDigits (numL (b ++ a))).length) with h1 | h1
   ·exact h1
   ·exfalso
    obtain ⟨k, hk⟩ : ∃ k, (b ++ a).length - (Lib.decDigits (numL (b ++ a))).length = k + 1 := ⟨_, (Nat.succ_pred_eq_of_pos h1).symm⟩
    rw [hk, List.replicate_succ] at hd
    cases b with
    | nil => exact hb0 rfl
    | cons x b =>
     injection hd with hx
     subst hx
     simp at h
  rw [List.length_append] at hk
  omega
theorem readR_out {neg : Bool} {l : List UInt8} {nb : Nat} (h : (readR neg l nb).2.2 = 0) : ∃ u : Int, readR neg l nb = (u, (nb : Int), 0) /\ u.natAbs = numL l /\ u.natAbs <= 1000000000000000 /\ (decide (u < 0) = neg) := by
 unfold readR at h ⊢
 cases neg with
 | true =>
  simp only [if_true] at h ⊢
  by_cases h0 : numL l = 0
  ·rw [if_pos h0] at h; cases h
  ·rw [if_neg h0] at h ⊢
   unfold made at h ⊢
   by_cases h1 : (-(numL l : Int)).natAbs <= 1000000000000000
   ·rw [if_pos h1]
    exact ⟨_, rfl, by omega, h1, decide_eq_true (by omega)⟩
   ·rw [if_neg h1] at h; cases h
 | false =>
  simp only [Bool.false_eq_true, if_false] at h ⊢
  unfold made at h ⊢
  by_cases h1 : (numL l : Int).natAbs <= 1000000000000000
  ·rw [if_pos h1]
   exact ⟨_, rfl, by omega, h1, decide_eq_false (by omega)⟩
  ·rw [if_neg h1] at h; cases h
theorem readText_text {l : List UInt8} (h : (readText l).2.2 = 0) : ∃ (u : Int) (q : Nat), readText l = (u, (q : Int), 0) /\ q <= 9 /\ (-1000000000000000 <= u /\ u <= 1000000000000000) /\ l = textL u q := by
 unfold readText at h ⊢
 simp only at h ⊢
 by_cases hbad : (decide (40 < l.length) || !wholeB (cutL (if (l.head? == some 45) = true then l.tail else l) 46).1 || ((cutL (if (l.head? == some 45) = true then l.tail else l) 46).2.2 && (!digB (cutL (if (l.head? == some 45) = true then l.tail else l) 46).2.1 || decide (9 < (cutL (if (l.head? == some 45) = true then l.tail else l) 46).2.1.length)))) = true
 ·rw [if_pos hbad] at h; cases h
 rw [if_neg hbad] at h ⊢
 obtain ⟨u, e1, e2, e3, e4⟩ := readR_out h
 have hl : l = sgL u ++ (if (l.head? == some 45) = true then l.tail else l) := by
  unfold sgL
  cases hn : (l.head? == some 45) with
  | true =>
   rw [hn] at e4
   rw [if_pos (of_decide_eq_true e4), if_pos rfl]
   cases l with
   | nil => cases hn
   | cons x l =>
    simp at hn
    rw [hn]; rfl
  | false =>
   rw [hn] at e4
   rw [if_neg (of_decide_eq_false e4), if_neg (by decide)]
   rfl
 have hj := cutL_join (if (l.head? == some 45) = true then l.tail else l) 46
 have hcl := (cutL_len (if (l.head? == some 45) = true then l.tail else l) 46).2
 generalize (if (l.head? == some 45) = true then l.tail else l) = rest at *
 obtain ⟨⟨b, a, fd⟩, hcut⟩ : ∃ x, cutL rest 46 = x := ⟨_, rfl⟩
 rw [hcut] at hj hcl hbad e1 e2
 simp only at hj hcl hbad e1 e2
 simp only [Bool.or_eq_true, Bool.and_eq_true, Bool.not_eq_true', decide_eq_true_eq, not_or, not_and] at hbad
 obtain ⟨⟨hb1, hb2⟩, hb3⟩ := hbad
 have hw : wholeB b = true := by cases hh : wholeB b with | true => rfl | false => exact absurd hh hb2
 have ha : a = [] ∨ digB a = true := by
  cases fd with
  | false => exact .inl (hcl rfl)
  | true => exact .inr (by cases hh : digB a with | true => rfl | false => exact absurd hh (hb3 rfl).1)
 have ha9 : a.length <= 9 := by
  cases fd with
  | false => rw [hcl rfl]; decide
  | true => have := (hb3 rfl).2; omega
 have hp := pad_read hw ha e2
 rw [hcut]
 refine ⟨u, a.length, e1, ha9, by omega, ?_⟩
 unfold textL befL behL
 rw [hp, List.length_append, Nat.add_sub_cancel, List.take_left, List.drop_left]
 rw [List.append_assoc]
 refine hl.trans ?_
 congr 1
 refine hj.trans ?_
 congr 1
 cases fd with
 | false => rw [hcl rfl]; rfl
 | true =>
  rcases ha with rfl | h
  ·have := (hb3 rfl).1; exact absurd rfl this
  ·rw [if_pos rfl, if_neg (by have := (digB_out h).1; intro e; exact this (List.eq_nil_of_length_eq_zero e))]
theorem textL_len (u : Int) (q : Nat) : (textL u q).length = (if u < 0 then 1 else 0) + (if (Lib.decDigits u.natAbs).length <= q then 1 else (Lib.decDigits u.natAbs).length - q) + (if q = 0 then 0 else 1 + q) := by
 unfold textL befL behL sgL padL digL
 have hd := dec_ne u.natAbs
 simp only [List.length_append, List.length_take, List.length_replicate]
 have hs : (if u < 0 then ([45] : List UInt8) else []).length = if u < 0 then 1 else 0 := by split <;> rfl
 rw [hs]
 by_cases hq : q = 0
 ·subst hq
  have h2 : ¬ (Lib.decDigits u.natAbs).length <= 0 := by omega
  rw [if_pos rfl, if_pos rfl, if_neg h2]
  simp only [List.length_nil]
  omega
 ·rw [if_neg hq, if_neg hq]
  simp only [List.length_cons, List.length_drop, List.length_append, List.length_replicate]
  by_cases h1 : (Lib.decDigits u.natAbs).length <= q
  ·rw [if_pos h1]; omega
  ·rw [if_neg h1]; omega
theorem textL_mem {u : Int} {q : Nat} : ∀ c ∈ textL u q, c = 45 ∨ c = 46 ∨ (48 <= c.toNat /\ c.toNat <= 57) := by
 intro c hc
 unfold textL at hc
 rcases List.mem_append.1 hc with h | h
 ·rcases List.mem_append.1 h with h | h
  ·unfold sgL at h
   split at h
   ·simp at h; exact .inl h
   ·cases h
  ·exact .inr (.inr (bef_48 _ h))
 ·split at h
  ·cases h
  ·rcases List.mem_cons.1 h with rfl | h
   ·exact .inr (.inl rfl)
   ·exact .inr (.inr (beh_48 _ h))
theorem dec_mul {m : Nat} (h : 0 < m) (k : Nat) : (Lib.decDigits (m * 10 ^ k)).length = (Lib.decDigits m).length + k := by rw [dec_shift h k]; simp
def shpOf (u : Int) (q : Nat) : Shp :=
 if q < (Lib.decDigits u.natAbs).length then ⟨if u < 0 then 1 else 0, (((Lib.decDigits u.natAbs).length - q : Nat) : Int), q, 0⟩
 else ⟨if u < 0 then 1 else 0, 0, q, ((q - (Lib.decDigits u.natAbs).length + 1 : Nat) : Int)⟩
theorem lst_out {u : Int} {q : Nat} (h : lstB u q = true) : q = 0 ∨ u % 10 ≠ 0 := by
 unfold lstB at h
 have h := of_decide_eq_true h
 rw [Int.toNat_natCast] at h
 cases q with
 | zero => exact .inl rfl
 | succ q =>
  refine .inr fun h10 => ?_
  rw [least_step h10] at h
  have h2 := (least_le (u / 10) q).2.2
  rw [h] at h2
  simp only at h2
  omega
theorem lst_zero {q : Nat} (h : lstB 0 q = true) : q = 0 := by
 rcases lst_out h with h | h
 ·exact h
 ·exact absurd rfl h
theorem dec_lt {n k : Nat} (hk : 1 <= k) (h : k < (Lib.decDigits n).length) : 10 ^ k <= n := by
 rcases Nat.lt_or_ge n (10 ^ k) with h2 | h2
 ·have := (dec_len hk h2).2; omega
 ·exact h2
theorem ng_mem {neg p : Nat} {s : Shp} (hn : neg < 2) (h : s = ⟨neg, 16, 0, 0⟩ ∨ (p < 10 /\ (s ∈ befS neg p (15 - p) ∨ s ∈ fstS neg p p))) : s ∈ shapesL := by
 unfold shapesL ngS
 refine List.mem_flatMap.2 ⟨neg, List.mem_range.2 hn, ?_⟩
 rcases h with rfl | ⟨hp, h⟩
 ·exact List.mem_append.2 (.inr (List.mem_singleton.2 rfl))
 ·refine List.mem_append.2 (.inl ?_)
  unfold plS
  exact List.mem_flatMap.2 ⟨p, List.mem_range.2 hp, List.mem_append.2 h⟩
theorem shp_mem {u : Int} {q : Nat} (hu : u ≠ 0) (hb : -1000000000000000 <= u /\ u <= 1000000000000000) (hq : q <= 9) (hl : lstB u q = true) : shpOf u q ∈ shapesL := by
 have h16 : (Lib.decDigits u.natAbs).length <= 16 := (dec_len (by decide) (show u.natAbs < 10 ^ 16 by omega)).2
 have h1 := dec_ne u.natAbs
 obtain ⟨neg, hneg, hn⟩ : ∃ neg : Nat, neg < 2 /\ (if u < 0 then (1 : Int) else 0) = neg := by
  by_cases h : u < 0
  ·exact ⟨1, by decide, if_pos h⟩
  ·exact ⟨0, by decide, if_neg h⟩
 unfold shpOf
 rw [hn]
 obtain ⟨nd, hnd⟩ : ∃ x, (Lib.decDigits u.natAbs).length = x := ⟨_, rfl⟩
 rw [hnd] at h16 h1 ⊢
 by_cases hq2 : q < nd
 ·rw [if_pos hq2]
  by_cases h : nd = 16
  ·have h15 := dec_lt (n := u.natAbs) (k := 15) (by decide) (by omega)
   have hq0 : q = 0 := by
    rcases lst_out hl with h | h
    ·exact h
    ·exfalso; omega
   subst hq0 h
   exact ng_mem (p := 0) hneg (.inl rfl)
  ·refine ng_mem (p := q) hneg (.inr ⟨by omega, .inl ?_⟩)
   unfold befS
   refine List.mem_map.2 ⟨nd - q - 1, List.mem_range.2 (by omega), ?_⟩
   congr 1
   omega
 ·rw [if_neg hq2]
  refine ng_mem (p := q) hneg (.inr ⟨by omega, .inr ?_⟩)
  unfold fstS
  refine List.mem_map.2 ⟨q - nd, List.mem_range.2 (by omega), ?_⟩
  congr 1
theorem sdig_len {z : Int} : (sdig z).length = (if z < 0 then 1 else 0) + (Lib.decDigits z.natAbs).length := by
 unfold sdig
 rw [List.length_append]
 split <;> rfl
theorem wide_fixed {c : Col} {u : Int} {q : Nat} (hu : u ≠ 0) (hc : 0 <= c.places) (hq : (q : Int) <= c.places) : wideF 0 c (shpOf u q) = ((sdig (scaled u q c.places.toNat)).length : Int) := by
 have h1 := dec_ne u.natAbs
 have hs : (scaled u q c.places.toNat).natAbs = u.natAbs * 10 ^ (c.places.toNat - q) := by
  unfold scaled
  rw [Int.toNat_natCast, Int.natAbs_mul, Int.natAbs_natCast]
 have hneg : (scaled u q c.places.toNat < 0) ↔ u < 0 := by
  unfold scaled
  have hp : (0 : Int) < ((10 ^ (c.places.toNat - (q : Int).toNat) : Nat) : Int) := by
   have := Nat.pow_pos (n := c.places.toNat - (q : Int).toNat) (show 0 < 10 by decide)
   omega
  constructor
  ·intro h
   rcases Int.lt_or_le u 0 with h2 | h2
   ·exact h2
   ·have := Int.mul_nonneg h2 (Int.le_of_lt hp); omega
  ·intro h
   exact Int.mul_neg_of_neg_of_pos h hp
 rw [sdig_len, hs, dec_mul (by omega)]
 have hif : (if scaled u q c.places.toNat < 0 then 1 else 0) = if u < 0 then 1 else 0 := by
  by_cases h : u < 0
  ·rw [if_pos h, if_pos (hneg.2 h)]
  ·rw [if_neg h, if_neg (fun k => h (hneg.1 k))]
 rw [hif]
 unfold wideF shpOf
 by_cases hq2 : q < (Lib.decDigits u.natAbs).length
 ·rw [if_pos hq2]
  simp only
  rw [if_pos ⟨trivial, by omega⟩]
  split <;> omega
 ·rw [if_neg hq2]
  simp only
  rw [if_neg (fun h => by have := h.2; omega), if_pos trivial]
  split <;> omega
theorem wide_marked {m : Int} {c : Col} {u : Int} {q : Nat} (hm : m ≠ 0) : wideF m c (shpOf u q) = ((textL u q).length : Int) := by
 have h1 := dec_ne u.natAbs
 rw [textL_len]
 unfold wideF shpOf
 by_cases hq2 : q < (Lib.decDigits u.natAbs).length
 ·rw [if_pos hq2]
  simp only
  rw [if_neg (fun h => hm h.1), if_neg hm, if_neg (show ¬ (Lib.decDigits u.natAbs).length <= q by omega)]
  by_cases h0 : q = 0
  ·subst h0
   rw [if_neg (by omega), if_pos rfl]
   split <;> omega
  ·rw [if_pos (by omega), if_neg h0]
   split <;> omega
 ·rw [if_neg hq2]
  simp only
  have h0 : ¬ q = 0 := by omega
  have h2 : (0 : Int) < (q : Int) := by omega
  rw [if_neg (fun h => hm h.1), if_neg hm, if_pos (show (Lib.decDigits u.natAbs).length <= q by omega), if_pos h2, if_neg h0]
  split <;> omega
theorem mark_no {m : Int} (h : markF m = false) (hm : 0 <= m /\ m <= 255) : 32 <= m /\ m <= 126 /\ ¬ (48 <= m /\ m <= 57) /\ m ≠ 45 /\ m ≠ 46 := by
 unfold markF at h
 simp only [Bool.or_eq_false_iff, decide_eq_false_iff_not] at h
 obtain ⟨⟨⟨⟨⟨h1, h2⟩, h3⟩, h4⟩, h5⟩, h6⟩ := h
 refine ⟨by omega, by omega, fun h7 => ?_, h5, h6⟩
 unfold tagC at h3
 exact absurd (decide_eq_true (Or.inr h7)) (by rw [h3]; decide)
theorem ixb_no {l : List UInt8} {c : UInt8} (h : c ∉ l) : Lib.indexByte l c = -1 := by
 rcases cutL_index l c with ⟨h1, -⟩ | ⟨o, ho, h1, -⟩
 ·exact h1
 ·have := (Lib.indexByte_some h1).1
  rw [List.getElem?_eq_getElem ho] at this
  injection this with this
  exact absurd (this ▸ List.getElem_mem ho) h
theorem ixb_in {l : List UInt8} {c : UInt8} (h : ¬ 0 <= Lib.indexByte l c) : c ∉ l := by
 intro hc
 have h1 : Lib.indexByte l c = -1 := by have := Lib.indexByte_ge l c; omega
 obtain ⟨j, hj, e⟩ := List.getElem_of_mem hc
 exact Lib.indexByte_none h1 j (by rw [List.getElem?_eq_getElem hj, e])
theorem u8_mark {m : Int} (hm : 0 <= m /\ m <= 255) : ((UInt8.ofNat m.toNat).toNat : Int) = m := by
 have e : (UInt8.ofNat m.toNat).toNat = m.toNat := by simp; omega
 rw [e]; omega
theorem num_clean {u : Int} {q : Nat} {m : Int} (h : markF m = false) (hm : 0 <= m /\ m <= 255) : Lib.indexByte (textL u q) (UInt8.ofNat m.toNat) = -1 := by
 have h1 := mark_no h hm
 have h2 := u8_mark hm
 refine ixb_no fun hc => ?_
 rcases textL_mem _ hc with h3 | h3 | h3
 ·rw [h3] at h2; have : ((45 : UInt8).toNat : Int) = 45 := rfl; omega
 ·rw [h3] at h2; have : ((46 : UInt8).toNat : Int) = 46 := rfl; omega
 ·omega
theorem day_digits {l : List UInt8} (h : dayOk l = true) : ∀ c ∈ l, 48 <= c.toNat /\ c.toNat <= 57 := by
 unfold dayOk readO at h
 rw [if_pos rfl] at h
 split at h
 ·rename_i hl
  have key : ∀ (x : List UInt8), digs x = true -> ∀ c ∈ x, 48 <= c.toNat /\ c.toNat <= 57 := fun x hx c hc => by
   unfold digs at hx
   rw [Bool.and_eq_true] at hx
   obtain ⟨i, hi, e⟩ := List.getElem_of_mem hc
   have h2 := inL_yes hx.1 hi
   have h3 : byA x i = (c.toNat : Int) := by unfold byA; rw [List.getD_eq_getElem?_getD, List.getElem?_eq_getElem hi, e]; rfl
   omega
  have hd : ∀ {x : List UInt8}, digs x = false -> numF x = -1 := fun hx => numF_no hx
  cases h1 : digs (l.take 4) with
  | false => rw [hd h1, dayO_neg (by omega)] at h; cases h
  | true =>
   cases h2 : digs ((l.drop 4).take 2) with
   | false => rw [hd h2, dayO_neg (by omega)] at h; cases h
   | true =>
    cases h3 : digs (l.drop 6) with
    | false => rw [hd h3, dayO_neg (by omega)] at h; cases h
    | true =>
     intro c hc
     have e : l = l.take 4 ++ ((l.drop 4).take 2 ++ l.drop 6) := by
      have e1 := List.take_append_drop 4 l
      have e2 := List.take_append_drop 2 (l.drop 4)
      rw [List.drop_drop] at e2
      rw [e2, e1]
     rw [e] at hc
     rcases List.mem_append.1 hc with hc | hc
     ·exact key _ h1 c hc
     ·rcases List.mem_append.1 hc with hc | hc
      ·exact key _ h2 c hc
      ·exact key _ h3 c hc
 ·cases h
theorem day_clean {l : List UInt8} {m : Int} (hd : dayOk l = true) (h : markF m = false) (hm : 0 <= m /\ m <= 255) : Lib.indexByte l (UInt8.ofNat m.toNat) = -1 := by
 have h1 := mark_no h hm
 have h2 := u8_mark hm
 refine ixb_no fun hc => ?_
 have := day_digits hd _ hc
 omega
theorem day_read {l : List UInt8} (h : dayOk l = true) : 1 <= dayN 1 l /\ dayN 1 l <= 3652059 := by
 unfold dayOk at h
 unfold dayN
 cases hr : readO 1 1 l with
 | none => rw [hr] at h; cases h
 | some v => exact readO_day hr
theorem val_turn {f g : Fmt} (hf : FmtK f) (hg : FmtK g) (hmf : 0 <= f.mark /\ f.mark <= 255) (hmg : 0 <= g.mark /\ g.mark <= 255) {c o : Col} (hc : ColK f.mark c) (ho : ColK g.mark o) (hk : o.kind = c.kind) (hl : lossB f g c o = false) {s : ByteArray} (hs : s ≠ ⟨#[]⟩) (hv : valF f.mark f.quote c s = 0) : valF g.mark g.quote o s = 0 := by
 obtain ⟨hok, hwd⟩ := valF_ok (by have := hc.width; omega) hv
 have hok := hok hs
 have hclash : ¬ (f.mark ≠ 0 /\ f.quote = 0 /\ 0 <= Lib.indexByte s.data.toList (UInt8.ofNat f.mark.toNat)) := by
  unfold valF at hv
  rw [if_neg hs, if_neg (by rw [hok]; decide), if_neg (by omega)] at hv
  intro h
  rw [if_pos h] at hv
  cases hv
 have fin : valOk o s.data.toList = true -> ((wrS g.mark o s).size : Int) <= o.width -> ¬ (g.mark ≠ 0 /\ g.quote = 0 /\ 0 <= Lib.indexByte s.data.toList (UInt8.ofNat g.mark.toNat)) -> valF g.mark g.quote o s = 0 := fun h1 h2 h3 => by
  unfold valF
  rw [if_neg hs, if_neg (by rw [h1]; decide), if_neg (by omega), if_neg h3]
 have how := ho.width
 unfold valOk at hok fin
 unfold lossB at hl
 rw [hk] at fin
 by_cases k2 : c.kind = 2
 ·rw [if_pos k2] at hok hl
  rw [if_pos k2] at fin
  unfold decOk at hok
  simp only [Bool.and_eq_true, decide_eq_true_eq] at hok
  obtain ⟨⟨h1, h2⟩, h3⟩ := hok
  obtain ⟨u, q, e, hq9, hu, ht⟩ := readText_text h1
  rw [e] at h2 h3
  simp only at h2 h3
  have hplaces := ho.places (by rw [hk]; exact k2)
  have hpl := hc.places k2
  have hcl : ¬ (g.mark ≠ 0 /\ g.quote = 0 /\ 0 <= Lib.indexByte s.data.toList (UInt8.ofNat g.mark.toNat)) := fun h => by
   have h4 := num_clean (u := u) (q := q) (hg.marks h.1).1 hmg
   rw [<- ht] at h4
   omega
  have hwr : ∀ (m : Int) (x : Col), x.kind = 2 -> (wrS m x s).size = if m = 0 then (sdig (scaled u q x.places.toNat)).length else (textL u q).length := fun m x hx => by
   unfold wrS
   rw [if_neg hs]
   by_cases hm : m = 0
   ·rw [if_pos ⟨hx, hm⟩, if_pos hm, e]
    exact bs_size2 _
   ·rw [if_neg (fun k => hm k.2), if_neg (by omega), if_neg hm, <- data_len, ht]
  rw [hwr f.mark c k2] at hwd
  by_cases hu0 : u = 0
  ·subst hu0
   have hq0 := lst_zero h3
   subst hq0
   refine fin ?_ ?_ hcl
   ·unfold decOk
    rw [e]
    simp only [Bool.and_eq_true, decide_eq_true_eq]
    exact ⟨⟨trivial, by omega⟩, h3⟩
   ·rw [hwr g.mark o (by rw [hk]; exact k2)]
    have e0 : (Lib.decDigits (Int.natAbs 0)).length = 1 := by rw [Lib.decDigits_one (show Int.natAbs 0 < 10 by decide)]; rfl
    have e1 : (textL 0 0).length = 1 := by rw [textL_len, e0]; rfl
    have e2 : (sdig (scaled 0 ((0 : Nat) : Int) o.places.toNat)).length = 1 := by
     have : scaled 0 ((0 : Nat) : Int) o.places.toNat = 0 := by unfold scaled; exact Int.zero_mul _
     rw [this, sdig_len, e0]; rfl
    rw [e1, e2]
    split <;> omega
  ·have hmem := shp_mem hu0 hu hq9 h3
   have hin : ∀ sh ∈ shapesL, shInB f.mark c sh = true -> shInB g.mark o sh = true := fun sh hsh h5 => by
    unfold numLoss at hl
    cases h6 : shInB g.mark o sh with
    | true => rfl
    | false =>
     have : shapesL.any (fun s => shInB f.mark c s && !shInB g.mark o s) = true := List.any_eq_true.2 ⟨sh, hsh, by rw [h5, h6]; rfl⟩
     rw [this] at hl
     cases hl
   have hpl2 : (shpOf u q).places = (q : Int) := by unfold shpOf; split <;> rfl
   have hw1 : ∀ (m : Int) (x : Col), 0 <= x.places -> (q : Int) <= x.places -> wideF m x (shpOf u q) = ((if m = 0 then (sdig (scaled u q x.places.toNat)).length else (textL u q).length : Nat) : Int) := fun m x hx hxq => by
    by_cases hm : m = 0
    ·subst hm
     rw [if_pos rfl]
     exact wide_fixed hu0 hx hxq
    ·rw [if_neg hm]
     exact wide_marked hm
   have h5 : shInB f.mark c (shpOf u q) = true := by
    unfold shInB
    rw [hpl2, decide_eq_true h2, hw1 _ _ hpl.1 h2, decide_eq_true hwd]
    rfl
   have h6 := hin _ hmem h5
   unfold shInB at h6
   rw [Bool.and_eq_true, hpl2] at h6
   have h7 := of_decide_eq_true h6.1
   have h8 := of_decide_eq_true h6.2
   rw [hw1 _ _ hplaces.1 h7] at h8
   refine fin ?_ ?_ hcl
   ·unfold decOk
    rw [e]
    simp only [Bool.and_eq_true, decide_eq_true_eq]
    exact ⟨⟨trivial, h7⟩, h3⟩
   ·rw [hwr g.mark o (by rw [hk]; exact k2)]
    exact h8
 rw [if_neg k2] at hok hl fin
 by_cases k3 : c.kind = 3
 ·rw [if_pos k3] at hok hl
  rw [if_pos k3] at fin
  have hd := day_read hok
  have hwr : ∀ (m : Int) (x : Col), x.kind = 3 -> formW x.form ≠ 0 -> ((wrS m x s).size : Int) = formW x.form := fun m x hx hfx => by
   unfold wrS
   rw [if_neg hs, if_neg (fun h => by have := h.1; omega), if_pos hx]
   exact dayS_size hfx hd
  have hfc := hc.form k3
  have hfo := ho.form (by rw [hk]; exact k3)
  rw [hwr _ _ k3 hfc] at hwd
  refine fin hok ?_ (fun h => ?_)
  ·rw [hwr _ _ (by rw [hk]; exact k3) hfo]
   unfold dayLoss at hl
   rw [decide_eq_true hwd, Bool.true_and] at hl
   have := of_decide_eq_false hl
   omega
  ·have h4 := day_clean hok (hg.marks h.1).1 hmg
   omega
 ·rw [if_neg k3] at hok hl fin
  have hwr : ∀ (m : Int) (x : Col), x.kind = c.kind -> wrS m x s = s := fun m x hx => by
   unfold wrS
   rw [if_neg hs, if_neg (fun h => k2 (hx ▸ h.1)), if_neg (fun h => k3 (hx ▸ h))]
  rw [hwr _ _ rfl] at hwd
  unfold txtLoss at hl
  rw [Bool.or_eq_false_iff] at hl
  obtain ⟨hl1, hl2⟩ := hl
  have hl1 := of_decide_eq_false hl1
  refine fin hok ?_ (fun h => ?_)
  ·rw [hwr _ _ hk]
   omega
  ·have hbg : barF g = g.mark := by unfold barF; rw [if_neg (fun k => k h.2.1)]
   rw [hbg, decide_eq_true h.1, Bool.true_and] at hl2
   by_cases hb : g.mark = barF f
   ·have hfm : f.quote = 0 /\ f.mark = g.mark := by
     unfold barF at hb
     by_cases hq : f.quote = 0
     ·rw [if_neg (fun k => k hq)] at hb; exact ⟨hq, hb.symm⟩
     ·rw [if_pos hq] at hb; exact absurd hb h.1
    exact hclash ⟨by rw [hfm.2]; exact h.1, hfm.1, by rw [hfm.2]; exact h.2.2⟩
   ·rw [show decide (g.mark ≠ barF f) = true from decide_eq_true hb, Bool.true_and, Bool.or_eq_false_iff] at hl2
    have h32 : g.mark = 32 := Classical.byContradiction fun k => by rw [decide_eq_true k] at hl2; cases hl2.1
    have hw2 := of_decide_eq_false hl2.2
    have hsz : 0 < s.size := by
     rcases Nat.eq_zero_or_pos s.size with h0 | h0
     ·exact absurd (ByteArray.size_eq_zero_iff.1 h0) hs
     ·exact h0
    have hin : inB s.data.toList 32 126 = true := by
     cases hi : inB s.data.toList 32 126 with
     | true => rfl
     | false => rw [txt_bad hi] at hok; cases hok
    rw [txt_ends hin hsz, Bool.and_eq_true, Bool.not_eq_true', Bool.not_eq_true'] at hok
    have e1 := of_decide_eq_false hok.1
    have e2 := of_decide_eq_false hok.2
    have hno : UInt8.ofNat g.mark.toNat ∉ s.data.toList := fun hm => by
     obtain ⟨j, hj, e⟩ := List.getElem_of_mem hm
     rw [data_len] at hj
     have hc32 : ((UInt8.ofNat g.mark.toNat).toNat : Int) = 32 := by rw [h32]; rfl
     have e3 : s[j] = UInt8.ofNat g.mark.toNat := (data_get s j hj).symm.trans e
     rcases Nat.eq_zero_or_pos j with h0 | h0
     ·subst h0; rw [e3] at e1; exact e1 hc32
     ·have : j = s.size - 1 := by omega
      subst this
      rw [e3] at e2
      exact e2 hc32
    have := ixb_no hno
    omega
end Go.Proofs.YtaiabjiehpcaoaaGreatDoor
