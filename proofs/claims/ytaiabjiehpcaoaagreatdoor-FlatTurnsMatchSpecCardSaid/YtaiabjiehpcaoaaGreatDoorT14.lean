/- The walks of package amount: marksFault, sign, pointed, grouped. The walks of amount.grouped and amount.Text. The walk of amount.Implied. -/
import Derived.Test.YtaiabjiehpcaoaaGreatDoorA7
import Derived.Test.YtaiabjiehpcaoaaGreatDoorShelf
import Derived.Deep.QuietTactic
import Derived.BigQuiet
import Derived.IntWalk
import Derived.Lib.Repeat
import Derived.Test.YtaiabjiehpcaoaaGreatDoorT3
import Derived.Deep.RegionHeld3
import Derived.Test.YtaiabjiehpcaoaaGreatDoorA8
import Derived.Test.YtaiabjiehpcaoaaGreatDoorE1
import Derived.Lib.Hide
import Derived.Test.YtaiabjiehpcaoaaGreatDoorT16
import Derived.Test.YtaiabjiehpcaoaaGreatDoorM2
-- merged: T1 T4 T5 T6 T7 T8 T9 T10 T13 T14
namespace Go.Proofs.YtaiabjiehpcaoaaGreatDoor
open Go.RowKit Limb
set_option linter.unusedVariables false
set_option linter.unusedSimpArgs false
theorem repeat_one (c : UInt8) : ∀ n, Lib.repeatL [c] n = List.replicate n c
 | 0 => rfl
 | n + 1 => by rw [Lib.repeatL, repeat_one c n, List.replicate_succ]; rfl
def padL (l : List UInt8) (p : Nat) : List UInt8 := List.replicate (p + 1 - l.length) 48 ++ l
theorem padL_len (l : List UInt8) (p : Nat) : (padL l p).length = max (p + 1) l.length := by unfold padL; simp; omega
def sgL (u : Int) : List UInt8 := if u < 0 then [45] else []
def digL (u : Int) : List UInt8 := Lib.decDigits u.natAbs
def befL (u : Int) (p : Nat) : List UInt8 := (padL (digL u) p).take ((padL (digL u) p).length - p)
def behL (u : Int) (p : Nat) : List UInt8 := (padL (digL u) p).drop ((padL (digL u) p).length - p)
def textL (u : Int) (p : Nat) : List UInt8 := sgL u ++ befL u p ++ (if p = 0 then [] else 46 :: behL u p)
theorem digL_len {u : Int} (h : u.natAbs < 10 ^ 30) : 1 <= (digL u).length /\ (digL u).length <= 30 := by
 unfold digL
 rcases Nat.eq_zero_or_pos u.natAbs with h0 | h0
 ·rw [h0, Lib.decDigits_one (by decide)]; simp
 ·rw [<- tail_pos h0]
  refine ⟨?_, tail_len 30 _ h⟩
  rw [tail_step h0]; simp
def RetST (l : List UInt8) (f : Int) (w : World) (e : Ending) (w' : World) : Prop := ∃ s : ByteArray, e = .returned (.tuple #[.string s, .int .i64 f]) /\ s.data.toList = l /\ Below w.heap.size w w'
def textR (u p : Int) : List UInt8 := if decB u p = true then textL u p.toNat else []
def decF (u p : Int) : Int := if decB u p = true then 0 else 1
theorem bef_len {u : Int} {p : Nat} (hp : p <= 9) (hu : u.natAbs < 10 ^ 30) : (befL u p).length <= 40 /\ (behL u p).length <= 40 := by
 have h1 := padL_len (digL u) p
 have h2 := digL_len hu
 unfold befL behL
 rw [List.length_take, List.length_drop]
 omega
theorem nat_pow200 {u : Int} (h : -1000000000000000 <= u /\ u <= 1000000000000000) : u.natAbs < 10 ^ 200 /\ u.natAbs < 10 ^ 30 := by
 have h1 : u.natAbs <= 1000000000000000 := by omega
 exact ⟨Nat.lt_of_le_of_lt h1 (by decide), Nat.lt_of_le_of_lt h1 (by decide)⟩
theorem RetST.of {l l' : List UInt8} {f f' : Int} {w w' : World} {e : Ending} (h : RetST l f w e w') (hl : l = l') (hf : f = f') : RetST l' f' w e w' := by subst hl; subst hf; exact h
theorem tdec_w {u p : Int} (h : decB u p = true) : decide (-1000000000000000 <= u /\ u <= 1000000000000000) = true /\ decide (0 <= p /\ p <= 9) = true := by
 have := decB_out h
 exact ⟨decide_eq_true (by omega), decide_eq_true (by omega)⟩
theorem trchk_ok (u p : Int) (w : World) (h : decB u p = true) : Calls Tryz.prog 105 #[.agg #[.int .i64 u, .int .i64 p]] w fun e w' => e = .returned (.int .i64 0) /\ Below w.heap.size w w' := by
 obtain ⟨h1, h2⟩ := tdec_w h
 have H1 := Lib.hid h1; have H2 := Lib.hid h2
 clear h h1 h2
 go_enter Tryz.func105, Tryz.ntmps105
 go_wp2_with (first | (go_at_call_of 176 (Value.int .i64 9); refine (within_c _ _ _ _).mono ?_; rintro e w1 ⟨rfl, rfl⟩; rw [H2.out]) | (go_at_call 176; refine (within_c _ _ _ _).mono ?_; rintro e w1 ⟨rfl, rfl⟩; rw [H1.out]))
 go_ret
 exact ⟨rfl, by go_grown⟩
theorem trchk_bad (u p : Int) (w : World) (h : decB u p = false) : Calls Tryz.prog 105 #[.agg #[.int .i64 u, .int .i64 p]] w fun e w' => e = .returned (.int .i64 1) /\ Below w.heap.size w w' := by
 have h := decB_not h
 by_cases h1 : -1000000000000000 <= u /\ u <= 1000000000000000
 ·have H1 := Lib.hid (decide_eq_true h1)
  have H2 := Lib.hid (decide_eq_false (p := 0 <= p /\ p <= 9) (by omega))
  clear h h1
  go_enter Tryz.func105, Tryz.ntmps105
  go_wp2_with (first | (go_at_call_of 176 (Value.int .i64 9); refine (within_c _ _ _ _).mono ?_; rintro e w1 ⟨rfl, rfl⟩; rw [H2.out]) | (go_at_call 176; refine (within_c _ _ _ _).mono ?_; rintro e w1 ⟨rfl, rfl⟩; rw [H1.out]))
  go_ret
  exact ⟨rfl, by go_grown⟩
 ·have H1 := Lib.hid (decide_eq_false h1)
  clear h h1
  go_enter Tryz.func105, Tryz.ntmps105
  go_wp2_with (go_at_call 176; refine (within_c _ _ _ _).mono ?_; rintro e w1 ⟨rfl, rfl⟩; rw [H1.out])
  go_ret
  exact ⟨rfl, by go_grown⟩
theorem tdec_c (u p : Int) (w : World) : Calls Tryz.prog 105 #[.agg #[.int .i64 u, .int .i64 p]] w fun e w' => e = .returned (.int .i64 (decF u p)) /\ Below w.heap.size w w' := by
 unfold decF
 cases hd : decB u p with
 | true => exact trchk_ok u p w hd
 | false => exact trchk_bad u p w hd
set_option maxHeartbeats 2000000 in
set_option maxRecDepth 100000 in
theorem rtext_c (u p : Int) (w : World) (ht : Tab w) :
  Calls Tryz.prog 86 #[.agg #[.int .i64 u, .int .i64 p]] w (RetST (textR u p) (decF u p) w) := by
 have HC := Lib.hid (fun w => tdec_c u p w)
 cases hd : decB u p with
 | false =>
  rw [show decF u p = 1 from if_neg (by rw [hd]; decide)] at HC
  rw [show textR u p = [] from if_neg (by rw [hd]; decide), show decF u p = 1 from if_neg (by rw [hd]; decide)]
  clear hd
  go_enter Tryz.func86, Tryz.ntmps86
  go_wp2_with fail
  refine (HC.out _).mono ?_
  rintro e w1 ⟨rfl, hb⟩
  go_wp2
  go_ret2
  refine ⟨_, rfl, rfl, ?_⟩
  go_grown
  exact below_then hb (by go_grown) (by simp only [World.size_alloc]; omega)
 | true =>
  have hdb := decB_out hd
  rw [show decF u p = 0 from if_pos hd] at HC
  rw [show textR u p = textL u p.toNat from if_pos hd, show decF u p = 0 from if_pos hd]
  obtain ⟨q, rfl⟩ : ∃ q : Nat, p = (q : Int) := ⟨p.toNat, by omega⟩
  rw [Int.toNat_natCast]
  clear hd
  have HQ := Lib.hid (show q <= 9 by omega)
  have hm : max u (-u) = (u.natAbs : Int) := by omega
  have HI := Lib.hid (fun (w : World) (ht : Tab w) => itoa_c (u.natAbs : Int) w (by omega) (by omega) ht)
  have hu30 := (nat_pow200 (u := u) (by omega)).2
  have hdl := digL_len hu30
  obtain ⟨D, hD⟩ : ∃ D : ByteArray, (⟨(Lib.decDigits u.natAbs).toArray⟩ : ByteArray) = D := ⟨_, rfl⟩
  rw [Int.toNat_natCast, hD] at HI
  have hDl : D.data.toList = digL u := by rw [<- hD]; rfl
  have hDs : D.size = (digL u).length := by rw [<- hDl]; simp
  rw [<- hDs] at hdl
  have hwn : IntKind.i64.wrap (-u) = -u := IntWalk.i64_in _ (by omega)
  have HU := Lib.hid hdb; have HDL := Lib.hid hDl; have HDS := Lib.hid hDs; have HM := Lib.hid hm
  have u1 : -1000000000000000 <= u := hdb.1
  have u2 : u <= 1000000000000000 := hdb.2.1
  have HT := Lib.hid ht
  clear hdb hD hDl hDs hu30 hm ht hwn
  go_enter Tryz.func86, Tryz.ntmps86
  go_wp2_with fail
  refine (HC.out _).mono ?_
  rintro e w1 ⟨rfl, hb⟩
  have hX := heap_below (heap_new w (.cells #[.int .i64 u, .int .i64 (q : Int)] 70) rfl) hb
  have hB := below_then hb (by go_grown : Below w.heap.size w _) (by simp only [World.size_alloc]; omega)
  clear hb
  obtain ⟨a0, a1, -, -, a4⟩ := box2 hX
  have hz := hB.size
  have HTA := Lib.hid (HT.out.below (by exact hB))
  go_wp2_with fail
  rw [HM.out]
  refine (HI.out _ HTA.out).mono ?_
  rintro e w2 ⟨rfl, hb2⟩
  have hX2 := heap_below hX hb2
  have hB2 := below_then hb2 hB hz
  have hz2 := hB2.size
  clear hX hB hb2 a0 a1 a4
  obtain ⟨a0, a1, -, -, a4⟩ := box2 hX2
  obtain ⟨c, hc⟩ : ∃ c : Nat, q + 1 - D.size = c := ⟨_, rfl⟩
  have HREP := Lib.hid (Tryz.strings_Repeat ⟨#[48]⟩ c)
  have E1 := Lib.hid (show max (0 : Int) ((q : Int) + 1 - (D.size : Int)) = ((c : Nat) : Int) by omega)
  have hc10 : c <= 10 := by have := HQ.out; omega
  have HPD := Lib.hid (show padL (digL u) q = List.replicate c 48 ++ D.data.toList by unfold padL; rw [<- HDS.out, hc, HDL.out])
  have hq9 : q <= 9 := HQ.out
  have hqc : q + 1 <= c + D.size := by omega
  clear hc
  go_wp2_with fail
  rw [E1.out]
  refine (HREP.out _ (by omega) (by show 1 * c <= _; omega)).mono ?_
  rintro e w3 ⟨rfl, hb3⟩
  obtain ⟨R, hR⟩ : ∃ R : ByteArray, (⟨(Lib.repeatL [48] c).toArray⟩ : ByteArray) = R := ⟨_, rfl⟩
  have hRs : R.size = c := by rw [<- hR, repeat_one]; show (List.replicate c (48 : UInt8)).toArray.size = c; simp
  have hRl : R.data.toList = List.replicate c 48 := by rw [<- hR, repeat_one]
  have hR2 : (⟨(Lib.repeatL (⟨#[48]⟩ : ByteArray).data.toList c).toArray⟩ : ByteArray) = R := hR
  rw [hR2]
  have hX3 := heap_below hX2 hb3
  have hB3 := below_then hb3 hB2 hz2
  have hz3 := hB3.size
  obtain ⟨t, ht⟩ : ∃ t : ByteArray, R ++ D = t := ⟨_, rfl⟩
  have htl : t.data.toList = padL (digL u) q := by rw [HPD.out, <- ht, ByteArray.data_append, Array.toList_append, hRl]
  have hts : t.size = c + D.size := by rw [<- ht, ByteArray.size_append, hRs]
  have HTT := Lib.hid ht; have HTL := Lib.hid htl
  have hcond : ¬ 9223372036854775807 < R.size + D.size := by omega
  clear hR hR2 hRl htl hX2 hB2 hb3 a0 a1 a4
  obtain ⟨a0, a1, -, -, a4⟩ := box2 hX3
  have htl' : t.data.toList.length = t.size := by simp
  rcases Nat.eq_zero_or_pos q with h0 | h0
  ·subst h0
   have hfin : ∀ X : ByteArray, X.data.toList = sgL u -> (X ++ t).data.toList = textL u 0 := by
    intro X hX
    rw [ByteArray.data_append, Array.toList_append, hX, HTL.out]
    unfold textL befL
    simp
   have HFIN := Lib.hid hfin
   clear hfin
   by_cases hn : u < 0
   ·have hcat : ¬ 9223372036854775807 < 1 + t.size := by omega
    have HG := Lib.hid (show sgL u = [45] from if_pos hn)
    go_wp2
    go_ret2
    exact ⟨_, rfl, HFIN.out _ HG.out.symm, hB3⟩
   ·have HG := Lib.hid (show sgL u = [] from if_neg hn)
    go_wp2
    go_ret2
    exact ⟨_, rfl, by have := HFIN.out ⟨#[]⟩ HG.out.symm; simpa using this, hB3⟩
  ·have hq0 : (0 : Int) < (q : Int) := by omega
   have hqt : q <= t.size := by omega
   have hts2 : t.size <= 50 := by omega
   clear hts
   obtain ⟨A, hA⟩ : ∃ A, t.extract 0 (t.size - q) = A := ⟨_, rfl⟩
   obtain ⟨B, hB⟩ : ∃ B, t.extract (t.size - q) t.size = B := ⟨_, rfl⟩
   have hAs : A.size = t.size - q := by rw [<- hA, ByteArray.size_extract]; omega
   have hBs : B.size = q := by rw [<- hB, ByteArray.size_extract]; omega
   have hAl : A.data.toList = befL u q := by unfold befL; rw [<- HTL.out, <- hA, htl', Lib.extract_data]; simp
   have hBl : B.data.toList = behL u q := by unfold behL; rw [<- HTL.out, <- hB, htl', Lib.extract_to_end]
   have hfin : ∀ X : ByteArray, X.data.toList = sgL u -> (X ++ (A ++ ⟨#[46]⟩ ++ B)).data.toList = textL u q := by
    intro X hX
    simp only [ByteArray.data_append, Array.toList_append, hX, hAl, hBl]
    unfold textL
    rw [if_neg (by omega)]
    simp
   have HFIN := Lib.hid hfin
   have k1 : ¬ 9223372036854775807 < A.size + 1 := by omega
   have k2 : ¬ 9223372036854775807 < A.size + 1 + B.size := by omega
   have k3 : ¬ 9223372036854775807 < 1 + (A.size + 1 + B.size) := by omega
   clear hfin hAl hBl
   have e1 : IntKind.i64.wrap ((t.size : Int) - (q : Int)) = (t.size : Int) - (q : Int) := IntWalk.i64_in _ (by omega)
   have e2 : (q : Int) <= (t.size : Int) := by omega
   have e2' : (0 : Int) <= (t.size : Int) - (q : Int) := by omega
   have e3 : ((t.size : Int) - (q : Int)).toNat = t.size - q := by omega
   have e4 : (t.size : Int) - (q : Int) <= (t.size : Int) := by omega
   go_wp2_with fail
   go_quiet (fail)
   clear e1 e2 e2' e3 e4
   by_cases hn : u < 0
   ·have HG := Lib.hid (show sgL u = [45] from if_pos hn)
    go_wp2
    go_ret2
    exact ⟨_, rfl, HFIN.out _ HG.out.symm, below_drewN hB3 _⟩
   ·have HG := Lib.hid (show sgL u = [] from if_neg hn)
    go_wp2
    go_ret2
    exact ⟨_, rfl, by have := HFIN.out ⟨#[]⟩ HG.out.symm; simpa using this, below_drewN hB3 _⟩
theorem dec_shift {m : Nat} (h : 0 < m) : ∀ k, Lib.decDigits (m * 10 ^ k) = Lib.decDigits m ++ List.replicate k 48
 | 0 => by simp
 | k + 1 => by
  have h1 : 0 < m * 10 ^ (k + 1) := Nat.mul_pos h (Nat.pow_pos (by decide))
  have h2 : 0 < m * 10 ^ k := Nat.mul_pos h (Nat.pow_pos (by decide))
  have h3 : m * 10 ^ (k + 1) = 10 * (m * 10 ^ k) := by rw [Nat.pow_succ, <- Nat.mul_assoc, Nat.mul_comm]
  rw [<- tail_pos h1, tail_step h1, h3, Nat.mul_div_cancel_left _ (by decide), tail_pos h2, dec_shift h k, Nat.mul_mod_right, List.append_assoc]
  congr 1
  rw [List.replicate_succ']
  rfl
theorem u8_ge (n : Nat) (h : n < 256) : (UInt8.ofNat n).toNat = n := by rw [UInt8.toNat_ofNat']; exact Nat.mod_eq_of_lt h
theorem dec_48 : ∀ (n : Nat), ∀ c ∈ Lib.decDigits n, 48 <= c.toNat /\ c.toNat <= 57 := by
 intro n
 induction n using Nat.strongRecOn with
 | _ n ih =>
  rw [Lib.decDigits]
  by_cases h : n < 10
  ·rw [dif_pos h]
   have e := u8_ge (48 + n) (by omega)
   intro c hc
   obtain rfl := List.mem_singleton.1 hc
   omega
  ·rw [dif_neg h]
   have e := u8_ge (48 + n % 10) (by omega)
   intro c hc
   rw [List.mem_append] at hc
   rcases hc with hc | hc
   ·exact ih (n / 10) (by omega) c hc
   ·obtain rfl := List.mem_singleton.1 hc
    omega
theorem cutL_hit {c : UInt8} : ∀ {l r : List UInt8}, c ∉ l -> cutL (l ++ c :: r) c = (l, r, true)
 | [], r, _ => by simp [cutL]
 | a :: l, r, h => by
  have h1 : a ≠ c := fun e => h (e ▸ List.mem_cons_self)
  have h2 : c ∉ l := fun e => h (List.mem_cons_of_mem _ e)
  rw [List.cons_append, cutL, cutL_hit h2]
  simp [h1]
theorem cutL_miss {c : UInt8} : ∀ {l : List UInt8}, c ∉ l -> cutL l c = (l, [], false)
 | [], _ => by simp [cutL]
 | a :: l, h => by
  have h1 : a ≠ c := fun e => h (e ▸ List.mem_cons_self)
  have h2 : c ∉ l := fun e => h (List.mem_cons_of_mem _ e)
  rw [cutL, cutL_miss h2]
  simp [h1]
theorem padL_48 {u : Int} {q : Nat} : ∀ c ∈ padL (digL u) q, 48 <= c.toNat /\ c.toNat <= 57 := by
 intro c hc
 unfold padL at hc
 rcases List.mem_append.1 hc with h | h
 ·have := List.eq_of_mem_replicate h
  subst this
  decide
 ·exact dec_48 _ c h
theorem bef_48 {u : Int} {q : Nat} : ∀ c ∈ befL u q, 48 <= c.toNat /\ c.toNat <= 57 := fun c hc => padL_48 c (List.mem_of_mem_take hc)
theorem beh_48 {u : Int} {q : Nat} : ∀ c ∈ behL u q, 48 <= c.toNat /\ c.toNat <= 57 := fun c hc => padL_48 c (List.mem_of_mem_drop hc)
theorem bef_pos {u : Int} {q : Nat} : 0 < (befL u q).length := by
 have h1 := padL_len (digL u) q
 unfold befL
 rw [List.length_take]
 omega
theorem bef_no46 {u : Int} {q : Nat} : (46 : UInt8) ∉ befL u q := fun h => by have := bef_48 _ h; revert this; decide
theorem text_cut {u : Int} {q : Nat} : cutL (befL u q ++ (if q = 0 then [] else 46 :: behL u q)) 46 = (befL u q, (if q = 0 then [] else behL u q), decide (q ≠ 0)) := by
 by_cases h : q = 0
 ·rw [if_pos h, if_pos h, List.append_nil, cutL_miss bef_no46]; simp [h]
 ·rw [if_neg h, if_neg h, cutL_hit bef_no46]; simp [h]
theorem text_head {u : Int} {q : Nat} : ((textL u q).head? == some 45) = decide (u < 0) /\ (if decide (u < 0) = true then (textL u q).tail else textL u q) = befL u q ++ (if q = 0 then [] else 46 :: behL u q) := by
 unfold textL sgL
 by_cases h : u < 0
 ·simp [h]
 ·have hp := bef_pos (u := u) (q := q)
  rcases hb : befL u q with _ | ⟨c, l⟩
  ·rw [hb] at hp; simp at hp
  ·have h2 := bef_48 (u := u) (q := q) c (by rw [hb]; simp)
   have hc : c ≠ 45 := by rintro rfl; revert h2; decide
   simp [h, hc]
end Go.Proofs.YtaiabjiehpcaoaaGreatDoor
namespace Go.Proofs.YtaiabjiehpcaoaaGreatDoor
open Go.RowKit Limb
set_option linter.unusedVariables false
set_option linter.unusedSimpArgs false
set_option linter.unnecessarySimpa false
theorem numL_snoc (l : List UInt8) (c : UInt8) : numL (l ++ [c]) = numL l * 10 + (c.toNat - 48) := by
 unfold numL; rw [List.foldl_append]; rfl
theorem numL_zeros (l : List UInt8) : ∀ k, numL (List.replicate k 48 ++ l) = numL l
 | 0 => rfl
 | k + 1 => by
  rw [List.replicate_succ, List.cons_append]
  exact numL_zeros l k
theorem numL_dec : ∀ n : Nat, numL (Lib.decDigits n) = n := by
 intro n
 induction n using Nat.strongRecOn with
 | _ n ih =>
  rw [Lib.decDigits]
  by_cases h : n < 10
  ·rw [dif_pos h]
   have e := u8_ge (48 + n) (by omega)
   show 0 * 10 + ((UInt8.ofNat (48 + n)).toNat - 48) = n
   omega
  ·rw [dif_neg h, numL_snoc, ih (n / 10) (by omega), u8_ge _ (by omega)]
   omega
theorem dec_ne (n : Nat) : 1 <= (Lib.decDigits n).length := by
 rw [Lib.decDigits]; split <;> simp
theorem dec_head : ∀ n : Nat, 0 < n -> (Lib.decDigits n).head? ≠ some 48 := by
 intro n
 induction n using Nat.strongRecOn with
 | _ n ih =>
  intro h0
  rw [Lib.decDigits]
  by_cases h : n < 10
  ·rw [dif_pos h]
   have e := u8_ge (48 + n) (by omega)
   intro hc
   injection hc with hc
   rw [hc] at e
   have : (48 : UInt8).toNat = 48 := rfl
   omega
  ·rw [dif_neg h]
   have h1 := ih (n / 10) (by omega) (by omega)
   have h2 := dec_ne (n / 10)
   rcases hd : Lib.decDigits (n / 10) with _ | ⟨c, l⟩
   ·rw [hd] at h2; simp at h2
   ·rw [hd] at h1
    simpa using h1
theorem pad_split {u : Int} {q : Nat} : befL u q ++ behL u q = padL (digL u) q := List.take_append_drop _ _
theorem num_pad {u : Int} {q : Nat} : numL (befL u q ++ behL u q) = u.natAbs := by
 rw [pad_split]; unfold padL; rw [numL_zeros]; exact numL_dec _
theorem inB_of {l : List UInt8} (h : ∀ c ∈ l, 48 <= c.toNat /\ c.toNat <= 57) : inB l 48 57 = true := by
 unfold inB; rw [List.all_eq_true]; intro c hc; exact decide_eq_true (h c hc)
theorem digB_of {l : List UInt8} (h0 : 0 < l.length) (h : ∀ c ∈ l, 48 <= c.toNat /\ c.toNat <= 57) : digB l = true := by
 unfold digB
 rw [inB_of h]
 cases l with
 | nil => simp at h0
 | cons a l => rfl
theorem dig16 {u : Int} (h : -1000000000000000 <= u /\ u <= 1000000000000000) : 1 <= (digL u).length /\ (digL u).length <= 16 := by
 unfold digL
 refine ⟨dec_ne _, ?_⟩
 rcases Nat.eq_zero_or_pos u.natAbs with h0 | h0
 ·rw [h0, Lib.decDigits_one (by decide)]; simp
 ·rw [<- tail_pos h0]
  exact tail_len 16 _ (by have : u.natAbs <= 1000000000000000 := by omega
                          exact Nat.lt_of_le_of_lt this (by decide))
theorem pad16 {u : Int} {q : Nat} (h : -1000000000000000 <= u /\ u <= 1000000000000000) (hq : q <= 9) : (befL u q).length + (behL u q).length <= 16 /\ (behL u q).length = q := by
 have h1 := padL_len (digL u) q
 have h2 := dig16 h
 unfold befL behL
 rw [List.length_take, List.length_drop]
 omega
theorem whole_bef {u : Int} {q : Nat} : wholeB (befL u q) = true := by
 unfold wholeB
 rw [digB_of bef_pos bef_48]
 by_cases h1 : (befL u q).length = 1
 ·simp [h1]
 ·have h2 := padL_len (digL u) q
  have h3 : (befL u q).length = (padL (digL u) q).length - q := by unfold befL; rw [List.length_take]; omega
  have h4 : q + 1 < (digL u).length := by omega
  have h5 : padL (digL u) q = digL u := by unfold padL; rw [show q + 1 - (digL u).length = 0 by omega]; rfl
  have h6 : 0 < u.natAbs := by
   rcases Nat.eq_zero_or_pos u.natAbs with h0 | h0
   ·unfold digL at h4; rw [h0, Lib.decDigits_one (by decide)] at h4; simp at h4
   ·exact h0
  have h7 := dec_head _ h6
  have h8 : (befL u q).head? = (Lib.decDigits u.natAbs).head? := by
   unfold befL
   rw [h5]
   show ((Lib.decDigits u.natAbs).take _).head? = _
   rw [List.head?_take]
   rw [if_neg (by unfold digL; unfold digL at h4; omega)]
  rw [h8]
  simp [h7]
theorem read_pad {u : Int} {q : Nat} (h : -1000000000000000 <= u /\ u <= 1000000000000000) : readR (decide (u < 0)) (befL u q ++ behL u q) (q : Int) = (u, (q : Int), 0) := by
 unfold readR
 rw [num_pad]
 by_cases hn : u < 0
 ·rw [if_pos (decide_eq_true hn), if_neg (by omega), show -((u.natAbs : Nat) : Int) = u by omega]
  unfold made; rw [if_pos (by omega)]
 ·rw [if_neg (by simpa using hn), show ((u.natAbs : Nat) : Int) = u by omega]
  unfold made; rw [if_pos (by omega)]
theorem beh_zero {u : Int} {q : Nat} (h : q = 0) : behL u q = [] := by subst h; unfold behL; simp
theorem readText_back {u : Int} {q : Nat} (h : -1000000000000000 <= u /\ u <= 1000000000000000) (hq : q <= 9) : readText (textL u q) = (u, (q : Int), 0) := by
 have hp := pad16 h hq
 have ht := text_head (u := u) (q := q)
 have hlen : ¬ 40 < (textL u q).length := by
  unfold textL
  simp only [List.length_append]
  have h1 : (sgL u).length <= 1 := by unfold sgL; split <;> simp
  split
  ·simp; omega
  ·simp; omega
 unfold readText
 simp only
 rw [ht.1, ht.2, text_cut]
 simp only
 rw [decide_eq_false hlen, whole_bef]
 by_cases hz : q = 0
 ·have hb := beh_zero (u := u) hz
  have hr := read_pad (u := u) (q := q) h
  rw [hb, List.append_nil] at hr
  subst hz
  simpa using hr
 ·simp only [if_neg hz]
  rw [digB_of (by omega) (beh_48 (u := u) (q := q)), decide_eq_false (show ¬ 9 < (behL u q).length by omega), hp.2]
  simpa [hz] using read_pad (u := u) (q := q) h
end Go.Proofs.YtaiabjiehpcaoaaGreatDoor
