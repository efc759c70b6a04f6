/- Plain: values in the order of a column; ranks. The walk of Turned. (Printed by genZA.py.) The walk of the program's SumOf. -/
import Derived.Test.YtbnjejenejoibaaGreatDoorDFC
import Derived.Test.YtbnjejenejoibaaGreatDoorZ1
import Derived.Test.YtbnjejenejoibaaGreatDoorSQU
import Derived.Deep.RegionHeld3
-- merged: SQ0 ZA Y7 YQ C0 SQ1
namespace Go.Proofs.YtbnjejenejoibaaGreatDoor
open Go.RowKit Limb Nmb Work
set_option linter.unusedVariables false
set_option linter.unusedSimpArgs false
def sclV (a : ByteArray) : Int := scaled (readText a.data.toList).1 (readText a.data.toList).2.1 9
def cmpV (nb : Bool) (a b : ByteArray) : Int :=
 if nb = false ∨ a = ⟨#[]⟩ ∨ b = ⟨#[]⟩ then Lib.compareBytes a.data.toList b.data.toList else (sclV a - sclV b).sign
theorem ba_nil {a : ByteArray} (h : a.data.toList = []) : a = ⟨#[]⟩ := by
 obtain ⟨⟨l⟩⟩ := a
 simp at h
 subst h
 rfl
theorem cb_nil_le (l : List UInt8) : Lib.compareBytes [] l <= 0 := by cases l <;> simp [Lib.compareBytes]
theorem cb_nil_gt {l : List UInt8} (h : l ≠ []) : 0 < Lib.compareBytes l [] := by
 cases l with
 | nil => exact absurd rfl h
 | cons x l => simp [Lib.compareBytes]
theorem cmpV_neg (nb : Bool) (a b : ByteArray) : cmpV nb a b = - cmpV nb b a := by
 unfold cmpV
 by_cases h : nb = false ∨ a = ⟨#[]⟩ ∨ b = ⟨#[]⟩
 ·rw [if_pos h, if_pos (by rcases h with h | h | h; exact .inl h; exact .inr (.inr h); exact .inr (.inl h))]
  exact cb_neg
 ·rw [if_neg h, if_neg (by rintro (k | k | k); exact h (.inl k); exact h (.inr (.inr k)); exact h (.inr (.inl k)))]
  rw [<- Int.sign_neg]
  congr 1
  omega
theorem cb_le_trans {a b c : List UInt8} (h1 : Lib.compareBytes a b <= 0) (h2 : Lib.compareBytes b c <= 0) : Lib.compareBytes a c <= 0 := by
 rcases Int.lt_or_eq_of_le h1 with h1 | h1
 ·rcases Int.lt_or_eq_of_le h2 with h2 | h2
  ·exact Int.le_of_lt (cb_trans h1 h2)
  ·rw [<- cb_eq h2]; exact Int.le_of_lt h1
 ·rw [cb_eq h1]; exact h2
theorem cmpV_le {a b : ByteArray} : cmpV true a b <= 0 ↔ a = ⟨#[]⟩ ∨ (b ≠ ⟨#[]⟩ /\ sclV a <= sclV b) := by
 unfold cmpV
 by_cases ha : a = ⟨#[]⟩
 ·rw [if_pos (.inr (.inl ha))]
  subst ha
  exact ⟨fun _ => .inl rfl, fun _ => cb_nil_le _⟩
 ·by_cases hb : b = ⟨#[]⟩
  ·rw [if_pos (.inr (.inr hb))]
   subst hb
   have := cb_nil_gt (l := a.data.toList) (fun h => ha (ba_nil h))
   constructor
   ·intro h
    have : (⟨#[]⟩ : ByteArray).data.toList = [] := rfl
    rw [this] at h
    omega
   ·rintro (h | h)
    ·exact absurd h ha
    ·exact absurd rfl h.1
  ·rw [if_neg (by rintro (k | k | k); cases k; exact ha k; exact hb k)]
   have e : (sclV a - sclV b).sign <= 0 ↔ sclV a <= sclV b := by
    rcases Int.lt_trichotomy (sclV a - sclV b) 0 with h | h | h
    ·rw [Int.sign_eq_neg_one_of_neg h]; omega
    ·rw [h]; simp; omega
    ·rw [Int.sign_eq_one_of_pos h]; omega
   rw [e]
   exact ⟨fun h => .inr ⟨hb, h⟩, fun h => by rcases h with h | h; exact absurd h ha; exact h.2⟩
theorem cmpV_trans {nb : Bool} {a b c : ByteArray} (h1 : cmpV nb a b <= 0) (h2 : cmpV nb b c <= 0) : cmpV nb a c <= 0 := by
 cases nb with
 | false =>
  unfold cmpV at *
  rw [if_pos (.inl rfl)] at *
  exact cb_le_trans h1 h2
 | true =>
  rw [cmpV_le] at *
  rcases h1 with h1 | h1
  ·exact .inl h1
  ·rcases h2 with h2 | h2
   ·exact absurd h2 h1.1
   ·exact .inr ⟨h2.1, Int.le_trans h1.2 h2.2⟩
theorem count_le {p q : Nat -> Bool} : ∀ {l : List Nat}, (∀ x ∈ l, p x = true -> q x = true) -> l.countP p <= l.countP q
 | [], _ => Nat.le_refl _
 | x :: l, h => by
  have ih := count_le (l := l) fun y hy => h y (.tail _ hy)
  rw [List.countP_cons, List.countP_cons]
  have hx := h x (.head _)
  cases hp : p x with
  | true => rw [hx hp]; simp; omega
  | false => cases q x <;> simp <;> omega
theorem count_lt {p q : Nat -> Bool} : ∀ {l : List Nat}, (∀ x ∈ l, p x = true -> q x = true) -> (∃ x ∈ l, q x = true /\ p x = false) -> l.countP p < l.countP q
 | [], _, ⟨x, hx, _⟩ => by cases hx
 | x :: l, h, ⟨y, hy, hq, hp⟩ => by
  have ih := count_le (l := l) fun y hy => h y (.tail _ hy)
  rw [List.countP_cons, List.countP_cons]
  rcases List.mem_cons.1 hy with rfl | hy
  ·rw [hq, hp]; simp; omega
  ·have ih2 := count_lt (l := l) (fun y hy => h y (.tail _ hy)) ⟨y, hy, hq, hp⟩
   have hx := h x (.head _)
   cases hp : p x with
   | true => rw [hx hp]; simp; omega
   | false => cases q x <;> simp <;> omega
def rankV (nb : Bool) (V : Nat -> ByteArray) (n x : Nat) : Nat := (List.range n).countP fun y => decide (cmpV nb (V x) (V y) < 0)
theorem rankV_lt {nb : Bool} {V : Nat -> ByteArray} {n x y : Nat} (hx : x < n) (hy : y < n) : cmpV nb (V x) (V y) < 0 ↔ rankV nb V n y < rankV nb V n x := by
 constructor
 ·intro h
  refine count_lt (fun z hz hp => ?_) ⟨y, List.mem_range.2 hy, decide_eq_true h, decide_eq_false ?_⟩
  ·have h2 := of_decide_eq_true hp
   refine decide_eq_true ?_
   rcases Int.lt_or_eq_of_le (cmpV_trans (Int.le_of_lt h) (Int.le_of_lt h2)) with h3 | h3
   ·exact h3
   ·have h4 : cmpV nb (V z) (V x) <= 0 := by rw [cmpV_neg, h3]; decide
    have h5 := cmpV_trans h4 (Int.le_of_lt h)
    have h6 := cmpV_neg nb (V z) (V y)
    omega
  ·have := cmpV_neg nb (V y) (V y)
   omega
 ·intro h
  refine Classical.byContradiction fun hn => ?_
  have h1 : cmpV nb (V y) (V x) <= 0 := by rw [cmpV_neg]; omega
  have h2 : rankV nb V n x <= rankV nb V n y := count_le fun z hz hp => by
   have h2 := of_decide_eq_true hp
   refine decide_eq_true ?_
   rcases Int.lt_or_eq_of_le (cmpV_trans h1 (Int.le_of_lt h2)) with h3 | h3
   ·exact h3
   ·have h4 : cmpV nb (V z) (V y) <= 0 := by rw [cmpV_neg, h3]; decide
    have h5 := cmpV_trans h4 h1
    have h6 := cmpV_neg nb (V z) (V x)
    omega
  omega
def rwL (r : RowP) (A : Option Addr) (c : Nat) : List Value := [.string r.tag, .slice A r.vals.length c]
theorem rA_snoc {l : List RowP} {r : RowP} {j : Nat} : rA (l ++ [r]) j = if j = l.length then r else rA l j := by
 unfold rA
 rw [List.getD_eq_getElem?_getD, List.getD_eq_getElem?_getD]
 rcases Nat.lt_trichotomy j l.length with h | h | h
 ·rw [if_neg (by omega), List.getElem?_append_left h]
 ·subst h; simp
 ·rw [if_neg (by omega), List.getElem?_append_right (by omega), List.getElem?_eq_none (by simp; omega), List.getElem?_eq_none (by omega)]
theorem rwL_rows {l : List RowP} {r : RowP} {RA : Nat -> Option Addr} {RC : Nat -> Nat} {A : Option Addr} {c : Nat} : rowsC 2 l.length (rowV l RA RC) ++ rwL r A c = rowsC 2 (l.length + 1) (rowV (l ++ [r]) (kndA RA l.length A) (kndN RC l.length c)) := by
 rw [rowsC_succ]
 congr 1
 ·refine rowsC_congr fun j hj i hi => ?_
  unfold rowV kndA kndN
  rw [rA_snoc, if_neg (by omega), if_neg (by omega), if_neg (by omega)]
 ·simp only [rowV, kndA, kndN, rA_snoc, if_pos, List.range_succ, List.range_zero, List.nil_append, List.map_cons, List.map_nil, List.cons_append]
  rfl
structure RowS (w : World) (r : RowP) (A : Option Addr) (c : Nat) : Prop where
 vals : Sts w A r.vals
 len : r.vals.length <= c /\ c <= 9223372036854775807
 size : ∀ s ∈ r.vals, s.size <= 9223372036854775807
 tag : r.tag.size <= 9223372036854775807
theorem RowS.rowM {w : World} {r : RowP} {A : Option Addr} {c : Nat} (h : RowS w r A c) : RowM w r A c := ⟨h.vals.svs, h.len, h.size, h.tag⟩
def RwsO (w1 wr : World) (X : Option Addr) (n c : Nat) (l : List RowP) : Prop :=
 ∃ (RA : Nat -> Option Addr) (RC : Nat -> Nat), l.length = n /\ wr.ownsRow w1.heap.size 51 2 (.slice X n c) n (rowsC 2 n (rowV l RA RC)) /\ (∀ j, j < l.length -> RowS wr (rA l j) (RA j) (RC j)) /\ Below w1.heap.size w1 wr
theorem RwsO.nil (w1 : World) {wr : World} (hb : Below w1.heap.size w1 wr) : RwsO w1 wr none 0 0 [] := ⟨fun _ => none, fun _ => 0, rfl, World.ownsRow_nil _ _ _ _, fun j hj => absurd hj (Nat.not_lt_zero _), hb⟩
theorem RwsO.bel {w1 wr : World} {X : Option Addr} {n c : Nat} {l : List RowP} (h : RwsO w1 wr X n c l) : Below w1.heap.size w1 wr := by obtain ⟨_, _, _, _, _, hb⟩ := h; exact hb
theorem RwsO.len {w1 wr : World} {X : Option Addr} {n c : Nat} {l : List RowP} (h : RwsO w1 wr X n c l) : l.length = n := by obtain ⟨_, _, h, _⟩ := h; exact h
theorem RwsO.below {w1 wr w' : World} {X : Option Addr} {n c : Nat} {l : List RowP} (h : RwsO w1 wr X n c l) (hb : Below wr.heap.size wr w') : RwsO w1 w' X n c l := by
 obtain ⟨RA, RC, h1, h2, h3, h4⟩ := h
 exact ⟨RA, RC, h1, own_below h2 hb, fun j hj => ⟨(h3 j hj).vals.below hb, (h3 j hj).len, (h3 j hj).size, (h3 j hj).tag⟩, below_then hb h4 h4.size⟩
theorem RwsO.rowsM {w1 wr : World} {X : Option Addr} {n c : Nat} {l : List RowP} (h : RwsO w1 wr X n c l) : ∃ RA RC, RowsM wr X l RA RC := by
 obtain ⟨RA, RC, h1, h2, h3, -⟩ := h
 have hc := own_cap h2
 subst h1
 exact ⟨RA, RC, own_rwsK h2, fun j hj => (h3 j hj).rowM, by have := hc.1; have := hc.2; unfold maxLen at *; omega⟩
theorem RwsO.push {w1 wr w' : World} {X X' A : Option Addr} {n c c' d : Nat} {l : List RowP} {r : RowP} {RA : Nat -> Option Addr} {RC : Nat -> Nat} (h1 : l.length = n) (h2 : wr.ownsRow w1.heap.size 51 2 (.slice X n c) n (rowsC 2 n (rowV l RA RC))) (h3 : ∀ j, j < l.length -> RowS wr (rA l j) (RA j) (RC j)) (h4 : Below w1.heap.size w1 wr) (hr : RowS wr r A d)
  (ho : w'.ownsRow w1.heap.size 51 2 (.slice X' (n + 1) c') (n + 1) (rowsC 2 n (rowV l RA RC) ++ rwL r A d)) (hg : wr.grownBy w' (Value.slice X n c).ownBlock) : RwsO w1 w' X' (n + 1) c' (l ++ [r]) := by
 subst h1
 have hk : ∀ {q : RowP} {Q : Option Addr} {e : Nat}, RowS wr q Q e -> RowS w' q Q e := fun hq => ⟨hq.vals.keep fun g cs f hh => grown_type h2 hg hh (by decide), hq.len, hq.size, hq.tag⟩
 refine ⟨kndA RA l.length A, kndN RC l.length d, by simp, by rw [<- rwL_rows]; exact ho, fun j hj => ?_, h4.grown hg h4.size (fun j hj => (h2.lt j hj).1)⟩
 rw [rA_snoc]
 unfold kndA kndN
 by_cases hj2 : j = l.length
 ·rw [if_pos hj2, if_pos hj2, if_pos hj2]
  exact hk hr
 ·rw [if_neg hj2, if_neg hj2, if_neg hj2]
  have hjl : j < l.length := by simp at hj; omega
  exact hk (h3 j hjl)
theorem own_rowS {w : World} {B : Nat} {A : Option Addr} {c : Nat} {r : RowP} (h : w.ownsRow B 9 1 (.slice A r.vals.length c) r.vals.length (ystrV r.vals)) (hs : ∀ s ∈ r.vals, s.size <= 9223372036854775807) (ht : r.tag.size <= 9223372036854775807) : RowS w r A c := by
 have hc := own_cap h
 refine ⟨fun hn => ?_, ⟨hc.1, by have := hc.2; unfold maxLen at this; omega⟩, hs, ht⟩
 obtain ⟨g, e, h2, -, -⟩ := yown_sts h hn
 subst e
 exact h2 hn
theorem Tryz.infoRow : (Tryz.prog.info? 51).map (fun i => (i.zero, i.size, i.bytes)) = some (some (.agg #[.string ⟨#[]⟩, .slice none 0 0]), 2, 40) := by kernel_rfl
theorem kat_at {f : Fmt} {t : ByteArray} (h : ¬ katI f t < 0) : ∃ k, k < f.kinds.length /\ katI f t = (k : Int) /\ katK f t = kA f.kinds k /\ (kA f.kinds k).tag = t := by
 rcases ixF_spec (tagIs t) f.kinds with ⟨e, -⟩ | ⟨k, hk, e, hit, -⟩
 ·exact absurd (show katI f t < 0 by unfold katI; rw [e]; decide) h
 ·have e' : katI f t = (k : Int) := e
  unfold tagIs at hit
  rw [kA_get hk] at hit
  refine ⟨k, hk, e', ?_, of_decide_eq_true hit⟩
  unfold katK
  rw [if_neg h, e', Int.toNat_natCast]
def lastB (f : Fmt) (rs : List RowP) : Bool := decide (0 < rs.length) && decide ((rA rs (rs.length - 1)).tag = f.tail)
theorem rA_take {rs : List RowP} {n j : Nat} (h : j < n) : rA (rs.take n) j = rA rs j := by
 unfold rA
 rw [List.getD_eq_getElem?_getD, List.getD_eq_getElem?_getD, List.getElem?_take, if_pos h]
def underB (f : Fmt) (over : ByteArray) : Nat -> ByteArray -> Bool
 | 0, _ => false
 | n + 1, t => if katI f t < 0 ∨ (katK f t).under = ⟨#[]⟩ then false else if (katK f t).under = over then true else underB f over n (katK f t).under
def undB (f : Fmt) (t over : ByteArray) : Bool := underB f over f.kinds.length t
def overI (f : Fmt) (rs : List RowP) (tag : ByteArray) : Nat -> Int
 | 0 => -1
 | k + 1 => if (rA rs k).tag = tag then (k : Int) else if undB f (rA rs k).tag tag = false then -1 else overI f rs tag k
def manyN (rs : List RowP) (tag : ByteArray) (fr : Nat) : Nat -> Nat
 | 0 => 0
 | n + 1 => manyN rs tag fr n + (if (rA rs (fr + n)).tag = tag then 1 else 0)
def fromI (f : Fmt) (rs : List RowP) (i : Nat) : Int := if (katK f (rA rs i).tag).under = ⟨#[]⟩ then 0 else overI f rs (katK f (rA rs i).tag).under i
def rowO (f : Fmt) (rs : List RowP) (i : Nat) : Int :=
 if f.head ≠ ⟨#[]⟩ /\ (decide ((rA rs i).tag = f.head) ≠ decide (i = 0)) then 8
 else if f.tail ≠ ⟨#[]⟩ /\ (rA rs i).tag = f.tail /\ i ≠ rs.length - 1 then 8
 else if fromI f rs i < 0 then 8
 else if (katK f (rA rs i).tag).most = 0 then 0
 else if (katK f (rA rs i).tag).most < (manyN rs (rA rs i).tag (fromI f rs i).toNat (i + 1 - (fromI f rs i).toNat) : Int) then 2
 else 0
noncomputable def ordR (f : Fmt) (rs : List RowP) : Int × Int :=
 if (rowsF f rs).2 ≠ 0 then rowsF f rs
 else if (frF (rowO f rs) rs.length).2 ≠ 0 then frF (rowO f rs) rs.length
 else if f.tail ≠ ⟨#[]⟩ /\ lastB f rs = false then ((rs.length : Int), 8)
 else (0, 0)
noncomputable def ordF (f : Fmt) (rs : List RowP) : Int × Int := if checkF f ≠ 0 then (0, checkF f) else ordR f rs
theorem cmpV_text {nb : Bool} {a b : ByteArray} (h : nb = false ∨ a = ⟨#[]⟩ ∨ b = ⟨#[]⟩) : cmpV nb a b = Lib.compareBytes a.data.toList b.data.toList := if_pos h
theorem cmpV_num {a b : ByteArray} (ha : a ≠ ⟨#[]⟩) (hb : b ≠ ⟨#[]⟩) : cmpV true a b = (sclV a - sclV b).sign := if_neg (by rintro (k | k | k); cases k; exact ha k; exact hb k)
set_option maxHeartbeats 4000000 in
set_option maxRecDepth 100000 in
theorem cmpval_c (nb : Bool) (a b : ByteArray) (w : World) (za : a.size <= 9223372036854775807) (zb : b.size <= 9223372036854775807) :
  Calls Tryz.prog 20 #[.string a, .string b, .bool nb] w fun e w' => e = .returned (.int .i64 (cmpV nb a b)) /\ Below w.heap.size w w' := by
 have ea := emp_dec a
 have eb := emp_dec b
 by_cases ht : nb = false ∨ a = ⟨#[]⟩ ∨ b = ⟨#[]⟩
 ·have HC := Lib.hid (fun w => Tryz.strings_Compare a b w)
  rw [cmpV_text ht]
  generalize Lib.compareBytes a.data.toList b.data.toList = R at HC ⊢
  cases nb with
  | false =>
   clear ht
   go_enter Tryz.func20, Tryz.ntmps20
   go_wp2_with fail
   refine (HC.out _).mono ?_
   rintro _ w2 ⟨rfl, rfl⟩
   go_wp2
   go_ret
   exact ⟨rfl, Below.refl _ _⟩
  | true =>
   by_cases h1 : a = ⟨#[]⟩
   ·rw [decide_eq_true h1] at ea
    clear ht h1
    go_enter Tryz.func20, Tryz.ntmps20
    go_wp2_with fail
    refine (HC.out _).mono ?_
    rintro _ w2 ⟨rfl, rfl⟩
    go_wp2
    go_ret
    exact ⟨rfl, Below.refl _ _⟩
   ·have h2 : b = ⟨#[]⟩ := by
     rcases ht with h | h | h
     ·cases h
     ·exact absurd h h1
     ·exact h
    rw [decide_eq_false h1] at ea
    rw [decide_eq_true h2] at eb
    clear ht h1 h2
    go_enter Tryz.func20, Tryz.ntmps20
    go_wp2_with fail
    refine (HC.out _).mono ?_
    rintro _ w2 ⟨rfl, rfl⟩
    go_wp2
    go_ret
    exact ⟨rfl, Below.refl _ _⟩
 ·have hn : nb = true := by cases nb with | true => rfl | false => exact absurd (.inl rfl) ht
  subst hn
  have h1 : a ≠ ⟨#[]⟩ := fun h => ht (.inr (.inl h))
  have h2 : b ≠ ⟨#[]⟩ := fun h => ht (.inr (.inr h))
  rw [cmpV_num h1 h2]
  rw [decide_eq_false h1] at ea
  rw [decide_eq_false h2] at eb
  have HRA := Lib.hid (fun w => readtext_c a w za); have HRB := Lib.hid (fun w => readtext_c b w zb)
  have da := readText_dec2 a.data.toList
  have db := readText_dec2 b.data.toList
  unfold sclV
  obtain ⟨⟨u1, p1, e1⟩, hr1⟩ : ∃ x, readText a.data.toList = x := ⟨_, rfl⟩
  obtain ⟨⟨u2, p2, e2⟩, hr2⟩ : ∃ x, readText b.data.toList = x := ⟨_, rfl⟩
  rw [hr1] at HRA da ⊢
  rw [hr2] at HRB db ⊢
  unfold RetD at HRA HRB
  simp only at HRA HRB da db ⊢
  have hs1 := scl_bd da; have hs2 := scl_bd db
  have S1 := Lib.hid (show Small (scaled u1 p1 9) from small_of_le (by omega) (by omega)); have S2 := Lib.hid (show Small (scaled u2 p2 9) from small_of_le (by omega) (by omega))
  have HV1 := Lib.hid (fun w => value_c u1 p1 w da); have HV2 := Lib.hid (fun w => value_c u2 p2 w db)
  obtain ⟨Z1, hZ1⟩ : ∃ x, scaled u1 p1 9 = x := ⟨_, rfl⟩
  obtain ⟨Z2, hZ2⟩ : ∃ x, scaled u2 p2 9 = x := ⟨_, rfl⟩
  rw [hZ1] at S1 HV1 ⊢
  rw [hZ2] at S2 HV2 ⊢
  clear hr1 hr2 hs1 hs2 ht h1 h2 hZ1 hZ2 da db za zb
  go_enter Tryz.func20, Tryz.ntmps20
  go_wp2_with fail
  refine (HRA.out _).mono ?_
  rintro _ w2 ⟨rfl, hb2⟩
  have HD2 := Lib.hid (heap_new w2 (.cells #[.int .i64 u1, .int .i64 p1] 106) rfl)
  have HB2 : Hid (Below w.heap.size w (w2.alloc (.cells #[.int .i64 u1, .int .i64 p1] 106))) := Lib.hid (hb2.alloc hb2.size _)
  clear hb2
  go_upto_region 4 with fail
  obtain ⟨D1, hD1⟩ : ∃ x, w2.heap.size = x := ⟨_, rfl⟩
  rw [hD1] at HD2
  try rw [hD1]
  generalize w2.alloc (.cells #[.int .i64 u1, .int .i64 p1] 106) = w3 at HD2 HB2 ⊢
  clear hD1
  go_wp2_with fail
  refine (HRB.out _).mono ?_
  rintro _ w4 ⟨rfl, hb4⟩
  have HD4 := Lib.hid (heap_old (heap_below HD2.out hb4) (.cells #[.int .i64 u2, .int .i64 p2] 106))
  have HE4 := Lib.hid (heap_new w4 (.cells #[.int .i64 u2, .int .i64 p2] 106) rfl)
  have hB4 := below_then hb4 HB2.out HB2.out.size
  have HB4 : Hid (Below w.heap.size w (w4.alloc (.cells #[.int .i64 u2, .int .i64 p2] 106))) := Lib.hid (hB4.alloc hB4.size _)
  clear hb4 hB4 HD2 HB2
  go_upto_region 5 with fail
  obtain ⟨D2, hD2⟩ : ∃ x, w4.heap.size = x := ⟨_, rfl⟩
  rw [hD2] at HE4
  try rw [hD2]
  generalize w4.alloc (.cells #[.int .i64 u2, .int .i64 p2] 106) = w5 at HD4 HE4 HB4 ⊢
  clear hD2
  obtain ⟨a0, a1, -, -, a2⟩ := box2 HD4.out
  obtain ⟨b0, b1, -, -, b2⟩ := box2 HE4.out
  have HSB := Lib.hid (show ∀ wx, Below w5.heap.size w5 wx -> (fun w' : World => w'.cell? ⟨D1, 0, none⟩ = some (.int .i64 u1) /\ w'.cell? ⟨D1, 1, none⟩ = some (.int .i64 p1) /\ w'.cell? ⟨D2, 0, none⟩ = some (.int .i64 u2) /\ w'.cell? ⟨D2, 1, none⟩ = some (.int .i64 p2)) wx from fun wx h => by
   obtain ⟨a0, a1, -, -, -⟩ := box2 (heap_below HD4.out h)
   obtain ⟨b0, b1, -, -, -⟩ := box2 (heap_below HE4.out h)
   exact ⟨a0, a1, b0, b1⟩)
  clear a0 a1 a2 b0 b1 b2
  go_wp2_with fail
  go_region_held3 (fun w' : World => w'.cell? ⟨D1, 0, none⟩ = some (.int .i64 u1) /\ w'.cell? ⟨D1, 1, none⟩ = some (.int .i64 p1) /\ w'.cell? ⟨D2, 0, none⟩ = some (.int .i64 u2) /\ w'.cell? ⟨D2, 1, none⟩ = some (.int .i64 p2))
   (first | (with_reducible exact HSB.out _ T3) | (with_reducible exact HSB.out _ T2) | (with_reducible exact HSB.out _ T1) | (refine HSB.out _ ?_; go_grown))
   (first
    | (go_at_call 55; first
      | (refine (HV1.out _).mono ?_; rintro _ wa ⟨sa, Aa, na, ca, rfl, hva, hba⟩; (have T1 : Below w5.heap.size w5 wa := by exact ⟨hba.os, hba.tape, hba.output, hba.size, hba.block⟩))
      | (refine (HV2.out _).mono ?_; rintro _ wb ⟨sb, Ab, nb, cb, rfl, hvb, hbb⟩; (have T2 : Below w5.heap.size w5 wb := below_then hbb T1 T1.size); have hva2 := hva.below hbb))
    | (go_at_call 56; refine (compareI_c _ hva2 hvb S1.out S2.out).mono ?_; rintro _ wc ⟨rfl, hbc⟩; (have T3 : Below w5.heap.size w5 wc := below_then hbc T2 T2.size)))
  have hB := below_then T3 HB4.out HB4.out.size
  go_wp2
  go_ret
  exact ⟨rfl, hB⟩
end Go.Proofs.YtbnjejenejoibaaGreatDoor
