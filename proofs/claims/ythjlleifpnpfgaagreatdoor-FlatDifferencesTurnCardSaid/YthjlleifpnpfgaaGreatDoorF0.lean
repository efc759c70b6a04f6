/- The walks of package whole: Plus and what stands on it. Formats of flat files, plain: columns, kinds, what is wrong with them. -/
import Derived.Test.YthjlleifpnpfgaaGreatDoorU2
import Derived.Deep.RegionHeld3
import Derived.Test.YthjlleifpnpfgaaGreatDoorHB
-- merged: W4 F0
namespace Go.Proofs.YthjlleifpnpfgaaGreatDoor
open Go.RowKit Limb
theorem plus_same {s : Bool} {x y : Nat} : sg s (x + y) = sg s x + sg s y := by unfold sg; split <;> omega
theorem Row.slice {E : TypeId} {B : Nat} {w : World} {v : Value} {os : List Nat} (h : Row E B w v os) : ∃ A c, v = .slice A os.length c := own_slice h
theorem sg_less {s t : Bool} {x y : Nat} (h : s ≠ t) (hle : y <= x) : sg s (x - y) = sg s x + sg t y := by cases s <;> cases t <;> simp_all [sg] <;> omega
theorem sg_less' {s t : Bool} {x y : Nat} (h : s ≠ t) (hle : x <= y) : sg t (y - x) = sg s x + sg t y := by cases s <;> cases t <;> simp_all [sg] <;> omega
theorem len_of_val {b : Nat} (hb : 1 < b) {l m : List Nat} (gl : Digs b l) (nm : Norm m) (h : val b m <= val b l) : m.length <= l.length := by
 rcases Nat.lt_or_ge l.length m.length with k | k
 ·have := val_lt_of_len hb gl nm k; omega
 ·exact k
set_option maxHeartbeats 4000000 in
set_option maxRecDepth 100000 in
theorem plus_c (w : World) {s t : Bool} {A B : Option Addr} {n c k d : Nat} {x y : Int} (ha : Big .u32 189 B32 w s A n c x) (hb : Big .u32 189 B32 w t B k d y) (sx : Small x) (sy : Small y) :
  Calls Tryz.prog 157 #[.agg #[.bool s, .slice A n c], .agg #[.bool t, .slice B k d]] w (Makes .u32 189 B32 w (x + y)) := by
 obtain ⟨l, hd, hnc, hcm, gl, nl, sl, hx⟩ := ha
 obtain ⟨m, he, hkd, hdm, gm, nm, sm, hy⟩ := hb
 have hn : n <= 1000 := by rw [<- hd.1]; rw [hx] at sx; have := small_len32 nl sx; omega
 have hk : k <= 1000 := by rw [<- he.1]; rw [hy] at sy; have := small_len32 nm sy; omega
 have HX := Lib.hid hx; have HY := Lib.hid hy; clear hx hy
 have HL := Lib.hid hd.1; have HM := Lib.hid he.1
 clear sx sy
 by_cases hst : s = t
 ·subst hst
  have hs : (s == s) = true := by simp
  go_enter Tryz.func157, Tryz.ntmps157
  go_wp2_with fail
  generalize hw : ((w.alloc (.cells #[.bool s, .slice A n c] 123)).alloc (.cells #[.bool s, .slice B k d] 123)).alloc (.cells #[.bool false, .slice none 0 0] 123) = w3
  have hB1 : w3.heap[w.heap.size]? = some (.cells #[.bool s, .slice A n c] 123 (0, 0)) := by rw [<- hw]; exact heap_old (heap_old (heap_new _ _ rfl) _) _
  have hB2 : w3.heap[w.heap.size + 1]? = some (.cells #[.bool s, .slice B k d] 123 (0, 0)) := by rw [<- hw]; exact heap_old (heap_new _ _ (by simp)) _
  have hB3 : w3.heap[w.heap.size + 1 + 1]? = some (.cells #[.bool false, .slice none 0 0] 123 (0, 0)) := by rw [<- hw]; exact heap_new _ _ (by simp)
  have hbel : Below w.heap.size w w3 := by rw [<- hw]; go_grown
  have hd3 : Dig w3 .u32 189 A n l := by rw [<- hw]; exact ((hd.alloc _).alloc _).alloc _
  have he3 : Dig w3 .u32 189 B k m := by rw [<- hw]; exact ((he.alloc _).alloc _).alloc _
  clear hw hd he
  obtain ⟨c10, c11, f10, f11, z1⟩ := box2 hB1
  obtain ⟨c20, c21, f20, f21, z2⟩ := box2 hB2
  obtain ⟨c30, c31, f30, f31, z3⟩ := box2 hB3
  go_region_held3 (fun w' => w'.cell? ⟨w.heap.size, 0, none⟩ = some (.bool s) /\ w'.cell? ⟨w.heap.size, 1, none⟩ = some (.slice A n c) /\ w'.cell? ⟨w.heap.size + 1, 1, none⟩ = some (.slice B k d)) (first | (go_keep; done) | (refine ⟨cell_past2 r10 ?_, cell_past2 r11 ?_, cell_past2 r21 ?_⟩ <;> omega))
   (first
    | (go_at_call 206; refine (sum_c l m A B n c k d _ hd3.drew he3.drew gl gm hn hk).mono ?_; rintro e w4 ⟨v, os, rfl, hrow, _, _, gos, hval, hb4⟩; (have HV := Lib.hid hval); clear hval; obtain ⟨A1, d1, rfl⟩ := hrow.slice; (have q1 := box2 (heap_below (w := w3.drew) hB1 hb4)); (have q2 := box2 (heap_below (w := w3.drew) hB2 hb4)); obtain ⟨r10, r11, -, -, -⟩ := q1; obtain ⟨r20, r21, -, -, -⟩ := q2)
    | (go_at_call 205; refine (made_c os s A1 os.length d1 _ (Dig.of_own hrow) (own_cap hrow).1 (own_cap hrow).2 gos).mono ?_; rintro e w5 ⟨s5, A5, n5, c5, rfl, hv5, hb5⟩; (have hB5 := heap_below (heap_below (w := w3.drew) hB3 hb4) hb5); obtain ⟨g0, g1, g2, g3, g4⟩ := box2 hB5; (have q1 := box2 (heap_below (heap_below (w := w3.drew) hB1 hb4) hb5)); (have q2 := box2 (heap_below (heap_below (w := w3.drew) hB2 hb4) hb5)); obtain ⟨r10, r11, -, -, -⟩ := q1; obtain ⟨r20, r21, -, -, -⟩ := q2))
  go_wp2
  refine bodyPost_ret (v := .agg #[.bool s5, .slice A5 n5 c5]) (by simp [results, Tryz.results157, go_sem, g0, g1]) rfl ⟨s5, A5, n5, c5, rfl, ?_, ?_⟩
  ·have e : sg s (val B32 os) = x + y := by have hx := HX.out; have hy := HY.out; have hv := HV.out; rw [hv, hx, hy, plus_same]
   rw [e] at hv5
   exact hv5.box2 hB5 (by decide) _ _
  ·go_grown
   exact below_then hb5 (below_then hb4 (w := w) (B := w.heap.size) (hbel.drew) (by simp; omega)) (by have := hb4.size; simp at this; omega)
 ·have hs : (s == t) = false := by simp [hst]
  go_enter Tryz.func157, Tryz.ntmps157
  go_wp2_with fail
  generalize hw : ((w.alloc (.cells #[.bool s, .slice A n c] 123)).alloc (.cells #[.bool t, .slice B k d] 123)).alloc (.cells #[.bool false, .slice none 0 0] 123) = w3
  have hB1 : w3.heap[w.heap.size]? = some (.cells #[.bool s, .slice A n c] 123 (0, 0)) := by rw [<- hw]; exact heap_old (heap_old (heap_new _ _ rfl) _) _
  have hB2 : w3.heap[w.heap.size + 1]? = some (.cells #[.bool t, .slice B k d] 123 (0, 0)) := by rw [<- hw]; exact heap_old (heap_new _ _ (by simp)) _
  have hB3 : w3.heap[w.heap.size + 1 + 1]? = some (.cells #[.bool false, .slice none 0 0] 123 (0, 0)) := by rw [<- hw]; exact heap_new _ _ (by simp)
  have hbel : Below w.heap.size w w3 := by rw [<- hw]; go_grown
  have hd3 : Dig w3 .u32 189 A n l := by rw [<- hw]; exact ((hd.alloc _).alloc _).alloc _
  have he3 : Dig w3 .u32 189 B k m := by rw [<- hw]; exact ((he.alloc _).alloc _).alloc _
  clear hw hd he
  obtain ⟨c10, c11, f10, f11, z1⟩ := box2 hB1
  obtain ⟨c20, c21, f20, f21, z2⟩ := box2 hB2
  obtain ⟨c30, c31, f30, f31, z3⟩ := box2 hB3
  refine (compare_c l m A B n c k d _ hd3 hnc hcm he3 hkd hdm gl gm nl nm).mono ?_
  rintro e w4 ⟨r, rfl, hr, q, rfl⟩
  rcases Nat.lt_or_ge (val B32 l) (val B32 m) with hlt | hge
  ·have hr0 : r < 0 := hr.1.2 hlt
   have hkn : n <= k := by have := len_of_val (b := B32) (by decide) gm nl (by omega : val B32 l <= val B32 m); rw [HL.out, HM.out] at this; exact this
   clear hr
   have HLT := Lib.hid hlt; clear hlt
   go_wp2_with fail
   go_region_held3 (fun w' => w'.cell? ⟨w.heap.size + 1, 0, none⟩ = some (.bool t) /\ w'.cell? ⟨w.heap.size, 1, none⟩ = some (.slice A n c) /\ w'.cell? ⟨w.heap.size + 1, 1, none⟩ = some (.slice B k d)) (first | (go_keep; done) | (refine ⟨cell_past2 r20 ?_, cell_past2 r11 ?_, cell_past2 r21 ?_⟩ <;> omega))
    (first
     | (go_at_call 208; refine (less_c m l B A k d n c _ (by exact he3) (by exact hd3) gm gl (by omega) hkn (Nat.le_of_lt HLT.out)).mono ?_; rintro e w4 ⟨v, os, rfl, hrow, gos, _, hval, hb4⟩; (have HV := Lib.hid hval); clear hval; obtain ⟨A1, d1, rfl⟩ := hrow.slice; (have q1 := box2 (heap_below (w := (w3.drewN q).drew) hB1 hb4)); (have q2 := box2 (heap_below (w := (w3.drewN q).drew) hB2 hb4)); obtain ⟨r10, r11, -, -, -⟩ := q1; obtain ⟨r20, r21, -, -, -⟩ := q2)
     | (go_at_call 205; refine (made_c os t A1 os.length d1 _ (Dig.of_own hrow) (own_cap hrow).1 (own_cap hrow).2 gos).mono ?_; rintro e w5 ⟨s5, A5, n5, c5, rfl, hv5, hb5⟩; (have hB5 := heap_below (heap_below (w := (w3.drewN q).drew) hB3 hb4) hb5); obtain ⟨g0, g1, g2, g3, g4⟩ := box2 hB5; (have q1 := box2 (heap_below (heap_below (w := (w3.drewN q).drew) hB1 hb4) hb5)); (have q2 := box2 (heap_below (heap_below (w := (w3.drewN q).drew) hB2 hb4) hb5)); obtain ⟨r10, r11, -, -, -⟩ := q1; obtain ⟨r20, r21, -, -, -⟩ := q2))
   go_wp2
   refine bodyPost_ret (v := .agg #[.bool s5, .slice A5 n5 c5]) (by simp [results, Tryz.results157, go_sem, g0, g1]) rfl ⟨s5, A5, n5, c5, rfl, ?_, ?_⟩
   ·have e : sg t (val B32 os) = x + y := by have hx := HX.out; have hy := HY.out; have hv := HV.out; rw [hv, hx, hy]; exact sg_less' hst (Nat.le_of_lt HLT.out)
    rw [e] at hv5
    exact hv5.box2 hB5 (by decide) _ _
   ·go_grown
    exact below_then hb5 (below_then hb4 (w := w) (B := w.heap.size) ((below_drewN hbel q).drew) (by simp; omega)) (by have := hb4.size; simp at this; omega)
  ·have hr0 : 0 ≤ r := by have h := hr.1; have h2 : ¬ r < 0 := fun h3 => by have := h.1 h3; omega
                          omega
   have hkn : k <= n := by have := len_of_val (b := B32) (by decide) gl nm hge; rw [HL.out, HM.out] at this; exact this
   clear hr
   have HLT := Lib.hid hge; clear hge
   go_wp2_with fail
   go_region_held3 (fun w' => w'.cell? ⟨w.heap.size, 0, none⟩ = some (.bool s) /\ w'.cell? ⟨w.heap.size, 1, none⟩ = some (.slice A n c) /\ w'.cell? ⟨w.heap.size + 1, 1, none⟩ = some (.slice B k d)) (first | (go_keep; done) | (refine ⟨cell_past2 r10 ?_, cell_past2 r11 ?_, cell_past2 r21 ?_⟩ <;> omega))
    (first
     | (go_at_call 208; refine (less_c l m A B n c k d _ (by exact hd3) (by exact he3) gl gm (by omega) hkn HLT.out).mono ?_; rintro e w4 ⟨v, os, rfl, hrow, gos, _, hval, hb4⟩; (have HV := Lib.hid hval); clear hval; obtain ⟨A1, d1, rfl⟩ := hrow.slice; (have q1 := box2 (heap_below (w := (w3.drewN q).drew) hB1 hb4)); (have q2 := box2 (heap_below (w := (w3.drewN q).drew) hB2 hb4)); obtain ⟨r10, r11, -, -, -⟩ := q1; obtain ⟨r20, r21, -, -, -⟩ := q2)
     | (go_at_call 205; refine (made_c os s A1 os.length d1 _ (Dig.of_own hrow) (own_cap hrow).1 (own_cap hrow).2 gos).mono ?_; rintro e w5 ⟨s5, A5, n5, c5, rfl, hv5, hb5⟩; (have hB5 := heap_below (heap_below (w := (w3.drewN q).drew) hB3 hb4) hb5); obtain ⟨g0, g1, g2, g3, g4⟩ := box2 hB5; (have q1 := box2 (heap_below (heap_below (w := (w3.drewN q).drew) hB1 hb4) hb5)); (have q2 := box2 (heap_below (heap_below (w := (w3.drewN q).drew) hB2 hb4) hb5)); obtain ⟨r10, r11, -, -, -⟩ := q1; obtain ⟨r20, r21, -, -, -⟩ := q2))
   go_wp2
   refine bodyPost_ret (v := .agg #[.bool s5, .slice A5 n5 c5]) (by simp [results, Tryz.results157, go_sem, g0, g1]) rfl ⟨s5, A5, n5, c5, rfl, ?_, ?_⟩
   ·have e : sg s (val B32 os) = x + y := by have hx := HX.out; have hy := HY.out; have hv := HV.out; rw [hv, hx, hy]; exact sg_less hst HLT.out
    rw [e] at hv5
    exact hv5.box2 hB5 (by decide) _ _
   ·go_grown
    exact below_then hb5 (below_then hb4 (w := w) (B := w.heap.size) ((below_drewN hbel q).drew) (by simp; omega)) (by have := hb4.size; simp at this; omega)
end Go.Proofs.YthjlleifpnpfgaaGreatDoor
namespace Go.Proofs.YthjlleifpnpfgaaGreatDoor
open Nmb
set_option linter.unusedVariables false
structure Col where
 name : ByteArray
 kind : Int
 width : Int
 places : Int
 form : Int
 right : Bool
 fill : Int
 need : Bool
 deriving DecidableEq
structure RKd where
 tag : ByteArray
 fields : List Col
 most : Int
 under : ByteArray
 deriving DecidableEq
structure Fmt where
 mark : Int
 quote : Int
 kinds : List RKd
 head : ByteArray
 tail : ByteArray
 count : ByteArray
 sum : ByteArray
 deriving DecidableEq
def col0 : Col := ⟨⟨#[]⟩, 0, 0, 0, 0, false, 0, false⟩
def kind0 : RKd := ⟨⟨#[]⟩, [], 0, ⟨#[]⟩⟩
def cA (cs : List Col) (j : Nat) : Col := cs.getD j col0
def kA (ks : List RKd) (j : Nat) : RKd := ks.getD j kind0
theorem cA_get {cs : List Col} {j : Nat} (h : j < cs.length) : cs[j] = cA cs j := by simp [cA, List.getD_eq_getElem?_getD, h]
theorem kA_get {ks : List RKd} {j : Nat} (h : j < ks.length) : ks[j] = kA ks j := by simp [kA, List.getD_eq_getElem?_getD, h]
def ixF {α : Type} (q : α -> Bool) : List α -> Int
 | [] => -1
 | x :: l => if q x = true then 0 else if ixF q l < 0 then -1 else ixF q l + 1
theorem ixF_hit {α : Type} {q : α -> Bool} : ∀ {l : List α} {k : Nat} (hk : k < l.length), q l[k] = true -> (∀ j (hj : j < l.length), j < k -> q l[j] = false) -> ixF q l = k
 | x :: l, 0, _, h, _ => by
  unfold ixF
  rw [if_pos (by simpa using h)]
  rfl
 | x :: l, k + 1, hk, h, hn => by
  have h0 := hn 0 (by simp) (by omega)
  have ih := ixF_hit (l := l) (k := k) (by simpa using hk) h (fun j hj hjk => hn (j + 1) (by simpa using hj) (by omega))
  unfold ixF
  rw [if_neg (by simp only [List.getElem_cons_zero] at h0; rw [h0]; decide), ih, if_neg (by omega)]
  omega
theorem ixF_no {α : Type} {q : α -> Bool} : ∀ {l : List α}, (∀ j (hj : j < l.length), q l[j] = false) -> ixF q l = -1
 | [], _ => rfl
 | x :: l, h => by
  have h0 := h 0 (by simp)
  have ih := ixF_no (l := l) (fun j hj => h (j + 1) (by simpa using hj))
  unfold ixF
  rw [if_neg (by simp only [List.getElem_cons_zero] at h0; rw [h0]; decide), ih, if_pos (by omega)]
theorem ixF_spec {α : Type} (q : α -> Bool) : ∀ l : List α, (ixF q l = -1 /\ ∀ j (hj : j < l.length), q l[j] = false) ∨ ∃ k, ∃ hk : k < l.length, ixF q l = (k : Int) /\ q l[k] = true /\ ∀ j (hj : j < l.length), j < k -> q l[j] = false
 | [] => .inl ⟨rfl, fun j hj => by simp at hj⟩
 | x :: l => by
  cases hx : q x with
  | true => exact .inr ⟨0, by simp, ixF_hit (by simp) hx (fun j _ h => absurd h (Nat.not_lt_zero _)), hx, fun j _ h => absurd h (Nat.not_lt_zero _)⟩
  | false =>
   rcases ixF_spec q l with ⟨h1, h2⟩ | ⟨k, hk, h1, h2, h3⟩
   ·have hn : ∀ j (hj : j < (x :: l).length), q (x :: l)[j] = false := fun j hj => by
     cases j with
     | zero => exact hx
     | succ j => exact h2 j (by simpa using hj)
    exact .inl ⟨ixF_no hn, hn⟩
   ·have hn : ∀ j (hj : j < (x :: l).length), j < k + 1 -> q (x :: l)[j] = false := fun j hj hjk => by
     cases j with
     | zero => exact hx
     | succ j => exact h3 j (by simpa using hj) (by omega)
    exact .inr ⟨k + 1, by simpa using hk, ixF_hit (by simpa using hk) h2 hn, h2, hn⟩
theorem ixF_any {α : Type} (q : α -> Bool) (l : List α) : decide (0 <= ixF q l) = l.any q := by
 rcases ixF_spec q l with ⟨h1, h2⟩ | ⟨k, hk, h1, h2, _⟩
 ·rw [h1, show l.any q = false from by
   rw [Bool.eq_false_iff]
   intro h
   obtain ⟨x, hx, h3⟩ := List.any_eq_true.1 h
   obtain ⟨j, hj, rfl⟩ := List.getElem_of_mem hx
   rw [h2 j hj] at h3
   cases h3]
  rfl
 ·rw [h1, show l.any q = true from List.any_eq_true.2 ⟨l[k], List.getElem_mem hk, h2⟩]
  exact decide_eq_true (by omega)
def markF (b : Int) : Bool := decide (b < 32) || decide (126 < b) || tagC b || decide (97 <= b /\ b <= 122) || decide (b = 45) || decide (b = 46)
def formW (form : Int) : Int := if form = 1 ∨ form = 3 then 8 else if form = 4 then 10 else if form = 5 then 7 else 0
def idleB (mark : Int) (c : Col) : Bool :=
 (decide (c.kind = 2) || decide (c.places = 0)) && (decide (c.kind = 3) || decide (c.form = 0)) && (!decide (c.kind = 3) && decide (mark = 0) || !c.right && decide (c.fill = 0))
def tagIs (t : ByteArray) (k : RKd) : Bool := decide (k.tag = t)
def nameIs (t : ByteArray) (c : Col) : Bool := decide (c.name = t)
def colF (mark : Int) (c : Col) (before : List Col) : Int :=
 if nameB c.name.data.toList = false then 5
 else if before.any (nameIs c.name) = true then 7
 else if ¬ (1 <= c.kind /\ c.kind <= 3) then 4
 else if ¬ (1 <= c.width /\ c.width <= 100) then 1
 else if c.kind = 2 /\ ¬ (0 <= c.places /\ c.places <= 9) then 1
 else if c.kind = 3 /\ formW c.form = 0 then 4
 else if idleB mark c = false then 3
 else if mark ≠ 0 then 0
 else if c.kind ≠ 3 /\ c.fill ≠ 32 /\ ¬ (c.kind = 2 /\ c.fill = 48 /\ c.right = true) then 3
 else if c.kind = 3 /\ c.width ≠ formW c.form then 12
 else 0
def fstF (f : Nat -> Int) : Nat -> Int
 | 0 => 0
 | n + 1 => if fstF f n = 0 then f n else fstF f n
theorem fstF_no {f : Nat -> Int} : ∀ {n : Nat}, (∀ j, j < n -> f j = 0) -> fstF f n = 0
 | 0, _ => rfl
 | n + 1, h => by
  unfold fstF
  rw [fstF_no (fun j hj => h j (by omega)), if_pos rfl, h n (by omega)]
theorem fstF_hit {f : Nat -> Int} : ∀ {n k : Nat}, k < n -> (∀ j, j < k -> f j = 0) -> f k ≠ 0 -> fstF f n = f k
 | n + 1, k, hk, h0, h1 => by
  unfold fstF
  rcases Nat.lt_or_ge k n with h | h
  ·rw [fstF_hit h h0 h1, if_neg h1]
  ·obtain rfl : k = n := by omega
   rw [fstF_no h0, if_pos rfl]
theorem fstF_zero {f : Nat -> Int} : ∀ {n : Nat}, fstF f n = 0 -> ∀ j, j < n -> f j = 0
 | 0, _, j, hj => absurd hj (Nat.not_lt_zero _)
 | n + 1, h, j, hj => by
  unfold fstF at h
  split at h
  ·rename_i h2
   rcases Nat.lt_or_ge j n with h3 | h3
   ·exact fstF_zero h2 j h3
   ·obtain rfl : j = n := by omega
    exact h
  ·rename_i h2; exact absurd h h2
def colsF (mark : Int) (cs : List Col) : Int := fstF (fun i => colF mark (cA cs i) (cs.take i)) cs.length
def kindF (mark : Int) (ks : List RKd) (i : Nat) : Int :=
 if ¬ (1 <= (kA ks i).tag.size /\ (kA ks i).tag.size <= 6) ∨ tagL (kA ks i).tag.data.toList = false then 3
 else if (ks.take i).any (tagIs (kA ks i).tag) = true then 7
 else if mark = 0 /\ (kA ks i).tag.size ≠ (kA ks 0).tag.size then 3
 else if 50 < (kA ks i).fields.length then 2
 else if colsF mark (kA ks i).fields ≠ 0 then colsF mark (kA ks i).fields
 else if ¬ (0 <= (kA ks i).most /\ (kA ks i).most <= 2000) then 1
 else if (kA ks i).under ≠ ⟨#[]⟩ /\ (ks.take i).any (tagIs (kA ks i).under) = false then 5
 else 0
def kndF (ks : List RKd) (t : ByteArray) : RKd := if ixF (tagIs t) ks < 0 then kind0 else kA ks (ixF (tagIs t) ks).toNat
def colN (k : RKd) (name : ByteArray) : Col := cA k.fields (ixF (nameIs name) k.fields).toNat
def tailF (ks : List RKd) (tail name : ByteArray) (places : Bool) : Bool :=
 decide (ixF (nameIs name) (kndF ks tail).fields < 0) || (decide ((colN (kndF ks tail) name).kind ≠ 2) || !places && decide ((colN (kndF ks tail) name).places ≠ 0))
def endsF (f : Fmt) : Int :=
 if f.head ≠ ⟨#[]⟩ /\ ixF (tagIs f.head) f.kinds < 0 then 5
 else if f.tail ≠ ⟨#[]⟩ /\ ixF (tagIs f.tail) f.kinds < 0 then 5
 else if f.head = f.tail /\ f.head ≠ ⟨#[]⟩ then 12
 else if f.tail = ⟨#[]⟩ /\ (f.count ≠ ⟨#[]⟩ ∨ f.sum ≠ ⟨#[]⟩) then 3
 else if f.count ≠ ⟨#[]⟩ /\ tailF f.kinds f.tail f.count false = true then 5
 else if f.sum ≠ ⟨#[]⟩ /\ tailF f.kinds f.tail f.sum true = true then 5
 else if f.count = f.sum /\ f.count ≠ ⟨#[]⟩ then 12
 else 0
def marksF (mark quote : Int) : Int :=
 if mark ≠ 0 /\ (markF mark = true ∨ quote ≠ 0 /\ markF quote = true ∨ mark = quote) then 12
 else if mark = 0 /\ quote ≠ 0 then 3
 else 0
def checkF (f : Fmt) : Int :=
 if marksF f.mark f.quote ≠ 0 then marksF f.mark f.quote
 else if f.kinds.length = 0 then 9
 else if 30 < f.kinds.length then 2
 else if fstF (kindF f.mark f.kinds) f.kinds.length ≠ 0 then fstF (kindF f.mark f.kinds) f.kinds.length
 else endsF f
end Go.Proofs.YthjlleifpnpfgaaGreatDoor
