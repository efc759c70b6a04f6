/- The walks of package whole: less. Formats of flat files, plain: columns, kinds, what is wrong with them. -/
import Derived.Test.YtbnjejenejoibaaGreatDoorW2
import Derived.WalkSmall
import Derived.Test.YtbnjejenejoibaaGreatDoorRH
import Derived.Test.YtbnjejenejoibaaGreatDoorS1
-- merged: W3 F0 U2
namespace Go.Proofs.YtbnjejenejoibaaGreatDoor
open Go.RowKit Limb
theorem u64w (x : Int) : IntKind.u64.wrap x = x % 18446744073709551616 := by simp [IntKind.wrap, IntKind.bits, IntKind.signed]
theorem sub_digit (p br q : Nat) (hbr : br <= 1) (hp : p < 4294967296) (hq : q < 4294967296) :
  IntKind.u64.wrap (IntKind.u64.wrap ((p : Int) - br) - q) % 4294967296 = ((dig B32 br p q : Nat) : Int) := by
 rw [u64w, u64w]; unfold dig B32; split <;> omega
theorem sub_borrow (p br q : Nat) (hbr : br <= 1) (hp : p < 4294967296) (hq : q < 4294967296) :
  bits BinOp.and IntKind.u64 (IntKind.u64.wrap (IntKind.u64.wrap ((p : Int) - br) - q) / 4294967296) 1 = ((bor br p q : Nat) : Int) := by
 have h : 0 <= IntKind.u64.wrap (IntKind.u64.wrap ((p : Int) - br) - q) /\ IntKind.u64.wrap (IntKind.u64.wrap ((p : Int) - br) - q) <= 18446744073709551615 := by rw [u64w]; omega
 rw [and_one_u64 _ (by omega) (by omega), u64w, u64w]
 unfold bor; split <;> omega
theorem sub_digit0 (p br : Nat) (hbr : br <= 1) (hp : p < 4294967296) : IntKind.u64.wrap ((p : Int) - br) % 4294967296 = ((dig B32 br p 0 : Nat) : Int) := by
 rw [u64w]; unfold dig B32; split <;> omega
theorem sub_borrow0 (p br : Nat) (hbr : br <= 1) (hp : p < 4294967296) : bits BinOp.and IntKind.u64 (IntKind.u64.wrap ((p : Int) - br) / 4294967296) 1 = ((bor br p 0 : Nat) : Int) := by
 have h : 0 <= IntKind.u64.wrap ((p : Int) - br) /\ IntKind.u64.wrap ((p : Int) - br) <= 18446744073709551615 := by rw [u64w]; omega
 rw [and_one_u64 _ (by omega) (by omega), u64w]
 unfold bor; split <;> omega
theorem less_rel {l m os : List Nat} {j br p q : Nat} (hos : os.length = j) (hval : val B32 (l.take j) + B32 ^ j * br = val B32 os + val B32 (m.take j)) (hp : p = dg l j) (hq : q = dg m j) (gos : Digs B32 os) (hbr : br <= 1) (b1 : p < 4294967296) (b2 : q < 4294967296) :
  (os ++ [dig B32 br p q]).length = j + 1 /\ Digs B32 (os ++ [dig B32 br p q]) /\ val B32 (l.take (j + 1)) + B32 ^ (j + 1) * bor br p q = val B32 (os ++ [dig B32 br p q]) + val B32 (m.take (j + 1)) := by
 subst hos
 refine ⟨by simp, gos.snoc (dig_lt hbr b1 b2), ?_⟩
 have h := diff_step hval hbr (b := B32) (p := p) (q := q) b1 b2
 rw [val_take_succ, val_take_succ]
 rw [hp, hq] at h ⊢
 exact h
set_option maxHeartbeats 1000000 in
set_option maxRecDepth 100000 in
theorem less_c (l m : List Nat) (A B : Option Addr) (n c k d : Nat) (w : World) (hd : Dig w .u32 196 A n l) (he : Dig w .u32 196 B k m)
  (gl : Digs B32 l) (gm : Digs B32 m) (hn : n <= 2000) (hkn : k <= n) (hle : val B32 m <= val B32 l) :
  Calls Tryz.prog 192 #[.slice A n c, .slice B k d] w fun e w' => ∃ v os, e = .returned v /\ Row 196 w.heap.size w' v os /\ Digs B32 os /\ Norm os /\ val B32 os = val B32 l - val B32 m /\ Below w.heap.size w w' := by
 have hll := hd.1
 have hml := he.1
 obtain ⟨i0, hi, hz0, hz1, hz2⟩ := info_parts Tryz.info196
 have HL := Lib.hid hle; clear hle
 go_enter Tryz.func192, Tryz.ntmps192
 go_wp2_with (first
   | (at_make; refine wpList_make_own _ rfl _ _ 109 rfl w.heap.size 196 i0 (.int .u32 0) 1 Tryz.underlying109 hi hz0 hz1 .i64 .i64 _ n rfl rfl (by omega) (by rw [hz2]; omega) (by unfold maxLen; omega) (Nat.le_refl _) ?_; intro w1 hown1 hg1))
 have hg0 : Below w.heap.size w w1 := (Below.refl _ _).grown hg1 (Nat.le_refl _) (fun _ h => by cases h)
 go_loopw [5, 6, 15] (fun v cv i wr => ∃ (j br : Nat) (os : List Nat), j <= n /\ i = .int .i64 j /\ cv = .int .u64 br /\ os.length = j /\ v = .slice (some ⟨w.heap.size, 0, none⟩) j n /\
   wr.ownsRow w.heap.size 196 1 (.slice (some ⟨w.heap.size, 0, none⟩) j n) j (digV .u32 os) /\ Digs B32 os /\ br <= 1 /\ val B32 (l.take j) + B32 ^ j * br = val B32 os + val B32 (m.take j) /\ Below w.heap.size w wr)
  (fun _ _ i _ => n - (intOf i).toNat)
 case atStart => exact ⟨0, 0, [], Nat.zero_le _, rfl, rfl, rfl, rfl, hown1, Digs.nil _, by omega, by simp [val], hg0⟩
 case round =>
  obtain ⟨j, br, os, hj, rfl, rfl, hos, rfl, hown, gos, hbr, hval, hbel⟩ := hrel
  have HV := Lib.hid hval; have HO := Lib.hid hos; clear hval hos
  rcases Nat.lt_or_ge j n with hjn | hjn
  ·obtain ⟨g, rfl, hg, hc1⟩ := hd.at_ (by omega)
   have hx := (hbel.cell (p := ⟨g, j, none⟩) hg).trans (hc1 j hjn)
   have b1 : dg l j < 4294967296 := dg_lt gl (by decide) j
   have b2 : dg m j < 4294967296 := dg_lt gm (by decide) j
   have hwr := hbel.size
   clear hc1
   rcases Nat.lt_or_ge j k with hjk | hjk
   ·obtain ⟨g', rfl, hg', hc2⟩ := he.at_ (by omega)
    have hy := (hbel.cell (p := ⟨g', j, none⟩) hg').trans (hc2 j hjk)
    clear hc2
    go_wp2_with (first
     | (at_builtin; refine wpList_push_fits rfl _ _ 109 rfl w.heap.size 196 i0 Tryz.underlying109 hi hz1 w.heap.size j n (digV .u32 os) rfl hown _ rfl rfl (by omega) ?_; intro w2 hown2 hg2))
    go_roundw
    case rel =>
     obtain ⟨r1, r2, r3⟩ := less_rel HO.out HV.out rfl rfl gos hbr b1 b2
     exact ⟨j + 1, bor br (dg l j) (dg m j), os ++ [dig B32 br (dg l j) (dg m j)], by omega, by go_num, congrArg _ (sub_borrow _ _ _ hbr b1 b2), r1, rfl,
      row_cast hown2 (sub_digit _ _ _ hbr b1 b2), r2, bor_le _ _ _, r3, hbel.grown hg2 hwr (by intro g h; injection h with h; omega)⟩
    case measure => simp [intOf]; omega
   ·go_wp2_with (first
     | (at_builtin; refine wpList_push_fits rfl _ _ 109 rfl w.heap.size 196 i0 Tryz.underlying109 hi hz1 w.heap.size j n (digV .u32 os) rfl hown _ rfl rfl (by omega) ?_; intro w2 hown2 hg2))
    go_roundw
    case rel =>
     obtain ⟨r1, r2, r3⟩ := less_rel (q := 0) HO.out HV.out rfl (dg_out (by omega)).symm gos hbr b1 (by omega)
     exact ⟨j + 1, bor br (dg l j) 0, os ++ [dig B32 br (dg l j) 0], by omega, by go_num, congrArg _ (sub_borrow0 _ _ hbr b1), r1, rfl,
      row_cast hown2 (sub_digit0 _ _ hbr b1), r2, bor_le _ _ _, r3, hbel.grown hg2 hwr (by intro g h; injection h with h; omega)⟩
    case measure => simp [intOf]; omega
  ·obtain rfl : j = n := by omega
   have hcap := (own_cap hown).2
   go_wp2_with fail
   refine (trimmed_c os _ j j _ (Dig.of_own hown) (Nat.le_refl _) hcap).mono ?_
   rintro e w' ⟨rfl, q, hq, ht, rfl⟩
   have HT := Lib.hid ht; clear ht
   go_wp2
   go_ret
   have hv := HV.out
   rw [List.take_of_length_le (by omega), List.take_of_length_le (by omega)] at hv
   have hlen : (trim os).length = q := by rw [HT.out, List.length_take, HO.out]; omega
   refine ⟨_, trim os, rfl, ?_, digs_trim gos, norm_trim os, ?_, hbel⟩
   ·unfold Row
    rw [hlen, HT.out]
    exact own_take hown hq
   ·rw [val_trim]
    have hO := HO.out
    rw [<- hO] at hv
    exact diff_end hv gos HL.out
end Go.Proofs.YtbnjejenejoibaaGreatDoor
namespace Go.Proofs.YtbnjejenejoibaaGreatDoor
open Nmb
set_option linter.unusedVariables false
structure Col where
 name : ByteArray
 kind : Int
 width : Int
 places : Int
 form : Int
 right : Bool
 fill : Int
 need : Bool
 deriving DecidableEq
structure RKd where
 tag : ByteArray
 fields : List Col
 most : Int
 under : ByteArray
 deriving DecidableEq
structure Fmt where
 mark : Int
 quote : Int
 kinds : List RKd
 head : ByteArray
 tail : ByteArray
 count : ByteArray
 sum : ByteArray
 deriving DecidableEq
def col0 : Col := ⟨⟨#[]⟩, 0, 0, 0, 0, false, 0, false⟩
def kind0 : RKd := ⟨⟨#[]⟩, [], 0, ⟨#[]⟩⟩
def cA (cs : List Col) (j : Nat) : Col := cs.getD j col0
def kA (ks : List RKd) (j : Nat) : RKd := ks.getD j kind0
theorem cA_get {cs : List Col} {j : Nat} (h : j < cs.length) : cs[j] = cA cs j := by simp [cA, List.getD_eq_getElem?_getD, h]
theorem kA_get {ks : List RKd} {j : Nat} (h : j < ks.length) : ks[j] = kA ks j := by simp [kA, List.getD_eq_getElem?_getD, h]
def ixF {α : Type} (q : α -> Bool) : List α -> Int
 | [] => -1
 | x :: l => if q x = true then 0 else if ixF q l < 0 then -1 else ixF q l + 1
theorem ixF_hit {α : Type} {q : α -> Bool} : ∀ {l : List α} {k : Nat} (hk : k < l.length), q l[k] = true -> (∀ j (hj : j < l.length), j < k -> q l[j] = false) -> ixF q l = k
 | x :: l, 0, _, h, _ => by
  unfold ixF
  rw [if_pos (by simpa using h)]
  rfl
 | x :: l, k + 1, hk, h, hn => by
  have h0 := hn 0 (by simp) (by omega)
  have ih := ixF_hit (l := l) (k := k) (by simpa using hk) h (fun j hj hjk => hn (j + 1) (by simpa using hj) (by omega))
  unfold ixF
  rw [if_neg (by simp only [List.getElem_cons_zero] at h0; rw [h0]; decide), ih, if_neg (by omega)]
  omega
theorem ixF_no {α : Type} {q : α -> Bool} : ∀ {l : List α}, (∀ j (hj : j < l.length), q l[j] = false) -> ixF q l = -1
 | [], _ => rfl
 | x :: l, h => by
  have h0 := h 0 (by simp)
  have ih := ixF_no (l := l) (fun j hj => h (j + 1) (by simpa using hj))
  unfold ixF
  rw [if_neg (by simp only [List.getElem_cons_zero] at h0; rw [h0]; decide), ih, if_pos (by omega)]
theorem ixF_spec {α : Type} (q : α -> Bool) : ∀ l : List α, (ixF q l = -1 /\ ∀ j (hj : j < l.length), q l[j] = false) ∨ ∃ k, ∃ hk : k < l.length, ixF q l = (k : Int) /\ q l[k] = true /\ ∀ j (hj : j < l.length), j < k -> q l[j] = false
 | [] => .inl ⟨rfl, fun j hj => by simp at hj⟩
 | x :: l => by
  cases hx : q x with
  | true => exact .inr ⟨0, by simp, ixF_hit (by simp) hx (fun j _ h => absurd h (Nat.not_lt_zero _)), hx, fun j _ h => absurd h (Nat.not_lt_zero _)⟩
  | false =>
   rcases ixF_spec q l with ⟨h1, h2⟩ | ⟨k, hk, h1, h2, h3⟩
   ·have hn : ∀ j (hj : j < (x :: l).length), q (x :: l)[j] = false := fun j hj => by
     cases j with
     | zero => exact hx
     | succ j => exact h2 j (by simpa using hj)
    exact .inl ⟨ixF_no hn, hn⟩
   ·have hn : ∀ j (hj : j < (x :: l).length), j < k + 1 -> q (x :: l)[j] = false := fun j hj hjk => by
     cases j with
     | zero => exact hx
     | succ j => exact h3 j (by simpa using hj) (by omega)
    exact .inr ⟨k + 1, by simpa using hk, ixF_hit (by simpa using hk) h2 hn, h2, hn⟩
theorem ixF_any {α : Type} (q : α -> Bool) (l : List α) : decide (0 <= ixF q l) = l.any q := by
 rcases ixF_spec q l with ⟨h1, h2⟩ | ⟨k, hk, h1, h2, _⟩
 ·rw [h1, show l.any q = false from by
   rw [Bool.eq_false_iff]
   intro h
   obtain ⟨x, hx, h3⟩ := List.any_eq_true.1 h
   obtain ⟨j, hj, rfl⟩ := List.getElem_of_mem hx
   rw [h2 j hj] at h3
   cases h3]
  rfl
 ·rw [h1, show l.any q = true from List.any_eq_true.2 ⟨l[k], List.getElem_mem hk, h2⟩]
  exact decide_eq_true (by omega)
def markF (b : Int) : Bool := decide (b < 32) || decide (126 < b) || tagC b || decide (97 <= b /\ b <= 122) || decide (b = 45) || decide (b = 46)
def formW (form : Int) : Int := if form = 1 ∨ form = 3 then 8 else if form = 4 then 10 else if form = 5 then 7 else 0
def idleB (mark : Int) (c : Col) : Bool :=
 (decide (c.kind = 2) || decide (c.places = 0)) && (decide (c.kind = 3) || decide (c.form = 0)) && (!decide (c.kind = 3) && decide (mark = 0) || !c.right && decide (c.fill = 0))
def tagIs (t : ByteArray) (k : RKd) : Bool := decide (k.tag = t)
def nameIs (t : ByteArray) (c : Col) : Bool := decide (c.name = t)
def colF (mark : Int) (c : Col) (before : List Col) : Int :=
 if nameB c.name.data.toList = false then 5
 else if before.any (nameIs c.name) = true then 7
 else if ¬ (1 <= c.kind /\ c.kind <= 3) then 4
 else if ¬ (1 <= c.width /\ c.width <= 100) then 1
 else if c.kind = 2 /\ ¬ (0 <= c.places /\ c.places <= 9) then 1
 else if c.kind = 3 /\ formW c.form = 0 then 4
 else if idleB mark c = false then 3
 else if mark ≠ 0 then 0
 else if c.kind ≠ 3 /\ c.fill ≠ 32 /\ ¬ (c.kind = 2 /\ c.fill = 48 /\ c.right = true) then 3
 else if c.kind = 3 /\ c.width ≠ formW c.form then 12
 else 0
def fstF (f : Nat -> Int) : Nat -> Int
 | 0 => 0
 | n + 1 => if fstF f n = 0 then f n else fstF f n
theorem fstF_no {f : Nat -> Int} : ∀ {n : Nat}, (∀ j, j < n -> f j = 0) -> fstF f n = 0
 | 0, _ => rfl
 | n + 1, h => by
  unfold fstF
  rw [fstF_no (fun j hj => h j (by omega)), if_pos rfl, h n (by omega)]
theorem fstF_hit {f : Nat -> Int} : ∀ {n k : Nat}, k < n -> (∀ j, j < k -> f j = 0) -> f k ≠ 0 -> fstF f n = f k
 | n + 1, k, hk, h0, h1 => by
  unfold fstF
  rcases Nat.lt_or_ge k n with h | h
  ·rw [fstF_hit h h0 h1, if_neg h1]
  ·obtain rfl : k = n := by omega
   rw [fstF_no h0, if_pos rfl]
theorem fstF_zero {f : Nat -> Int} : ∀ {n : Nat}, fstF f n = 0 -> ∀ j, j < n -> f j = 0
 | 0, _, j, hj => absurd hj (Nat.not_lt_zero _)
 | n + 1, h, j, hj => by
  unfold fstF at h
  split at h
  ·rename_i h2
   rcases Nat.lt_or_ge j n with h3 | h3
   ·exact fstF_zero h2 j h3
   ·obtain rfl : j = n := by omega
    exact h
  ·rename_i h2; exact absurd h h2
def colsF (mark : Int) (cs : List Col) : Int := fstF (fun i => colF mark (cA cs i) (cs.take i)) cs.length
def kindF (mark : Int) (ks : List RKd) (i : Nat) : Int :=
 if ¬ (1 <= (kA ks i).tag.size /\ (kA ks i).tag.size <= 6) ∨ tagL (kA ks i).tag.data.toList = false then 3
 else if (ks.take i).any (tagIs (kA ks i).tag) = true then 7
 else if mark = 0 /\ (kA ks i).tag.size ≠ (kA ks 0).tag.size then 3
 else if 50 < (kA ks i).fields.length then 2
 else if colsF mark (kA ks i).fields ≠ 0 then colsF mark (kA ks i).fields
 else if ¬ (0 <= (kA ks i).most /\ (kA ks i).most <= 2000) then 1
 else if (kA ks i).under ≠ ⟨#[]⟩ /\ (ks.take i).any (tagIs (kA ks i).under) = false then 5
 else 0
def kndF (ks : List RKd) (t : ByteArray) : RKd := if ixF (tagIs t) ks < 0 then kind0 else kA ks (ixF (tagIs t) ks).toNat
def colN (k : RKd) (name : ByteArray) : Col := cA k.fields (ixF (nameIs name) k.fields).toNat
def tailF (ks : List RKd) (tail name : ByteArray) (places : Bool) : Bool :=
 decide (ixF (nameIs name) (kndF ks tail).fields < 0) || (decide ((colN (kndF ks tail) name).kind ≠ 2) || !places && decide ((colN (kndF ks tail) name).places ≠ 0))
def endsF (f : Fmt) : Int :=
 if f.head ≠ ⟨#[]⟩ /\ ixF (tagIs f.head) f.kinds < 0 then 5
 else if f.tail ≠ ⟨#[]⟩ /\ ixF (tagIs f.tail) f.kinds < 0 then 5
 else if f.head = f.tail /\ f.head ≠ ⟨#[]⟩ then 12
 else if f.tail = ⟨#[]⟩ /\ (f.count ≠ ⟨#[]⟩ ∨ f.sum ≠ ⟨#[]⟩) then 3
 else if f.count ≠ ⟨#[]⟩ /\ tailF f.kinds f.tail f.count false = true then 5
 else if f.sum ≠ ⟨#[]⟩ /\ tailF f.kinds f.tail f.sum true = true then 5
 else if f.count = f.sum /\ f.count ≠ ⟨#[]⟩ then 12
 else 0
def marksF (mark quote : Int) : Int :=
 if mark ≠ 0 /\ (markF mark = true ∨ quote ≠ 0 /\ markF quote = true ∨ mark = quote) then 12
 else if mark = 0 /\ quote ≠ 0 then 3
 else 0
def checkF (f : Fmt) : Int :=
 if marksF f.mark f.quote ≠ 0 then marksF f.mark f.quote
 else if f.kinds.length = 0 then 9
 else if 30 < f.kinds.length then 2
 else if fstF (kindF f.mark f.kinds) f.kinds.length ≠ 0 then fstF (kindF f.mark f.kinds) f.kinds.length
 else endsF f
end Go.Proofs.YtbnjejenejoibaaGreatDoor
namespace Go.Proofs.YtbnjejenejoibaaGreatDoor
open Go.RowKit
set_option linter.unusedVariables false
set_option linter.unusedSimpArgs false
def lowest (P Q : Nat) : Int × Int × Int :=
 if P / Nat.gcd P Q <= 1000000000000000 /\ Q / Nat.gcd P Q <= 1000000000000000 then (((P / Nat.gcd P Q : Nat) : Int), ((Q / Nat.gcd P Q : Nat) : Int), 0) else (0, 0, 1)
end Go.Proofs.YtbnjejenejoibaaGreatDoor
