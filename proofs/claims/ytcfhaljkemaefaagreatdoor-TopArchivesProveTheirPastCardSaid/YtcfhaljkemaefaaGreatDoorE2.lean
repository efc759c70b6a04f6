/- Formats of flat files, plain: columns, kinds, what is wrong with them. Formats in memory; searches in columns and in kinds. The walks of kindAt and columnAt, and of the tests that hold a closure. The walks of CheckFormat's parts: marks, forms, idle. The walks of CheckFormat's parts: marks, what is idle, columns. (Printed by genF4.py.) The walk of columnFault. (Printed by genF5.py.) The walk of kindFault. (Printed by genF7.py.) The walks of endsFault and CheckFormat. (Printed by genF8.py.) Plain: a format as it is read from its text, line by line and word by word. The walks of package amount's numbers: isBank, isTax, isNumber, IsNumber, Widened. The walks of days and dates: the program's. The walks of days and dates: the program's dayOf, DayOf, dateOf, DateOf, weekOf. -/
import Derived.Test.YtcfhaljkemaefaaGreatDoorM0
import Derived.Test.YtcfhaljkemaefaaGreatDoorMem
import Derived.Test.YtcfhaljkemaefaaGreatDoorK3
import Derived.Test.YtcfhaljkemaefaaGreatDoorAR8
import Derived.Deep.QuietTactic
import Derived.BigQuiet
import Derived.Deep.DeepCutAuto
import Derived.Test.YtcfhaljkemaefaaGreatDoorD1
import Derived.IntWalk
-- merged: F0 F1 F2 F3 F4 F5 F7 F8 F6 K4 E1 E2

namespace Go.Proofs.YtcfhaljkemaefaaGreatDoor
open Nmb
set_option linter.unusedVariables false

structure Col where
  name : ByteArray
  kind : Int
  width : Int
  places : Int
  form : Int
  right : Bool
  fill : Int
  need : Bool
  deriving DecidableEq
structure RKd where
  tag : ByteArray
  fields : List Col
  most : Int
  under : ByteArray
  deriving DecidableEq
structure Fmt where
  mark : Int
  quote : Int
  kinds : List RKd
  head : ByteArray
  tail : ByteArray
  count : ByteArray
  sum : ByteArray
  deriving DecidableEq

def col0 : Col := ⟨⟨#[]⟩, 0, 0, 0, 0, false, 0, false⟩
def kind0 : RKd := ⟨⟨#[]⟩, [], 0, ⟨#[]⟩⟩
def cA (cs : List Col) (j : Nat) : Col := cs.getD j col0
def kA (ks : List RKd) (j : Nat) : RKd := ks.getD j kind0
theorem cA_get {cs : List Col} {j : Nat} (h : j < cs.length) : cs[j] = cA cs j := by simp [cA, List.getD_eq_getElem?_getD, h]
theorem kA_get {ks : List RKd} {j : Nat} (h : j < ks.length) : ks[j] = kA ks j := by simp [kA, List.getD_eq_getElem?_getD, h]

/-- The place of the first that is so; -1: there is none. -/
def ixF {α : Type} (q : α → Bool) : List α → Int
  | [] => -1
  | x :: l => if q x = true then 0 else if ixF q l < 0 then -1 else ixF q l + 1
theorem ixF_lo {α : Type} (q : α → Bool) : ∀ l : List α, -1 ≤ ixF q l
  | [] => by unfold ixF; omega
  | x :: l => by
    have := ixF_lo q l
    unfold ixF
    split
    · omega
    · split <;> omega
theorem ixF_hit {α : Type} {q : α → Bool} : ∀ {l : List α} {k : Nat} (hk : k < l.length), q l[k] = true → (∀ j (hj : j < l.length), j < k → q l[j] = false) → ixF q l = k
  | x :: l, 0, _, h, _ => by
    unfold ixF
    rw [if_pos (by simpa using h)]
    rfl
  | x :: l, k + 1, hk, h, hn => by
    have h0 := hn 0 (by simp) (by omega)
    have ih := ixF_hit (l := l) (k := k) (by simpa using hk) h (fun j hj hjk => hn (j + 1) (by simpa using hj) (by omega))
    unfold ixF
    rw [if_neg (by simp only [List.getElem_cons_zero] at h0; rw [h0]; decide), ih, if_neg (by omega)]
    omega
theorem ixF_no {α : Type} {q : α → Bool} : ∀ {l : List α}, (∀ j (hj : j < l.length), q l[j] = false) → ixF q l = -1
  | [], _ => rfl
  | x :: l, h => by
    have h0 := h 0 (by simp)
    have ih := ixF_no (l := l) (fun j hj => h (j + 1) (by simpa using hj))
    unfold ixF
    rw [if_neg (by simp only [List.getElem_cons_zero] at h0; rw [h0]; decide), ih, if_pos (by omega)]
theorem ixF_spec {α : Type} (q : α → Bool) : ∀ l : List α, (ixF q l = -1 ∧ ∀ j (hj : j < l.length), q l[j] = false) ∨ ∃ k, ∃ hk : k < l.length, ixF q l = (k : Int) ∧ q l[k] = true ∧ ∀ j (hj : j < l.length), j < k → q l[j] = false
  | [] => .inl ⟨rfl, fun j hj => by simp at hj⟩
  | x :: l => by
    cases hx : q x with
    | true => exact .inr ⟨0, by simp, ixF_hit (by simp) hx (fun j _ h => absurd h (Nat.not_lt_zero _)), hx, fun j _ h => absurd h (Nat.not_lt_zero _)⟩
    | false =>
      rcases ixF_spec q l with ⟨h1, h2⟩ | ⟨k, hk, h1, h2, h3⟩
      · have hn : ∀ j (hj : j < (x :: l).length), q (x :: l)[j] = false := fun j hj => by
          cases j with
          | zero => exact hx
          | succ j => exact h2 j (by simpa using hj)
        exact .inl ⟨ixF_no hn, hn⟩
      · have hn : ∀ j (hj : j < (x :: l).length), j < k + 1 → q (x :: l)[j] = false := fun j hj hjk => by
          cases j with
          | zero => exact hx
          | succ j => exact h3 j (by simpa using hj) (by omega)
        exact .inr ⟨k + 1, by simpa using hk, ixF_hit (by simpa using hk) h2 hn, h2, hn⟩
theorem ixF_any {α : Type} (q : α → Bool) (l : List α) : decide (0 ≤ ixF q l) = l.any q := by
  rcases ixF_spec q l with ⟨h1, h2⟩ | ⟨k, hk, h1, h2, _⟩
  · rw [h1, show l.any q = false from by
      rw [Bool.eq_false_iff]
      intro h
      obtain ⟨x, hx, h3⟩ := List.any_eq_true.1 h
      obtain ⟨j, hj, rfl⟩ := List.getElem_of_mem hx
      rw [h2 j hj] at h3
      cases h3]
    rfl
  · rw [h1, show l.any q = true from List.any_eq_true.2 ⟨l[k], List.getElem_mem hk, h2⟩]
    exact decide_eq_true (by omega)
/-- The first is at a place just if none before the place is so, where it is so. -/
theorem ixF_take {α : Type} {q : α → Bool} {l : List α} {k : Nat} (hk : k < l.length) (h : q l[k] = true) : (ixF q l = k) ↔ (l.take k).any q = false := by
  constructor
  · intro e
    rw [Bool.eq_false_iff]
    intro h2
    obtain ⟨x, hx, h3⟩ := List.any_eq_true.1 h2
    obtain ⟨j, hj, rfl⟩ := List.getElem_of_mem hx
    rw [List.length_take] at hj
    rw [List.getElem_take] at h3
    rcases ixF_spec q l with ⟨h4, h5⟩ | ⟨k', hk', h4, h5, h6⟩
    · rw [h5 k hk] at h; cases h
    · have : k' = k := by omega
      subst this
      rw [h6 j (by omega) (by omega)] at h3
      cases h3
  · intro e
    refine ixF_hit hk h (fun j hj hjk => ?_)
    rw [Bool.eq_false_iff]
    intro h3
    have : (l.take k).any q = true := List.any_eq_true.2 ⟨l[j], by rw [List.mem_iff_getElem]; exact ⟨j, by rw [List.length_take]; omega, by rw [List.getElem_take]⟩, h3⟩
    rw [this] at e
    cases e

/-! ### What is wrong with a format -/
/-- A byte that cannot be between fields. -/
def markF (b : Int) : Bool := decide (b < 32) || decide (126 < b) || tagC b || decide (97 ≤ b ∧ b ≤ 122) || decide (b = 45) || decide (b = 46)
def formW (form : Int) : Int := if form = 1 ∨ form = 3 then 8 else if form = 4 then 10 else if form = 5 then 7 else 0
def idleB (mark : Int) (c : Col) : Bool :=
  (decide (c.kind = 2) || decide (c.places = 0)) && (decide (c.kind = 3) || decide (c.form = 0)) && (!decide (c.kind = 3) && decide (mark = 0) || !c.right && decide (c.fill = 0))
def tagIs (t : ByteArray) (k : RKd) : Bool := decide (k.tag = t)
def nameIs (t : ByteArray) (c : Col) : Bool := decide (c.name = t)
def colF (mark : Int) (c : Col) (before : List Col) : Int :=
  if nameB c.name.data.toList = false then 5
  else if before.any (nameIs c.name) = true then 7
  else if ¬ (1 ≤ c.kind ∧ c.kind ≤ 3) then 4
  else if ¬ (1 ≤ c.width ∧ c.width ≤ 100) then 1
  else if c.kind = 2 ∧ ¬ (0 ≤ c.places ∧ c.places ≤ 9) then 1
  else if c.kind = 3 ∧ formW c.form = 0 then 4
  else if idleB mark c = false then 3
  else if mark ≠ 0 then 0
  else if c.kind ≠ 3 ∧ c.fill ≠ 32 ∧ ¬ (c.kind = 2 ∧ c.fill = 48 ∧ c.right = true) then 3
  else if c.kind = 3 ∧ c.width ≠ formW c.form then 12
  else 0
/-- The first fault of n; 0: there is none. -/
def fstF (f : Nat → Int) : Nat → Int
  | 0 => 0
  | n + 1 => if fstF f n = 0 then f n else fstF f n
theorem fstF_no {f : Nat → Int} : ∀ {n : Nat}, (∀ j, j < n → f j = 0) → fstF f n = 0
  | 0, _ => rfl
  | n + 1, h => by
    unfold fstF
    rw [fstF_no (fun j hj => h j (by omega)), if_pos rfl, h n (by omega)]
theorem fstF_hit {f : Nat → Int} : ∀ {n k : Nat}, k < n → (∀ j, j < k → f j = 0) → f k ≠ 0 → fstF f n = f k
  | n + 1, k, hk, h0, h1 => by
    unfold fstF
    rcases Nat.lt_or_ge k n with h | h
    · rw [fstF_hit h h0 h1, if_neg h1]
    · obtain rfl : k = n := by omega
      rw [fstF_no h0, if_pos rfl]
theorem fstF_zero {f : Nat → Int} : ∀ {n : Nat}, fstF f n = 0 → ∀ j, j < n → f j = 0
  | 0, _, j, hj => absurd hj (Nat.not_lt_zero _)
  | n + 1, h, j, hj => by
    unfold fstF at h
    split at h
    · rename_i h2
      rcases Nat.lt_or_ge j n with h3 | h3
      · exact fstF_zero h2 j h3
      · obtain rfl : j = n := by omega
        exact h
    · rename_i h2; exact absurd h h2
def colsF (mark : Int) (cs : List Col) : Int := fstF (fun i => colF mark (cA cs i) (cs.take i)) cs.length
def kindF (mark : Int) (ks : List RKd) (i : Nat) : Int :=
  if ¬ (1 ≤ (kA ks i).tag.size ∧ (kA ks i).tag.size ≤ 6) ∨ tagL (kA ks i).tag.data.toList = false then 3
  else if (ks.take i).any (tagIs (kA ks i).tag) = true then 7
  else if mark = 0 ∧ (kA ks i).tag.size ≠ (kA ks 0).tag.size then 3
  else if 50 < (kA ks i).fields.length then 2
  else if colsF mark (kA ks i).fields ≠ 0 then colsF mark (kA ks i).fields
  else if ¬ (0 ≤ (kA ks i).most ∧ (kA ks i).most ≤ 2000) then 1
  else if (kA ks i).under ≠ ⟨#[]⟩ ∧ (ks.take i).any (tagIs (kA ks i).under) = false then 5
  else 0
/-- The kind with a tag; the zero kind: there is none. -/
def kndF (ks : List RKd) (t : ByteArray) : RKd := if ixF (tagIs t) ks < 0 then kind0 else kA ks (ixF (tagIs t) ks).toNat
/-- Whether a column of the tail does not serve. -/
def colN (k : RKd) (name : ByteArray) : Col := cA k.fields (ixF (nameIs name) k.fields).toNat
def tailF (ks : List RKd) (tail name : ByteArray) (places : Bool) : Bool :=
  decide (ixF (nameIs name) (kndF ks tail).fields < 0) || (decide ((colN (kndF ks tail) name).kind ≠ 2) || !places && decide ((colN (kndF ks tail) name).places ≠ 0))
def endsF (f : Fmt) : Int :=
  if f.head ≠ ⟨#[]⟩ ∧ ixF (tagIs f.head) f.kinds < 0 then 5
  else if f.tail ≠ ⟨#[]⟩ ∧ ixF (tagIs f.tail) f.kinds < 0 then 5
  else if f.head = f.tail ∧ f.head ≠ ⟨#[]⟩ then 12
  else if f.tail = ⟨#[]⟩ ∧ (f.count ≠ ⟨#[]⟩ ∨ f.sum ≠ ⟨#[]⟩) then 3
  else if f.count ≠ ⟨#[]⟩ ∧ tailF f.kinds f.tail f.count false = true then 5
  else if f.sum ≠ ⟨#[]⟩ ∧ tailF f.kinds f.tail f.sum true = true then 5
  else if f.count = f.sum ∧ f.count ≠ ⟨#[]⟩ then 12
  else 0
def marksF (mark quote : Int) : Int :=
  if mark ≠ 0 ∧ (markF mark = true ∨ quote ≠ 0 ∧ markF quote = true ∨ mark = quote) then 12
  else if mark = 0 ∧ quote ≠ 0 then 3
  else 0
def checkF (f : Fmt) : Int :=
  if marksF f.mark f.quote ≠ 0 then marksF f.mark f.quote
  else if f.kinds.length = 0 then 9
  else if 30 < f.kinds.length then 2
  else if fstF (kindF f.mark f.kinds) f.kinds.length ≠ 0 then fstF (kindF f.mark f.kinds) f.kinds.length
  else endsF f
end Go.Proofs.YtcfhaljkemaefaaGreatDoor

namespace Go.Proofs.YtcfhaljkemaefaaGreatDoor
open Go.RowKit Limb Nmb
set_option linter.unusedVariables false
set_option linter.unusedSimpArgs false

def colV (cs : List Col) (j i : Nat) : Value :=
  match i with
  | 0 => .string (cA cs j).name
  | 1 => .int .i64 (cA cs j).kind
  | 2 => .int .i64 (cA cs j).width
  | 3 => .int .i64 (cA cs j).places
  | 4 => .int .i64 (cA cs j).form
  | 5 => .bool (cA cs j).right
  | 6 => .int .u8 (cA cs j).fill
  | _ => .bool (cA cs j).need
def colG (c : Col) : Value := .agg #[.string c.name, .int .i64 c.kind, .int .i64 c.width, .int .i64 c.places, .int .i64 c.form, .bool c.right, .int .u8 c.fill, .bool c.need]
def Cols (w : World) (A : Option Addr) (cs : List Col) : Prop := ((∀ c ∈ cs, c.name.size ≤ 9223372036854775807) ∧ cs.length ≤ 9223372036854775807) ∧ Rws w A 8 cs.length (colV cs)
theorem Cols.below {w w' : World} {A : Option Addr} {cs : List Col} (h : Cols w A cs) (hb : Below w.heap.size w w') : Cols w' A cs := ⟨h.1, h.2.below hb⟩
def kindV (ks : List RKd) (FA : Nat → Option Addr) (FC : Nat → Nat) (j i : Nat) : Value :=
  match i with
  | 0 => .string (kA ks j).tag
  | 1 => .slice (FA j) (kA ks j).fields.length (FC j)
  | 2 => .int .i64 (kA ks j).most
  | _ => .string (kA ks j).under
def kindG (k : RKd) (A : Option Addr) (C : Nat) : Value := .agg #[.string k.tag, .slice A k.fields.length C, .int .i64 k.most, .string k.under]
def Kinds (w : World) (A : Option Addr) (ks : List RKd) (FA : Nat → Option Addr) (FC : Nat → Nat) : Prop :=
  ((∀ k ∈ ks, k.tag.size ≤ 9223372036854775807 ∧ k.under.size ≤ 9223372036854775807) ∧ ks.length ≤ 9223372036854775807) ∧ Rws w A 4 ks.length (kindV ks FA FC) ∧ ∀ j, j < ks.length → Cols w (FA j) (kA ks j).fields ∧ (kA ks j).fields.length ≤ FC j
theorem Kinds.below {w w' : World} {A : Option Addr} {ks : List RKd} {FA : Nat → Option Addr} {FC : Nat → Nat} (h : Kinds w A ks FA FC) (hb : Below w.heap.size w w') : Kinds w' A ks FA FC :=
  ⟨h.1, h.2.1.below hb, fun j hj => ⟨(h.2.2 j hj).1.below hb, (h.2.2 j hj).2⟩⟩

end Go.Proofs.YtcfhaljkemaefaaGreatDoor

namespace Go.Proofs.YtcfhaljkemaefaaGreatDoor
open Go.RowKit Limb Nmb
set_option linter.unusedVariables false
set_option linter.unusedSimpArgs false

theorem bytes_dec (a b : ByteArray) : (a.toList == b.toList) = decide (a = b) := by
  by_cases h : a = b
  · subst h; simp
  · rw [decide_eq_false h]; exact (Lib.bytes_beq_false_iff _ _).2 h
/-- What the walk wants of a block of the call's own. -/
theorem obox {w : World} {g : Nat} {cs : Array Value} {T : TypeId} (h : w.heap[g]? = some (.cells cs T (0, 0))) :
    (∀ i v, cs[i]? = some v → w.cell? ⟨g, i, none⟩ = some v) ∧ (∀ i, i < cs.size → w.frozen? ⟨g, i, none⟩ = false) ∧ g < w.heap.size := by
  refine ⟨fun i v hi => ?_, fun i hi => by simp [World.frozen?, h], lt_heap h⟩
  rw [cell_of_row w g i cs T _ h]
  exact hi
theorem obox4 {w : World} {g : Nat} {a b c d : Value} {T : TypeId} (h : w.heap[g]? = some (.cells #[a, b, c, d] T (0, 0))) :
    (w.cell? ⟨g, 0, none⟩ = some a ∧ w.cell? ⟨g, 1, none⟩ = some b ∧ w.cell? ⟨g, 2, none⟩ = some c ∧ w.cell? ⟨g, 3, none⟩ = some d) ∧ (w.frozen? ⟨g, 0, none⟩ = false ∧ w.frozen? ⟨g, 1, none⟩ = false ∧ w.frozen? ⟨g, 2, none⟩ = false ∧ w.frozen? ⟨g, 3, none⟩ = false) ∧ g < w.heap.size := by
  obtain ⟨h1, h2, h3⟩ := obox h
  exact ⟨⟨h1 0 _ rfl, h1 1 _ rfl, h1 2 _ rfl, h1 3 _ rfl⟩, ⟨h2 0 (by simp), h2 1 (by simp), h2 2 (by simp), h2 3 (by simp)⟩, h3⟩
theorem obox7 {w : World} {g : Nat} {a b c d e f i : Value} {T : TypeId} (h : w.heap[g]? = some (.cells #[a, b, c, d, e, f, i] T (0, 0))) :
    (w.cell? ⟨g, 0, none⟩ = some a ∧ w.cell? ⟨g, 1, none⟩ = some b ∧ w.cell? ⟨g, 2, none⟩ = some c ∧ w.cell? ⟨g, 3, none⟩ = some d ∧ w.cell? ⟨g, 4, none⟩ = some e ∧ w.cell? ⟨g, 5, none⟩ = some f ∧ w.cell? ⟨g, 6, none⟩ = some i) ∧ g < w.heap.size := by
  obtain ⟨h1, h2, h3⟩ := obox h
  exact ⟨⟨h1 0 _ rfl, h1 1 _ rfl, h1 2 _ rfl, h1 3 _ rfl, h1 4 _ rfl, h1 5 _ rfl, h1 6 _ rfl⟩, h3⟩
theorem obox8 {w : World} {g : Nat} {a b c d e f i j : Value} {T : TypeId} (h : w.heap[g]? = some (.cells #[a, b, c, d, e, f, i, j] T (0, 0))) :
    (w.cell? ⟨g, 0, none⟩ = some a ∧ w.cell? ⟨g, 1, none⟩ = some b ∧ w.cell? ⟨g, 2, none⟩ = some c ∧ w.cell? ⟨g, 3, none⟩ = some d ∧ w.cell? ⟨g, 4, none⟩ = some e ∧ w.cell? ⟨g, 5, none⟩ = some f ∧ w.cell? ⟨g, 6, none⟩ = some i ∧ w.cell? ⟨g, 7, none⟩ = some j) ∧ g < w.heap.size := by
  obtain ⟨h1, h2, h3⟩ := obox h
  exact ⟨⟨h1 0 _ rfl, h1 1 _ rfl, h1 2 _ rfl, h1 3 _ rfl, h1 4 _ rfl, h1 5 _ rfl, h1 6 _ rfl, h1 7 _ rfl⟩, h3⟩

def fmtG (f : Fmt) (A : Option Addr) (c : Nat) : Value := .agg #[.int .u8 f.mark, .int .u8 f.quote, .slice A f.kinds.length c, .string f.head, .string f.tail, .string f.count, .string f.sum]
def fmtC (f : Fmt) (A : Option Addr) (c : Nat) : Array Value := #[.int .u8 f.mark, .int .u8 f.quote, .slice A f.kinds.length c, .string f.head, .string f.tail, .string f.count, .string f.sum]

/-! ### The closures -/
/-! ### Tests over all -/
/-! ### kindAt, columnAt -/
/-- Which kind has a tag: its place; -1: none. -/
def katI (f : Fmt) (t : ByteArray) : Int := ixF (tagIs t) f.kinds
def katK (f : Fmt) (t : ByteArray) : RKd := if katI f t < 0 then kind0 else kA f.kinds (katI f t).toNat
def katA (f : Fmt) (FA : Nat → Option Addr) (t : ByteArray) : Option Addr := if katI f t < 0 then none else FA (katI f t).toNat
def katC (f : Fmt) (FC : Nat → Nat) (t : ByteArray) : Nat := if katI f t < 0 then 0 else FC (katI f t).toNat
theorem kat_cases (f : Fmt) (FA : Nat → Option Addr) (FC : Nat → Nat) (t : ByteArray) : (katI f t = -1 ∧ katK f t = kind0 ∧ katA f FA t = none ∧ katC f FC t = 0) ∨
    ∃ k, k < f.kinds.length ∧ katI f t = (k : Int) ∧ katK f t = kA f.kinds k ∧ katA f FA t = FA k ∧ katC f FC t = FC k := by
  unfold katK katA katC
  rcases ixF_spec (tagIs t) f.kinds with ⟨h, -⟩ | ⟨k, hk, h, -, -⟩
  · have : katI f t = -1 := h
    rw [this]
    exact .inl ⟨rfl, rfl, rfl, rfl⟩
  · have : katI f t = (k : Int) := h
    rw [this, if_neg (by omega), if_neg (by omega), if_neg (by omega)]
    exact .inr ⟨k, hk, rfl, rfl, rfl, rfl⟩
end Go.Proofs.YtcfhaljkemaefaaGreatDoor

namespace Go.Proofs.YtcfhaljkemaefaaGreatDoor
open Go.RowKit Limb Nmb
set_option linter.unusedVariables false
set_option linter.unusedSimpArgs false

def RetI (v : Int) (w : World) (e : Ending) (w' : World) : Prop := e = .returned (.int .i64 v) ∧ Below w.heap.size w w'
theorem fout_b (n lo hi : Int) (w : World) : Calls Tryz.prog 12 #[.int .i64 n, .int .i64 lo, .int .i64 hi] w fun e w' => w = w' ∧ e = .returned (.bool (!decide (lo ≤ n ∧ n ≤ hi))) := by
  by_cases h : lo ≤ n ∧ n ≤ hi
  · rw [decide_eq_true h]; exact out_no n lo hi w h
  · rw [decide_eq_false h]; exact out_yes n lo hi w h
theorem fenc_fin : ∀ n : Fin 128, Utf8.encode ((n.val : Nat) : Int) = (⟨#[UInt8.ofNat n.val]⟩ : ByteArray) := by decide +kernel
theorem fenc_ascii {g : UInt8} (h : g.toNat < 128) : Utf8.encode ((g.toNat : Nat) : Int) = (⟨#[g]⟩ : ByteArray) := by
  have := fenc_fin ⟨g.toNat, h⟩
  rw [this]
  simp
theorem enc_small {b : Int} (h0 : 0 ≤ b) (h1 : b < 128) : Utf8.encode b = ⟨#[UInt8.ofNat b.toNat]⟩ := by
  have h : Utf8.encode (((UInt8.ofNat b.toNat).toNat : Nat) : Int) = ⟨#[UInt8.ofNat b.toNat]⟩ := fenc_ascii (by simp; omega)
  have e : (((UInt8.ofNat b.toNat).toNat : Nat) : Int) = b := by simp; omega
  rw [e] at h
  exact h
end Go.Proofs.YtcfhaljkemaefaaGreatDoor

namespace Go.Proofs.YtcfhaljkemaefaaGreatDoor
open Go.RowKit Limb Nmb
set_option linter.unusedVariables false
set_option linter.unusedSimpArgs false

end Go.Proofs.YtcfhaljkemaefaaGreatDoor

namespace Go.Proofs.YtcfhaljkemaefaaGreatDoor
open Go.RowKit Limb Nmb
set_option linter.unusedVariables false
set_option linter.unusedSimpArgs false

theorem fflip {P : Program} {f : FuncId} {args : Array Value} {w : World} {v : Value} (h : Calls P f args w fun e w' => w = w' ∧ e = .returned v) : Calls P f args w fun e w' => e = .returned v ∧ w' = w := h.mono fun _ _ h => ⟨h.2, h.1.symm⟩
end Go.Proofs.YtcfhaljkemaefaaGreatDoor

namespace Go.Proofs.YtcfhaljkemaefaaGreatDoor
open Go.RowKit Limb Nmb
set_option linter.unusedVariables false
set_option linter.unusedSimpArgs false

theorem emp_dec (s : ByteArray) : s.toList.isEmpty = decide (s = ⟨#[]⟩) := by
  rw [Lib.toList_data, Bool.eq_iff_iff, decide_eq_true_iff, List.isEmpty_iff]
  exact ⟨fun h => ByteArray.ext (Array.toList_eq_nil_iff.1 h), fun h => by rw [h]⟩
theorem Kinds.cells {w : World} {A : Option Addr} {ks : List RKd} {FA : Nat → Option Addr} {FC : Nat → Nat} (h : Kinds w A ks FA FC) {j : Nat} (hj : j < ks.length) :
    ∃ b off, A = some ⟨b, off, none⟩ ∧ b < w.heap.size ∧ w.cell? ⟨b, off + j * 4, none⟩ = some (.string (kA ks j).tag) ∧ w.cell? ⟨b, off + j * 4 + 1, none⟩ = some (.slice (FA j) (kA ks j).fields.length (FC j)) ∧
      w.cell? ⟨b, off + j * 4 + 2, none⟩ = some (.int .i64 (kA ks j).most) ∧ w.cell? ⟨b, off + j * 4 + 3, none⟩ = some (.string (kA ks j).under) := by
  obtain ⟨b, off, e, hb, hc⟩ := h.2.1.get hj
  exact ⟨b, off, e, hb, hc 0 (by decide), hc 1 (by decide), hc 2 (by decide), hc 3 (by decide)⟩
theorem Cols.cells {w : World} {A : Option Addr} {cs : List Col} (h : Cols w A cs) {j : Nat} (hj : j < cs.length) :
    ∃ b off, A = some ⟨b, off, none⟩ ∧ b < w.heap.size ∧ w.cell? ⟨b, off + j * 8, none⟩ = some (.string (cA cs j).name) ∧ w.cell? ⟨b, off + j * 8 + 1, none⟩ = some (.int .i64 (cA cs j).kind) ∧
      w.cell? ⟨b, off + j * 8 + 2, none⟩ = some (.int .i64 (cA cs j).width) ∧ w.cell? ⟨b, off + j * 8 + 3, none⟩ = some (.int .i64 (cA cs j).places) ∧ w.cell? ⟨b, off + j * 8 + 4, none⟩ = some (.int .i64 (cA cs j).form) ∧
      w.cell? ⟨b, off + j * 8 + 5, none⟩ = some (.bool (cA cs j).right) ∧ w.cell? ⟨b, off + j * 8 + 6, none⟩ = some (.int .u8 (cA cs j).fill) ∧ w.cell? ⟨b, off + j * 8 + 7, none⟩ = some (.bool (cA cs j).need) := by
  obtain ⟨b, off, e, hb, hc⟩ := h.2.get hj
  exact ⟨b, off, e, hb, hc 0 (by decide), hc 1 (by decide), hc 2 (by decide), hc 3 (by decide), hc 4 (by decide), hc 5 (by decide), hc 6 (by decide), hc 7 (by decide)⟩
theorem Cols.take {w : World} {A : Option Addr} {cs : List Col} (h : Cols w A cs) (k : Nat) : Cols w A (cs.take k) := by
  refine ⟨⟨fun c hc => h.1.1 c (List.mem_of_mem_take hc), by have := h.1.2; rw [List.length_take]; omega⟩, fun hn => ?_⟩
  rw [List.length_take] at hn
  obtain ⟨b, off, e, hb, hc⟩ := h.2 (by omega)
  refine ⟨b, off, e, hb, fun j hj i hi => ?_⟩
  rw [List.length_take] at hj
  rw [hc j (by omega) i hi]
  have e2 : cA (cs.take k) j = cA cs j := by unfold cA; rw [List.getD_eq_getElem?_getD, List.getD_eq_getElem?_getD, List.getElem?_take, if_pos (by omega)]
  unfold colV
  rw [e2]
end Go.Proofs.YtcfhaljkemaefaaGreatDoor

namespace Go.Proofs.YtcfhaljkemaefaaGreatDoor
open Go.RowKit Limb Nmb
set_option linter.unusedVariables false
set_option linter.unusedSimpArgs false

theorem kat_cols {w : World} {A : Option Addr} {f : Fmt} {FA : Nat → Option Addr} {FC : Nat → Nat} (h : Kinds w A f.kinds FA FC) (t : ByteArray) : Cols w (katA f FA t) (katK f t).fields ∧ (katK f t).fields.length ≤ katC f FC t := by
  rcases kat_cases f FA FC t with ⟨h1, h2, h3, h4⟩ | ⟨k, hk, h1, h2, h3, h4⟩
  · rw [h2, h3, h4]
    exact ⟨⟨⟨fun c hc => by simp [kind0] at hc, by simp [kind0]⟩, fun hn => by simp [kind0] at hn⟩, by simp [kind0]⟩
  · rw [h2, h3, h4]
    exact h.2.2 k hk
theorem katK_knd (f : Fmt) (t : ByteArray) : katK f t = kndF f.kinds t := rfl
/-- What stands at the two places of a pair. -/
def prW (a b : ByteArray) (j : Nat) : ByteArray := if j = 0 then a else b
theorem pr_cell {w : World} {g : Nat} {a b : ByteArray} {T : TypeId} (h : w.heap[g]? = some (.cells #[.string a, .string b] T (0, 0))) {j : Nat} (hj : j < 2) : w.cell? ⟨g, j, none⟩ = some (.string (prW a b j)) := by
  match j, hj with
  | 0, _ => exact cell_of_row w g 0 _ _ _ h
  | 1, _ => exact cell_of_row w g 1 _ _ _ h
def okT (f : Fmt) (t : ByteArray) : Prop := t = ⟨#[]⟩ ∨ 0 ≤ katI f t
def okC (f : Fmt) (n : ByteArray) (p : Bool) : Prop := n = ⟨#[]⟩ ∨ tailF f.kinds f.tail n p = false

end Go.Proofs.YtcfhaljkemaefaaGreatDoor

namespace Go.Proofs.YtcfhaljkemaefaaGreatDoor
open Nmb Work
set_option linter.unusedVariables false
set_option linter.unusedSimpArgs false

def bs (l : List UInt8) : ByteArray := ⟨l.toArray⟩
def eS : ByteArray := ⟨#[]⟩
/-- The words of a line. -/
def wrdS (s : ByteArray) : List ByteArray := (pcs 32 s.data.toList).map bs
def wd (L : List ByteArray) (i : Nat) : ByteArray := L.getD i eS
/-- A number of at most four digits, without a needless 0. -/
def nOk (s : ByteArray) : Bool := decide (s.size ≤ 4) && digs s.data.toList && !(decide (1 < s.size) && decide (byA s.data.toList 0 = 48))
def nVal (s : ByteArray) : Int := if nOk s = true then ((dv s.data.toList : Nat) : Int) else 0
def yOk (s : ByteArray) : Bool := nOk s && decide (nVal s ≤ 255)
def undS (s : ByteArray) : ByteArray := if s = ⟨#[45]⟩ then eS else s
def wFixed : ByteArray := ⟨#[102, 105, 120, 101, 100]⟩
def wMarked : ByteArray := ⟨#[109, 97, 114, 107, 101, 100]⟩
def wKind : ByteArray := ⟨#[107, 105, 110, 100]⟩
def wEnds : ByteArray := ⟨#[101, 110, 100, 115]⟩
def wText : ByteArray := ⟨#[116, 101, 120, 116]⟩
def wNumber : ByteArray := ⟨#[110, 117, 109, 98, 101, 114]⟩
def wDay : ByteArray := ⟨#[100, 97, 121]⟩
def wLeft : ByteArray := ⟨#[108, 101, 102, 116]⟩
def wRight : ByteArray := ⟨#[114, 105, 103, 104, 116]⟩
def wNeed : ByteArray := ⟨#[110, 101, 101, 100]⟩

structure FSt where
  f : Fmt
  begun : Bool
  ended : Bool
def fmt0 : Fmt := ⟨0, 0, [], eS, eS, eS, eS⟩
def st0 : FSt := ⟨fmt0, false, false⟩

/-- Where a column's words behind the width stand. -/
def pK (kind : Int) : Nat := if kind = 2 ∨ kind = 3 then 1 else 0
def sK (mark kind : Int) : Nat := if mark = 0 ∧ kind ≠ 3 then 2 else 0
def needB (L : List ByteArray) (b : Nat) : Bool := decide (L.length = b + 1) && decide (wd L b = wNeed)
/-- A column out of the words behind its kind. -/
def colOk (mark kind : Int) (L : List ByteArray) : Bool :=
  (decide (L.length = 2 + pK kind + sK mark kind) || needB L (2 + pK kind + sK mark kind)) && nOk (wd L 1) && (decide (pK kind = 0) || nOk (wd L 2)) &&
    (decide (sK mark kind = 0) || (decide (wd L (2 + pK kind) = wLeft) || decide (wd L (2 + pK kind) = wRight)) && yOk (wd L (3 + pK kind)))
def colW (mark kind : Int) (L : List ByteArray) : Col :=
  ⟨wd L 0, kind, nVal (wd L 1), if kind = 2 then nVal (wd L 2) else 0, if kind = 3 then nVal (wd L 2) else 0,
    decide (sK mark kind ≠ 0) && decide (wd L (2 + pK kind) = wRight), if sK mark kind ≠ 0 then nVal (wd L (3 + pK kind)) % 256 else 0, needB L (2 + pK kind + sK mark kind)⟩
def addCol : List RKd → Col → List RKd
  | [], _ => []
  | [k], c => [{ k with fields := k.fields ++ [c] }]
  | k :: x :: r, c => k :: addCol (x :: r) c
def kindW (s : ByteArray) : Int := if s = wText then 1 else if s = wNumber then 2 else if s = wDay then 3 else 0

/-- One line: its words' head and the others. -/
def frstF (st : FSt) (h : ByteArray) (L : List ByteArray) : Option FSt :=
  if h = wFixed then if L.length = 0 then some { st with begun := true } else none
  else if h = wMarked then
    if L.length = 2 ∧ yOk (wd L 0) = true ∧ yOk (wd L 1) = true ∧ nVal (wd L 0) ≠ 0 then some ⟨{ st.f with mark := nVal (wd L 0), quote := nVal (wd L 1) }, true, st.ended⟩ else none
  else none
def wordsF (st : FSt) (h : ByteArray) (L : List ByteArray) : Option FSt :=
  if st.begun = false then frstF st h L
  else if h = wKind then
    if L.length = 3 ∧ nOk (wd L 1) = true then some { st with f := { st.f with kinds := st.f.kinds ++ [⟨wd L 0, [], nVal (wd L 1), undS (wd L 2)⟩] } } else none
  else if h = wEnds then
    if L.length = 4 then some ⟨{ st.f with head := undS (wd L 0), tail := undS (wd L 1), count := undS (wd L 2), sum := undS (wd L 3) }, st.begun, true⟩ else none
  else if kindW h ≠ 0 ∧ st.f.kinds ≠ [] ∧ colOk st.f.mark (kindW h) L = true then some { st with f := { st.f with kinds := addCol st.f.kinds (colW st.f.mark (kindW h) L) } }
  else none
def lineF (st : FSt) (s : ByteArray) : Option FSt :=
  if (wrdS s).any (fun w => decide (w = eS)) = true ∨ st.ended = true then none else wordsF st (wd (wrdS s) 0) (wrdS s).tail

/-- The lines of a text, and whether the last one is ended. -/
def lnsE (t : List UInt8) : Bool := decide (t = []) || decide (t.getLast? = some 10)
def lnsL (t : List UInt8) : List (List UInt8) := if t = [] then [] else if t.getLast? = some 10 then pcs 10 t.dropLast else pcs 10 t
/-- The lines one after the other: the state behind them, or the number of the line that is wrong. -/
def linesF (e : Bool) : FSt → Int → List (List UInt8) → FSt ⊕ Int
  | st, _, [] => .inl st
  | st, i, s :: r => match lineF st (bs s) with
    | none => .inr (i + 1)
    | some st' => if e = false ∧ r = [] then .inr (i + 1) else linesF e st' (i + 1) r
def readF (t : ByteArray) : Fmt × Int × Int :=
  if 500000 < t.size then (fmt0, 0, 2)
  else match linesF (lnsE t.data.toList) st0 0 (lnsL t.data.toList) with
    | .inr n => (fmt0, n, 10)
    | .inl st => if st.ended = false then (fmt0, (lnsL t.data.toList).length + 1, 10) else if checkF st.f ≠ 0 then (fmt0, 0, checkF st.f) else (st.f, 0, 0)

/-! ### Facts -/
theorem lns_cut {a b : List UInt8} (h : (10 : UInt8) ∉ a) : lnsL (a ++ 10 :: b) = a :: lnsL b ∧ lnsE (a ++ 10 :: b) = lnsE b := by
  have hl : (a ++ 10 :: b).getLast? = if b = [] then some 10 else b.getLast? := by
    cases b with
    | nil => simp
    | cons x b =>
      rw [List.getLast?_append, List.getLast?_cons_cons, if_neg (by simp)]
      cases e : (x :: b).getLast? with
      | none => simp at e
      | some y => rfl
  constructor
  · unfold lnsL
    rw [if_neg (by simp), hl]
    cases b with
    | nil =>
      rw [if_pos rfl, if_pos rfl, if_pos rfl]
      rw [show (a ++ [(10 : UInt8)]).dropLast = a by simp, pcs_none h]
    | cons x b =>
      rw [if_neg (List.cons_ne_nil x b), if_neg (List.cons_ne_nil x b)]
      by_cases hx : (x :: b).getLast? = some 10
      · rw [if_pos hx, if_pos hx]
        rw [show (a ++ 10 :: x :: b).dropLast = a ++ 10 :: (x :: b).dropLast by rw [List.dropLast_append_of_ne_nil (by simp), List.dropLast_cons_cons], pcs_hit h]
      · rw [if_neg hx, if_neg hx, pcs_hit h]
  · unfold lnsE
    rw [hl]
    cases b with
    | nil => simp
    | cons x b => simp
theorem lns_none {t : List UInt8} (h : (10 : UInt8) ∉ t) (h0 : t ≠ []) : lnsL t = [t] ∧ lnsE t = false := by
  have hl : t.getLast? ≠ some 10 := fun e => h (List.mem_of_getLast? e)
  constructor
  · unfold lnsL
    rw [if_neg h0, if_neg hl, pcs_none h]
  · unfold lnsE
    rw [decide_eq_false h0, decide_eq_false hl]; rfl
theorem wrd_len (s : ByteArray) : 0 < (wrdS s).length := by
  unfold wrdS
  rw [List.length_map]
  exact List.length_pos_iff.2 (pcs_ne _ _)
theorem wd_sz {L : List ByteArray} {B : Nat} (h : ∀ s ∈ L, s.size ≤ B) (i : Nat) : (wd L i).size ≤ B := by
  unfold wd
  rw [List.getD_eq_getElem?_getD]
  cases e : L[i]? with
  | none => show (0 : Nat) ≤ B; omega
  | some x => exact h x (List.mem_of_getElem? e)
theorem bs_toList (l : List UInt8) : (bs l).data.toList = l := by simp [bs]
theorem bs_size (l : List UInt8) : (bs l).size = l.length := by simp [bs, ByteArray.size]
theorem bs_self (s : ByteArray) : bs s.data.toList = s := by cases s; simp [bs]
theorem wrd_sz (s : ByteArray) : ∀ w ∈ wrdS s, w.size ≤ s.size := by
  intro w hw
  unfold wrdS at hw
  obtain ⟨l, hl, rfl⟩ := List.mem_map.1 hw
  have := pcs_sum 32 _ l hl
  rw [bs_size]
  simpa using this
theorem nOk_bd {s : ByteArray} (h : nOk s = true) : s.size ≤ 4 ∧ digs s.data.toList = true ∧ ¬ (1 < s.size ∧ byA s.data.toList 0 = 48) := by
  unfold nOk at h
  simp only [Bool.and_eq_true, Bool.not_eq_true', decide_eq_true_eq, Bool.and_eq_false_iff, decide_eq_false_iff_not] at h
  obtain ⟨⟨h1, h2⟩, h3⟩ := h
  exact ⟨h1, h2, fun k => by rcases h3 with h3 | h3; exact h3 k.1; exact h3 k.2⟩
theorem nVal_bd (s : ByteArray) : 0 ≤ nVal s ∧ nVal s ≤ 9999 := by
  unfold nVal
  split
  next h =>
    obtain ⟨h1, h2, -⟩ := nOk_bd h
    have h3 := dvF_lt s.data.toList 0 (digs_mem h2)
    have h4 : s.data.toList.length = s.size := by simp
    rw [h4, Nat.zero_add, Nat.one_mul] at h3
    have h5 : 10 ^ s.size ≤ 10 ^ 4 := Nat.pow_le_pow_right (by decide) h1
    have h6 : dv s.data.toList = dvF s.data.toList 0 := rfl
    omega
  next => omega
theorem addCol_len : ∀ (ks : List RKd) (c : Col), (addCol ks c).length = ks.length
  | [], _ => rfl
  | [k], _ => rfl
  | k :: x :: r, c => by
    have := addCol_len (x :: r) c
    show (addCol (x :: r) c).length + 1 = _
    rw [this]; rfl
theorem addCol_at : ∀ {ks : List RKd} {c : Col} {j : Nat}, j + 1 < ks.length → kA (addCol ks c) j = kA ks j
  | [], _, _, h => by simp at h
  | [k], _, _, h => by simp at h
  | k :: x :: r, c, 0, h => rfl
  | k :: x :: r, c, j + 1, h => by
    have := addCol_at (ks := x :: r) (c := c) (j := j) (by simpa using h)
    show kA (addCol (x :: r) c) j = kA (x :: r) j
    exact this
theorem addCol_last : ∀ {ks : List RKd} {c : Col}, ks ≠ [] → kA (addCol ks c) (ks.length - 1) = { kA ks (ks.length - 1) with fields := (kA ks (ks.length - 1)).fields ++ [c] }
  | [], _, h => absurd rfl h
  | [k], _, _ => rfl
  | k :: x :: r, c, h => by
    have := addCol_last (ks := x :: r) (c := c) (by simp)
    simp only [List.length_cons, Nat.add_sub_cancel] at this ⊢
    show kA (addCol (x :: r) c) r.length = _
    rw [this]
    rfl
end Go.Proofs.YtcfhaljkemaefaaGreatDoor

namespace Go.Proofs.YtcfhaljkemaefaaGreatDoor
open Go.RowKit Limb Nmb
set_option linter.unusedVariables false
set_option linter.unusedSimpArgs false

/-! ### Two digits -/
theorem two_fin : ∀ x y : Fin 10, Op.bytesLess [UInt8.ofNat (48 + x.val), UInt8.ofNat (48 + y.val)] [48, 50] = decide (10 * x.val + y.val < 2) ∧ Op.bytesLess [UInt8.ofNat (48 + x.val), UInt8.ofNat (48 + y.val)] [57, 56] = decide (10 * x.val + y.val < 98) ∧ ([UInt8.ofNat (48 + x.val), UInt8.ofNat (48 + y.val)] == [57, 56]) = decide (10 * x.val + y.val = 98) := by decide +kernel
theorem two_cmp {l : List UInt8} (hl : l.length = 2) (hd : inL l 48 57 = true) : Op.bytesLess l [48, 50] = decide (10 * dgt l 0 + dgt l 1 < 2) ∧ Op.bytesLess l [57, 56] = decide (10 * dgt l 0 + dgt l 1 < 98) ∧ (l == [57, 56]) = decide (10 * dgt l 0 + dgt l 1 = 98) := by
  match l, hl with
  | [a, b], _ =>
    have h0 := inL_yes hd (i := 0) (by simp)
    have h1 := inL_yes hd (i := 1) (by simp)
    have e0 : byA [a, b] 0 = (a.toNat : Int) := rfl
    have e1 : byA [a, b] 1 = (b.toNat : Int) := rfl
    rw [e0] at h0; rw [e1] at h1
    have := two_fin ⟨a.toNat - 48, by omega⟩ ⟨b.toNat - 48, by omega⟩
    have ea : UInt8.ofNat (48 + (a.toNat - 48)) = a := by rw [show 48 + (a.toNat - 48) = a.toNat by omega]; exact UInt8.ofNat_toNat
    have eb : UInt8.ofNat (48 + (b.toNat - 48)) = b := by rw [show 48 + (b.toNat - 48) = b.toNat by omega]; exact UInt8.ofNat_toNat
    simp only [ea, eb] at this
    rw [this.1, this.2.1, this.2.2]
    unfold dgt
    rw [e0, e1]
    refine ⟨?_, ?_, ?_⟩
    · apply decide_eq_decide.2; omega
    · apply decide_eq_decide.2; omega
    · apply decide_eq_decide.2; omega
theorem chk_two {l : List UInt8} (h : 4 ≤ l.length) : 10 * dgt ((l.drop 2).take 2) 0 + dgt ((l.drop 2).take 2) 1 = bankC l := by
  unfold bankC dgt
  rw [byA_take (by decide), byA_take (by decide), byA_drop, byA_drop]
theorem digs_two {l : List UInt8} (h : 4 ≤ l.length) : digs ((l.drop 2).take 2) = inL ((l.drop 2).take 2) 48 57 := by
  unfold digs
  have : ((l.drop 2).take 2).isEmpty = false := by
    rw [Bool.eq_false_iff]
    intro h2
    rw [List.isEmpty_iff] at h2
    have := congrArg List.length h2
    simp at this
    omega
  rw [this]; simp
theorem isdigs_c (s : ByteArray) (w : World) (hs : s.size ≤ 9223372036854775807) :
    Calls Tryz.prog 29 #[.string s] w fun e w' => w = w' ∧ e = .returned (.bool (digs s.data.toList)) := by
  rw [← digB_digs]; exact isdig_c s w hs

theorem form_len {l : List UInt8} (h : ¬ (15 ≤ l.length ∧ l.length ≤ 34)) : bankForm l = false := by unfold bankForm; rw [decide_eq_false h]; rfl
theorem form_in {l : List UInt8} (h : 15 ≤ l.length ∧ l.length ≤ 34) : bankForm l = (inL (l.take 2) 65 90 && (inL ((l.drop 2).take 2) 48 57 && tagL (l.drop 4))) := by unfold bankForm; rw [decide_eq_true h]; rfl
theorem bank_no {l : List UInt8} (h : bankForm l = false) : bankB l = false := by unfold bankB; rw [h]; rfl
theorem bank_is {l : List UInt8} (h : bankForm l = true) : bankB l = decide (bankR l = 1 ∧ 2 ≤ bankC l ∧ bankC l ≤ 98) := by unfold bankB; rw [h]; rfl
theorem form_tag {l : List UInt8} (h : bankForm l = true) : tagL l = true := by
  have hl : 15 ≤ l.length ∧ l.length ≤ 34 := by
    rcases Classical.em (15 ≤ l.length ∧ l.length ≤ 34) with h1 | h1
    · exact h1
    · rw [form_len h1] at h; cases h
  rw [form_in hl] at h
  simp only [Bool.and_eq_true] at h
  obtain ⟨h1, h2, h3⟩ := h
  have e1 : tagL (l.take 2) = true := tag_letters h1
  have e2 : tagL ((l.drop 2).take 2) = true := by
    unfold tagL
    rw [List.all_eq_true]
    intro c hc
    obtain ⟨i, hi, rfl⟩ := List.getElem_of_mem hc
    have := inL_yes h2 hi
    rw [byA_get hi] at this
    exact decide_eq_true (.inr this)
  have e : l = l.take 2 ++ ((l.drop 2).take 2 ++ l.drop 4) := by
    have : l.drop 4 = (l.drop 2).drop 2 := by rw [List.drop_drop]
    rw [this, List.take_append_drop, List.take_append_drop]
  rw [e, tag_app, tag_app, e1, e2, h3]; rfl

def conS (s : ByteArray) (k : Nat) : Prop := s.size ≤ k
end Go.Proofs.YtcfhaljkemaefaaGreatDoor

namespace Go.Proofs.YtcfhaljkemaefaaGreatDoor
open Go.RowKit Limb Work
set_option linter.unusedVariables false
set_option linter.unusedSimpArgs false

theorem beqT {a b : Int} (h : a = b) : (a == b) = true := beq_iff_eq.2 h
theorem beqF {a b : Int} (h : ¬ a = b) : (a == b) = false := beq_eq_false_iff_ne.2 h
theorem dim_two {y : Int} : dim y 2 = if leapB y = true then 29 else 28 := rfl
end Go.Proofs.YtcfhaljkemaefaaGreatDoor

namespace Go.Proofs.YtcfhaljkemaefaaGreatDoor
open Go.RowKit Limb Work
set_option linter.unusedVariables false
set_option linter.unusedSimpArgs false

/-- What dayOf comes to. -/
def dayR (y m d : Int) : Int := if dateB y m d = true then num y m d else 0
theorem dayR_yes {y m d : Int} (h : dateB y m d = true) : dayR y m d = num y m d := if_pos h
theorem dayR_no {y m d : Int} (h : dateB y m d = false) : dayR y m d = 0 := if_neg (by rw [h]; simp)
theorem num_cum {y d : Int} {k : Nat} : num y ((k : Int) + 1) d = bef y + cum y k + d := by
  unfold num; rw [show ((k : Int) + 1 - 1).toNat = k by omega]
theorem cum_bd12 (y : Int) {k : Nat} (h : k ≤ 12) : 0 ≤ cum y k ∧ cum y k ≤ 366 := by
  have a := cum_le y (i := 0) (j := k) (by omega)
  have b := cum_le y (i := k) (j := 12) h
  have c := cum_12_bd y
  rw [cum] at a
  omega

theorem ival {a b : Int} (h : a = b) : Value.int .i64 a = .int .i64 b := by rw [h]
def RetI2 (n : Int) (b : Bool) (w : World) (e : Ending) (w' : World) : Prop := e = .returned (.tuple #[.int .i64 n, .bool b]) ∧ Below w.heap.size w w'
def RetNF (n f : Int) (w : World) (e : Ending) (w' : World) : Prop := e = .returned (.tuple #[.int .i64 n, .int .i64 f]) ∧ Below w.heap.size w w'

def RetD3 (y m d : Int) (w : World) (e : Ending) (w' : World) : Prop := e = .returned (.tuple #[.int .i64 y, .int .i64 m, .int .i64 d]) ∧ Below w.heap.size w w'
theorem Work.DateIs.year_le {day y m d v : Int} (h : DateIs day y m d) (hv : bef v < day) : v ≤ y := by
  have f := h.facts
  rcases Int.lt_or_le y v with k | k
  · have := bef_mono (a := y + 1) (b := v) (by omega); omega
  · exact k
def RetD4 (y m d f : Int) (w : World) (e : Ending) (w' : World) : Prop := e = .returned (.tuple #[.int .i64 y, .int .i64 m, .int .i64 d, .int .i64 f]) ∧ Below w.heap.size w w'
end Go.Proofs.YtcfhaljkemaefaaGreatDoor
