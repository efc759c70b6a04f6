/- The walks of the reference's isPlain, isOf, written. -/
import Derived.Test.YtbnjejenejoibaaGreatDoorV2
import Derived.Test.YtbnjejenejoibaaGreatDoorV3
import Derived.Test.YtbnjejenejoibaaGreatDoorT14
import Derived.Test.YtbnjejenejoibaaGreatDoorT5
import Derived.Test.YtbnjejenejoibaaGreatDoorRH
import Derived.Test.YtbnjejenejoibaaGreatDoorF9
import Derived.Test.YtbnjejenejoibaaGreatDoorJ7
-- merged: V4 FA FB Z2 ZC
namespace Go.Proofs.YtbnjejenejoibaaGreatDoor
open Go.RowKit Limb Nmb Work
set_option linter.unusedVariables false
set_option linter.unusedSimpArgs false
def rowsC (k n : Nat) (f : Nat -> Nat -> Value) : List Value := (List.range n).flatMap fun j => (List.range k).map (f j)
theorem rowsC_succ (k n : Nat) (f : Nat -> Nat -> Value) : rowsC k (n + 1) f = rowsC k n f ++ (List.range k).map (f n) := by
 unfold rowsC
 rw [List.range_succ, List.flatMap_append]
 simp
theorem rowsC_len (k : Nat) (f : Nat -> Nat -> Value) : ∀ n, (rowsC k n f).length = n * k
 | 0 => by simp [rowsC]
 | n + 1 => by rw [rowsC_succ, List.length_append, rowsC_len k f n]; simp [Nat.add_mul]
theorem rowsC_at {k : Nat} {f : Nat -> Nat -> Value} : ∀ {n j i : Nat}, j < n -> i < k -> (rowsC k n f)[j * k + i]? = some (f j i)
 | 0, j, i, hj, _ => absurd hj (Nat.not_lt_zero _)
 | n + 1, j, i, hj, hi => by
  rw [rowsC_succ]
  rcases Nat.lt_or_ge j n with h | h
  ·have h1 : j * k + i < (rowsC k n f).length := by
    rw [rowsC_len]
    have := Nat.mul_le_mul_right k (show j + 1 <= n from h)
    rw [Nat.add_mul] at this
    omega
   rw [List.getElem?_append_left h1]
   exact rowsC_at h hi
  ·obtain rfl : j = n := by omega
   rw [List.getElem?_append_right (by rw [rowsC_len]; omega), rowsC_len, Nat.add_sub_cancel_left]
   simp [hi]
theorem rowsC_ext {k n : Nat} {f : Nat -> Nat -> Value} {l : List Value} (hl : l.length = n * k) (h : ∀ j, j < n -> ∀ i, i < k -> l[j * k + i]? = some (f j i)) : l = rowsC k n f := by
 refine List.ext_getElem? fun m => ?_
 rcases Nat.lt_or_ge m (n * k) with hm | hm
 ·have hk : 0 < k := by
   rcases Nat.eq_zero_or_pos k with h0 | h0
   ·subst h0; simp at hm
   ·exact h0
  have h1 : m / k < n := (Nat.div_lt_iff_lt_mul hk).2 hm
  have h2 : m % k < k := Nat.mod_lt _ hk
  have h3 : m / k * k + m % k = m := by rw [Nat.mul_comm]; exact Nat.div_add_mod m k
  have := h _ h1 _ h2
  rw [h3] at this
  rw [this]
  have := rowsC_at (f := f) h1 h2
  rw [h3] at this
  exact this.symm
 ·rw [List.getElem?_eq_none (by omega), List.getElem?_eq_none (by rw [rowsC_len]; omega)]
theorem rowsC_congr {k n : Nat} {f g : Nat -> Nat -> Value} (h : ∀ j, j < n -> ∀ i, i < k -> f j i = g j i) : rowsC k n f = rowsC k n g :=
 rowsC_ext (rowsC_len k f n) fun j hj i hi => by rw [rowsC_at hj hi, h j hj i hi]
theorem rowsC_set {k n j i : Nat} {f : Nat -> Nat -> Value} (v : Value) (hj : j < n) (hi : i < k) : (rowsC k n f).set (j * k + i) v = rowsC k n (fun a b => if a = j /\ b = i then v else f a b) := by
 refine rowsC_ext (by rw [List.length_set, rowsC_len]) fun a ha b hb => ?_
 rw [List.getElem?_set]
 by_cases h : a = j /\ b = i
 ·obtain ⟨rfl, rfl⟩ := h
  rw [if_pos rfl, if_pos (by
   rw [rowsC_len]
   have := Nat.mul_le_mul_right k (show a + 1 <= n from ha)
   rw [Nat.add_mul] at this
   omega), if_pos ⟨rfl, rfl⟩]
 ·have hne : j * k + i ≠ a * k + b := fun e => by
   have e1 : (j * k + i) / k = (a * k + b) / k := by rw [e]
   have e2 : (j * k + i) % k = (a * k + b) % k := by rw [e]
   have hk : 0 < k := by omega
   rw [Nat.mul_comm j, Nat.mul_comm a, Nat.mul_add_div hk, Nat.mul_add_div hk, Nat.div_eq_of_lt hi, Nat.div_eq_of_lt hb] at e1
   rw [Nat.mul_comm j, Nat.mul_comm a, Nat.mul_add_mod, Nat.mul_add_mod, Nat.mod_eq_of_lt hi, Nat.mod_eq_of_lt hb] at e2
   exact h ⟨by omega, by omega⟩
  rw [if_neg hne, if_neg h]
  exact rowsC_at ha hb
theorem own_keepT {w w' : World} {base : Nat} {E : TypeId} {size n : Nat} {v : Value} {xs : List Value} (h : w.ownsRow base E size v n xs) (hk : ∀ (g : Nat) (cs : Array Value), w.heap[g]? = some (.cells cs E (0, 0)) -> w'.heap[g]? = some (.cells cs E (0, 0))) : w'.ownsRow base E size v n xs := by
 refine ⟨h.1, ?_⟩
 rcases h.2 with hn | ⟨g, cap, cur, hv, hg, hh, r⟩
 ·exact .inl hn
 ·exact .inr ⟨g, cap, cur, hv, hg, hk g cur hh, r⟩
theorem own_rwsK {w : World} {base : Nat} {e : TypeId} {size n : Nat} {A : Option Addr} {c : Nat} {f : Nat -> Nat -> Value} (h : w.ownsRow base e size (.slice A n c) n (rowsC size n f)) : Rws w A size n f := by
 intro hn
 obtain ⟨h1, h2⟩ := h
 rcases h2 with ⟨h2, h3⟩ | ⟨g, cap, cur, hv, hb, hh, hn2, _, hs, ht⟩
 ·omega
 ·cases hv
  refine ⟨g, 0, rfl, lt_heap hh, fun j hj i hi => ?_⟩
  have hlt : j * size + i < n * size := by
   have := Nat.mul_le_mul_right size (show j + 1 <= n from hj)
   rw [Nat.add_mul] at this
   omega
  have h3 := rowsC_at (f := f) hj hi
  rw [<- ht, List.getElem?_take, if_pos hlt] at h3
  rw [Nat.zero_add, cell_of_row _ _ _ _ _ _ hh]
  simpa using h3
def Kw (w w' : World) : Prop := w.heap.size <= w'.heap.size /\ ∀ (g : Nat) (cs : Array Value) (T : TypeId) (f : Nat × Nat), w.heap[g]? = some (.cells cs T f) -> T ≠ 147 -> w'.heap[g]? = some (.cells cs T f)
theorem Kw.refl (w : World) : Kw w w := ⟨Nat.le_refl _, fun _ _ _ _ h _ => h⟩
theorem Kw.trans {a b c : World} (h : Kw a b) (k : Kw b c) : Kw a c := ⟨Nat.le_trans h.1 k.1, fun g cs T f hh hT => k.2 g cs T f (h.2 g cs T f hh hT) hT⟩
theorem Kw.of {w w' : World} (h : Below w.heap.size w w') : Kw w w' := ⟨h.size, fun g cs T f hh _ => heap_below hh h⟩
theorem Kw.grown {w w' : World} {b : Nat} {cs : Array Value} {f : Nat × Nat} (h : w.grownBy w' (some b)) (hb : w.heap[b]? = some (.cells cs 147 f)) : Kw w w' :=
 ⟨h.size, fun g cs' T f' hh hT => grown_block h (heap_ne hh hb hT) hh⟩
theorem Wds.block {w : World} {b : Nat} {L : List ByteArray} {bad : Bool} (h : Wds w b L bad) : ∃ cs, w.heap[b]? = some (.cells cs 147 (0, 0)) := by
 obtain ⟨A, c, hh, -⟩ := h
 exact ⟨_, hh⟩
def kndA (FA : Nat -> Option Addr) (j : Nat) (A : Option Addr) : Nat -> Option Addr := fun i => if i = j then A else FA i
def kndN (FC : Nat -> Nat) (j : Nat) (c : Nat) : Nat -> Nat := fun i => if i = j then c else FC i
structure KOwn (w : World) (B : Nat) (A : Option Addr) (c : Nat) (ks : List RKd) (FA : Nat -> Option Addr) (FC : Nat -> Nat) : Prop where
 kinds : w.ownsRow B 46 4 (.slice A ks.length c) ks.length (rowsC 4 ks.length (kindV ks FA FC))
 cols : ∀ j, j < ks.length -> w.ownsRow B 85 8 (.slice (FA j) (kA ks j).fields.length (FC j)) (kA ks j).fields.length (rowsC 8 (kA ks j).fields.length (colV (kA ks j).fields))
 apart : ∀ j, j + 1 < ks.length -> ∀ a a', FA j = some a -> FA (ks.length - 1) = some a' -> a.block ≠ a'.block
theorem KOwn.keep {w w' : World} {B : Nat} {A : Option Addr} {c : Nat} {ks : List RKd} {FA : Nat -> Option Addr} {FC : Nat -> Nat} (h : KOwn w B A c ks FA FC)
  (hk : ∀ (g : Nat) (cs : Array Value), w.heap[g]? = some (.cells cs 46 (0, 0)) -> w'.heap[g]? = some (.cells cs 46 (0, 0)))
  (hc : ∀ (g : Nat) (cs : Array Value), w.heap[g]? = some (.cells cs 85 (0, 0)) -> w'.heap[g]? = some (.cells cs 85 (0, 0))) : KOwn w' B A c ks FA FC :=
 ⟨own_keepT h.kinds hk, fun j hj => own_keepT (h.cols j hj) hc, h.apart⟩
def FmtOk (f : Fmt) (S N : Nat) : Prop := (((0 <= f.mark /\ f.mark <= 255) /\ (0 <= f.quote /\ f.quote <= 255)) /\ f.kinds.length <= N) /\ ∀ k ∈ f.kinds, ((k.tag.size <= S /\ k.under.size <= S) /\ k.fields.length <= N) /\ ∀ c ∈ k.fields, c.name.size <= S
theorem FmtOk.mono {f : Fmt} {S N M : Nat} (h : FmtOk f S N) (hm : N <= M) : FmtOk f S M := ⟨⟨h.1.1, Nat.le_trans h.1.2 hm⟩, fun k hk => ⟨⟨(h.2 k hk).1.1, Nat.le_trans (h.2 k hk).1.2 hm⟩, (h.2 k hk).2⟩⟩
theorem KOwn.kinds_ {w : World} {B : Nat} {A : Option Addr} {c : Nat} {f : Fmt} {FA : Nat -> Option Addr} {FC : Nat -> Nat} (h : KOwn w B A c f.kinds FA FC) {N : Nat} (hz : FmtOk f 9223372036854775807 N) : Kinds w A f.kinds FA FC := by
 have hm : ∀ {m c}, c <= maxLen -> m <= c -> m <= 9223372036854775807 := fun h1 h2 => by unfold maxLen at h1; omega
 refine ⟨⟨fun k hk => (hz.2 k hk).1.1, ?_⟩, own_rwsK h.kinds, fun j hj => ⟨⟨⟨fun c hc => (hz.2 _ (by rw [<- kA_get hj]; exact List.getElem_mem _)).2 c hc, ?_⟩, own_rwsK (h.cols j hj)⟩, ?_⟩⟩
 ·have := own_cap h.kinds; exact hm this.2 this.1
 ·have := own_cap (h.cols j hj); exact hm this.2 this.1
 ·exact (own_cap (h.cols j hj)).1
def frC (f : Fmt) (A : Option Addr) (c : Nat) (bg en : Bool) : Array Value := #[.int .u8 f.mark, .int .u8 f.quote, .slice A f.kinds.length c, .string f.head, .string f.tail, .string f.count, .string f.sum, .bool bg, .bool en]
def FR (w : World) (B r S N : Nat) (st : FSt) : Prop :=
 B <= r /\ FmtOk st.f S N /\ ∃ A c FA FC, w.heap[r]? = some (.cells (frC st.f A c st.begun st.ended) 118 (0, 0)) /\ KOwn w B A c st.f.kinds FA FC
theorem FR.keepK {w w' : World} {B r S N : Nat} {st : FSt} (h : FR w B r S N st) (hk : Kw w w') : FR w' B r S N st := by
 obtain ⟨h1, h2, A, c, FA, FC, h3, h4⟩ := h
 exact ⟨h1, h2, A, c, FA, FC, hk.2 _ _ _ _ h3 (by decide), h4.keep (fun g cs hh => hk.2 _ _ _ _ hh (by decide)) (fun g cs hh => hk.2 _ _ _ _ hh (by decide))⟩
theorem FR.mono {w : World} {B r S N M : Nat} {st : FSt} (h : FR w B r S N st) (hm : N <= M) : FR w B r S M st := ⟨h.1, h.2.1.mono hm, h.2.2⟩
theorem FR.below {w w' : World} {B r S N : Nat} {st : FSt} (h : FR w B r S N st) (hb : Below w.heap.size w w') : FR w' B r S N st := h.keepK (.of hb)
theorem obox9 {w : World} {g : Nat} {a b c d e f i j k : Value} {T : TypeId} (h : w.heap[g]? = some (.cells #[a, b, c, d, e, f, i, j, k] T (0, 0))) :
  ((w.cell? ⟨g, 0, none⟩ = some a /\ w.cell? ⟨g, 1, none⟩ = some b /\ w.cell? ⟨g, 2, none⟩ = some c /\ w.cell? ⟨g, 3, none⟩ = some d /\ w.cell? ⟨g, 4, none⟩ = some e /\ w.cell? ⟨g, 5, none⟩ = some f /\ w.cell? ⟨g, 6, none⟩ = some i /\ w.cell? ⟨g, 7, none⟩ = some j /\ w.cell? ⟨g, 8, none⟩ = some k) /\
   (w.frozen? ⟨g, 0, none⟩ = false /\ w.frozen? ⟨g, 1, none⟩ = false /\ w.frozen? ⟨g, 2, none⟩ = false /\ w.frozen? ⟨g, 3, none⟩ = false /\ w.frozen? ⟨g, 4, none⟩ = false /\ w.frozen? ⟨g, 5, none⟩ = false /\ w.frozen? ⟨g, 6, none⟩ = false /\ w.frozen? ⟨g, 7, none⟩ = false /\ w.frozen? ⟨g, 8, none⟩ = false)) /\ g < w.heap.size := by
 obtain ⟨h1, h2, h3⟩ := obox h
 exact ⟨⟨⟨h1 0 _ rfl, h1 1 _ rfl, h1 2 _ rfl, h1 3 _ rfl, h1 4 _ rfl, h1 5 _ rfl, h1 6 _ rfl, h1 7 _ rfl, h1 8 _ rfl⟩, h2 0 (by simp), h2 1 (by simp), h2 2 (by simp), h2 3 (by simp), h2 4 (by simp), h2 5 (by simp), h2 6 (by simp), h2 7 (by simp), h2 8 (by simp)⟩, h3⟩
theorem KOwn.set {w : World} {B : Nat} {A : Option Addr} {c r i : Nat} {ks : List RKd} {FA : Nat -> Option Addr} {FC : Nat -> Nat} {cs : Array Value} {f : Nat × Nat} (h : KOwn w B A c ks FA FC) (hr : w.heap[r]? = some (.cells cs 118 f)) (u : Value) : KOwn (w.setCell ⟨r, i, none⟩ u) B A c ks FA FC :=
 h.keep (fun g cs' hh => heap_far hh (heap_ne hh hr (by decide)) u) (fun g cs' hh => heap_far hh (heap_ne hh hr (by decide)) u)
def Ks (w w' : World) : Prop := w.heap.size <= w'.heap.size /\ ∀ (g : Nat) (cs : Array Value) (f : Nat × Nat), w.heap[g]? = some (.cells cs 9 f) -> w'.heap[g]? = some (.cells cs 9 f)
theorem Ks.trans {a b c : World} (h : Ks a b) (k : Ks b c) : Ks a c := ⟨Nat.le_trans h.1 k.1, fun g cs f hh => k.2 g cs f (h.2 g cs f hh)⟩
theorem Ks.of {w w' : World} (h : Kw w w') : Ks w w' := ⟨h.1, fun g cs f hh => h.2 g cs _ f hh (by decide)⟩
theorem Ks.set {w : World} {r i : Nat} {cs : Array Value} {T : TypeId} {f : Nat × Nat} (hr : w.heap[r]? = some (.cells cs T f)) (hT : T ≠ 9) (u : Value) : Ks w (w.setCell ⟨r, i, none⟩ u) :=
 ⟨by simp, fun g cs' f' hh => heap_far hh (heap_ne hh hr (Ne.symm hT)) u⟩
def RetLn (o : Option FSt) (B r b S N : Nat) (w : World) (e : Ending) (w' : World) : Prop :=
 ∃ ok L' bad', e = .returned (.bool ok) /\ Wds w' b L' bad' /\ (∀ st', o = some st' -> ok = true /\ L' = [] /\ bad' = false /\ FR w' B r S N st') /\ (o = none -> ¬ (ok = true /\ L' = [] /\ bad' = false)) /\ Below B w w' /\ Ks w w'
theorem RetLn.no {o : Option FSt} {B r b S N : Nat} {w w' : World} {ok bad : Bool} {L : List ByteArray} (ho : o = none) (h : ¬ (ok = true /\ L = [] /\ bad = false)) (hw : Wds w' b L bad) (hb : Below B w w') (hk : Ks w w') : RetLn o B r b S N w (.returned (.bool ok)) w' :=
 ⟨ok, L, bad, rfl, hw, (fun st' e => by rw [ho] at e; cases e), fun _ => h, hb, hk⟩
theorem RetLn.yes {o : Option FSt} {B r b S N : Nat} {w w' : World} {st : FSt} (ho : o = some st) (hw : Wds w' b [] false) (hf : FR w' B r S N st) (hb : Below B w w') (hk : Ks w w') : RetLn o B r b S N w (.returned (.bool true)) w' :=
 ⟨true, [], false, rfl, hw, (fun st' e => by rw [ho] at e; injection e with e; subst e; exact ⟨rfl, rfl, rfl, hf⟩), (fun e => by rw [ho] at e; cases e), hb, hk⟩
theorem below_grown {B b : Nat} {w w' : World} (h : w.grownBy w' (some b)) (hb : B <= b) (hs : B <= w.heap.size) : Below B w w' :=
 ⟨h.os, h.tape, h.output, h.size, fun k hk => h.block k (by omega) (fun e => by injection e with e; omega)⟩
theorem Wds.lt {w : World} {b : Nat} {L : List ByteArray} {bad : Bool} (h : Wds w b L bad) : b < w.heap.size := by
 obtain ⟨cs, hh⟩ := h.block
 exact lt_heap hh
theorem Wds.set {w : World} {b r i : Nat} {L : List ByteArray} {bad : Bool} {cs : Array Value} {T : TypeId} {f : Nat × Nat} (h : Wds w b L bad) (hr : w.heap[r]? = some (.cells cs T f)) (hT : T ≠ 147) (hS : T ≠ 9) (u : Value) : Wds (w.setCell ⟨r, i, none⟩ u) b L bad := by
 obtain ⟨A, c, hh, h1, h2, hs⟩ := h
 exact ⟨A, c, heap_far hh (heap_ne hh hr (Ne.symm hT)) u, h1, h2, hs.far hr (Ne.symm hS) u⟩
theorem Wds.below {w w' : World} {b : Nat} {L : List ByteArray} {bad : Bool} (h : Wds w b L bad) (hb : Below w.heap.size w w') : Wds w' b L bad := by
 obtain ⟨A, c, hh, h1, h2, hs⟩ := h
 exact ⟨A, c, heap_below hh hb, h1, h2, hs.below hb⟩
theorem nOk_lt {L : List ByteArray} {i : Nat} (h : nOk (wd L i) = true) : i < L.length := by
 rcases Nat.lt_or_ge i L.length with h1 | h1
 ·exact h1
 ·have e : wd L i = eS := by unfold wd; rw [List.getD_eq_getElem?_getD, List.getElem?_eq_none h1]; rfl
  rw [e] at h
  exact absurd h (by decide)
theorem yOk_lt {L : List ByteArray} {i : Nat} (h : yOk (wd L i) = true) : i < L.length := by
 unfold yOk at h
 rw [Bool.and_eq_true] at h
 exact nOk_lt h.1
theorem FmtOk.mark {f : Fmt} {S N : Nat} (h : FmtOk f S N) {m q : Int} (hm : 0 <= m /\ m <= 255) (hq : 0 <= q /\ q <= 255) : FmtOk { f with mark := m, quote := q } S N := ⟨⟨⟨hm, hq⟩, h.1.2⟩, h.2⟩
set_option maxHeartbeats 1000000 in
set_option maxRecDepth 100000 in
theorem first_c (B r b S N : Nat) (st : FSt) (h : ByteArray) (L : List ByteArray) (w : World) (hS : S <= 9223372036854775807) (hz : ∀ s ∈ L, s.size <= S) (hB : B <= b) (hf : FR w B r S N st) (hw : Wds w b L false) :
  Calls Tryz.prog 93 #[.pointer (some ⟨r, 0, none⟩), .string h, .pointer (some ⟨b, 0, none⟩)] w (RetLn (frstF st h L) B r b S N w) := by
 obtain ⟨hBr, hok, A, c, FA, FC, hh, hK⟩ := hf
 have hBw : B <= w.heap.size := by have := lt_heap hh; omega
 obtain ⟨⟨m, q, ks, hd, tl, ct, sm⟩, bg, en⟩ := st
 unfold frC at hh
 simp only at hh hK hok
 have hh1 := heap_set hh 7 (.bool true)
 have hh1 : (w.setCell ⟨r, 7, none⟩ (.bool true)).heap[r]? = some (.cells #[.int .u8 m, .int .u8 q, .slice A ks.length c, .string hd, .string tl, .string ct, .string sm, .bool true, .bool en] 118 (0, 0)) := by simpa using hh1
 have hK1 := hK.set (i := 7) hh (.bool true)
 have hw1 := hw.set (i := 7) hh (by decide) (by decide) (.bool true)
 have hb1 : Below B w (w.setCell ⟨r, 7, none⟩ (.bool true)) := (Below.refl _ _).setCell (p := ⟨r, 7, none⟩) hBr _
 have hk1 : Ks w (w.setCell ⟨r, 7, none⟩ (.bool true)) := Ks.set (i := 7) hh (by decide) (.bool true)
 have hs1 : (w.setCell ⟨r, 7, none⟩ (.bool true)).heap.size = w.heap.size := by simp
 obtain ⟨⟨⟨g0, g1, g2, g3, g4, g5, g6, g7, g8⟩, z0, z1, z2, z3, z4, z5, z6, z7, z8⟩, hlt⟩ := obox9 hh
 have HH := Lib.hid hh1; have HK := Lib.hid hK1; have HW := Lib.hid hw1; have HKS := Lib.hid hk1; have HOK := Lib.hid hok
 clear hh hh1 hK hK1 hw hw1 hk1 hok
 by_cases h1 : h = wFixed
 ·have e1 : (h.toList == [102, 105, 120, 101, 100]) = true := by rw [lit_dec]; exact decide_eq_true h1
  have HE := Lib.hid (show frstF ⟨⟨m, q, ks, hd, tl, ct, sm⟩, bg, en⟩ h L = if L.length = 0 then some ⟨⟨m, q, ks, hd, tl, ct, sm⟩, true, en⟩ else none by unfold frstF; rw [if_pos h1])
  clear h1
  go_enter Tryz.func93, Tryz.ntmps93
  go_wp2
  go_ret
  by_cases hl : L.length = 0
  ·have hl' := List.length_eq_zero_iff.1 hl
   subst hl'
   exact RetLn.yes (st := ⟨⟨m, q, ks, hd, tl, ct, sm⟩, true, en⟩) (by rw [HE.out, if_pos List.length_nil]) HW.out ⟨hBr, HOK.out, A, c, FA, FC, HH.out, HK.out⟩ hb1 HKS.out
  ·exact RetLn.no (L := L) (bad := false) (by rw [HE.out, if_neg hl]) (fun h => hl (by rw [h.2.1]; rfl)) HW.out hb1 HKS.out
 have e1 : (h.toList == [102, 105, 120, 101, 100]) = false := by rw [lit_dec]; exact decide_eq_false h1
 by_cases h2 : h = wMarked
 case neg =>
  have e2 : (h.toList == [109, 97, 114, 107, 101, 100]) = false := by rw [lit_dec]; exact decide_eq_false h2
  have HE := Lib.hid (show frstF ⟨⟨m, q, ks, hd, tl, ct, sm⟩, bg, en⟩ h L = none by unfold frstF; rw [if_neg h1, if_neg h2])
  clear h1 h2
  go_enter Tryz.func93, Tryz.ntmps93
  go_wp2
  go_ret
  exact RetLn.no (L := L) (bad := false) HE.out (fun h => by cases h.1) HW.out hb1 HKS.out
 have e2 : (h.toList == [109, 97, 114, 107, 101, 100]) = true := by rw [lit_dec]; exact decide_eq_true h2
 have HE := Lib.hid (show frstF ⟨⟨m, q, ks, hd, tl, ct, sm⟩, bg, en⟩ h L = if L.length = 2 /\ yOk (wd L 0) = true /\ yOk (wd L 1) = true /\ nVal (wd L 0) ≠ 0 then some ⟨⟨nVal (wd L 0), nVal (wd L 1), ks, hd, tl, ct, sm⟩, true, en⟩ else none by unfold frstF; rw [if_neg h1, if_pos h2])
 have b0 := nVal_bd (wd L 0)
 have b1 := nVal_bd (wd L 1)
 clear h1 h2
 have HX := Lib.hid (wbyte_c b L false _ (fun s hs => Nat.le_trans (hz s hs) hS) HW.out)
 have HY := Lib.hid (fun bad w h => wbyte_c b L.tail bad w (fun s hs => Nat.le_trans (hz s (List.mem_of_mem_tail hs)) hS) h)
 rw [wd_tail] at HY
 obtain ⟨N0, hN0⟩ : ∃ x, nVal (wd L 0) = x := ⟨_, rfl⟩
 obtain ⟨N1, hN1⟩ : ∃ x, nVal (wd L 1) = x := ⟨_, rfl⟩
 obtain ⟨Y0, hY0⟩ : ∃ x, yOk (wd L 0) = x := ⟨_, rfl⟩
 obtain ⟨Y1, hY1⟩ : ∃ x, yOk (wd L 1) = x := ⟨_, rfl⟩
 rw [hN0, hY0] at HX
 rw [show (0 + 1 : Nat) = 1 from rfl, hN1, hY1] at HY
 rw [hN0, hN1, hY0, hY1] at HE
 rw [hN0] at b0
 rw [hN1] at b1
 have HY0 := Lib.hid (show Y0 = true -> N0 <= 255 from fun h => by
  rw [<- hY0] at h
  unfold yOk at h
  rw [hN0] at h
  simp only [Bool.and_eq_true, decide_eq_true_eq] at h
  exact h.2)
 have HY1 := Lib.hid (show Y1 = true -> N1 <= 255 from fun h => by
  rw [<- hY1] at h
  unfold yOk at h
  rw [hN1] at h
  simp only [Bool.and_eq_true, decide_eq_true_eq] at h
  exact h.2)
 have HL := Lib.hid (show Y0 = true -> Y1 = true -> 1 < L.length from fun h1 h2 => yOk_lt (by rw [hY1]; exact h2))
 clear hN0 hN1 hY0 hY1
 go_enter Tryz.func93, Tryz.ntmps93
 go_wp2_with fail
 refine HX.out.mono ?_
 rintro e w2 ⟨rfl, hw2, hg2⟩
 obtain ⟨cs1, hbl1⟩ := HW.out.block
 have hk2 := Kw.grown hg2 hbl1
 have hb2 := hb1.trans (below_grown hg2 hB (by rw [hs1]; exact hBw))
 have hl2 := hg2.size
 rw [hs1] at hl2
 go_wp2_with fail
 refine (HY.out _ _ hw2).mono ?_
 rintro e w3 ⟨rfl, hw3, hg3⟩
 obtain ⟨cs2, hbl2⟩ := hw2.block
 have hk3 := Kw.trans hk2 (Kw.grown hg3 hbl2)
 have hb3 := hb2.trans (below_grown hg3 hB (by omega))
 have hh3 := hk3.2 _ _ _ _ HH.out (by decide)
 have hK3 := HK.out.keep (fun g cs hh => hk3.2 _ _ _ _ hh (by decide)) (fun g cs hh => hk3.2 _ _ _ _ hh (by decide))
 have HH3 := Lib.hid hh3; have HK3 := Lib.hid hK3; have HW3 := Lib.hid hw3; have HKS3 := Lib.hid (Ks.trans HKS.out (Ks.of hk3)); have HB3 := Lib.hid hb3
 clear g0 g1 g2 g3 g4 g5 g6 g7 g8 z0 z1 z2 z3 z4 z5 z6 z7 z8 hlt hk2 hk3 hh3 hK3 hw3 hb3 hb2 hg3 hg2 hl2 hbl1 hbl2 hw2
 obtain ⟨⟨⟨g0, g1, g2, g3, g4, g5, g6, g7, g8⟩, z0, z1, z2, z3, z4, z5, z6, z7, z8⟩, hlt⟩ := obox9 HH3.out
 go_wp2_with fail
 go_ret
 have e5 := heap_set HH3.out 0 (.int .u8 (N0 % 256))
 have e6 := heap_set e5 1 (.int .u8 (N1 % 256))
 have e6 : ((w3.setCell ⟨r, 0, none⟩ (.int .u8 (N0 % 256))).setCell ⟨r, 1, none⟩ (.int .u8 (N1 % 256))).heap[r]? = some (.cells #[.int .u8 (N0 % 256), .int .u8 (N1 % 256), .slice A ks.length c, .string hd, .string tl, .string ct, .string sm, .bool true, .bool en] 118 (0, 0)) := by simpa using e6
 have eW := (HW3.out.set (i := 0) HH3.out (by decide) (by decide) (.int .u8 (N0 % 256))).set (i := 1) e5 (by decide) (by decide) (.int .u8 (N1 % 256))
 have eK := (HK3.out.set (i := 0) HH3.out (.int .u8 (N0 % 256))).set (i := 1) e5 (.int .u8 (N1 % 256))
 have eB : Below B w ((w3.setCell ⟨r, 0, none⟩ (.int .u8 (N0 % 256))).setCell ⟨r, 1, none⟩ (.int .u8 (N1 % 256))) := (HB3.out.setCell (p := ⟨r, 0, none⟩) hBr _).setCell (p := ⟨r, 1, none⟩) hBr _
 have eS := HKS3.out.trans ((Ks.set (i := 0) HH3.out (by decide) (.int .u8 (N0 % 256))).trans (Ks.set (i := 1) e5 (by decide) (.int .u8 (N1 % 256))))
 by_cases hc : L.length = 2 /\ Y0 = true /\ Y1 = true /\ N0 ≠ 0
 ·obtain ⟨c1, c2, c3, c4⟩ := hc
  have l0 := HY0.out c2
  have l1 := HY1.out c3
  have hm0 : N0 % 256 = N0 := by omega
  have hm1 : N1 % 256 = N1 := by omega
  rw [hm0, hm1] at e6 eW eK eB eS ⊢
  have ht : L.tail.tail = [] := by
   match L, c1 with
   | [a, b], _ => rfl
  have hbf : (false || !Y0 || !Y1) = false := by rw [c2, c3]; rfl
  rw [ht, hbf] at eW
  have hbt : (N0 != 0) = true := by simpa using c4
  show RetLn _ B r b S N w (.returned (.bool (N0 != 0))) _
  rw [hbt]
  exact RetLn.yes (st := ⟨⟨N0, N1, ks, hd, tl, ct, sm⟩, true, en⟩) (by rw [HE.out, if_pos ⟨c1, c2, c3, c4⟩]) eW ⟨hBr, HOK.out.mark (by omega) (by omega), A, c, FA, FC, e6, eK⟩ eB eS
 ·refine RetLn.no (L := L.tail.tail) (bad := (false || !Y0 || !Y1)) (by rw [HE.out, if_neg hc]) (fun h => hc ?_) eW eB eS
  obtain ⟨k1, k2, k3⟩ := h
  have y0 : Y0 = true := by cases Y0 with | true => rfl | false => simp at k3
  have y1 : Y1 = true := by cases Y1 with | true => rfl | false => simp at k3
  have hlen := HL.out y0 y1
  have hL2 : L.length = 2 := by
   match L, hlen, k2 with
   | [a, b], _, _ => rfl
   | a :: b :: d :: L, _, k => simp at k
  have k1' : (N0 % 256 != 0) = true := k1
  have l0 := HY0.out y0
  have hm0 : N0 % 256 = N0 := by omega
  rw [hm0] at k1'
  exact ⟨hL2, y0, y1, by simpa using k1'⟩
end Go.Proofs.YtbnjejenejoibaaGreatDoor
namespace Go.Proofs.YtbnjejenejoibaaGreatDoor
open Limb Nmb Work
set_option linter.unusedVariables false
set_option linter.unusedSimpArgs false
end Go.Proofs.YtbnjejenejoibaaGreatDoor
