
/- A format that is being read, as it lies in memory: rows of structs that the call owns. -/
import Derived.Test.YthjlleifpnpfgaaGreatDoorF9
import Derived.Test.YthjlleifpnpfgaaGreatDoorJ7
namespace Go.Proofs.YthjlleifpnpfgaaGreatDoor
open Go.RowKit Limb Nmb Work
set_option linter.unusedVariables false
set_option linter.unusedSimpArgs false
def rowsC (k n : Nat) (f : Nat -> Nat -> Value) : List Value := (List.range n).flatMap fun j => (List.range k).map (f j)
theorem rowsC_succ (k n : Nat) (f : Nat -> Nat -> Value) : rowsC k (n + 1) f = rowsC k n f ++ (List.range k).map (f n) := by
 unfold rowsC
 rw [List.range_succ, List.flatMap_append]
 simp
theorem rowsC_len (k : Nat) (f : Nat -> Nat -> Value) : ∀ n, (rowsC k n f).length = n * k
 | 0 => by simp [rowsC]
 | n + 1 => by rw [rowsC_succ, List.length_append, rowsC_len k f n]; simp [Nat.add_mul]
theorem rowsC_at {k : Nat} {f : Nat -> Nat -> Value} : ∀ {n j i : Nat}, j < n -> i < k -> (rowsC k n f)[j * k + i]? = some (f j i)
 | 0, j, i, hj, _ => absurd hj (Nat.not_lt_zero _)
 | n + 1, j, i, hj, hi => by
  rw [rowsC_succ]
  rcases Nat.lt_or_ge j n with h | h
  ·have h1 : j * k + i < (rowsC k n f).length := by
    rw [rowsC_len]
    have := Nat.mul_le_mul_right k (show j + 1 <= n from h)
    rw [Nat.add_mul] at this
    omega
   rw [List.getElem?_append_left h1]
   exact rowsC_at h hi
  ·obtain rfl : j = n := by omega
   rw [List.getElem?_append_right (by rw [rowsC_len]; omega), rowsC_len, Nat.add_sub_cancel_left]
   simp [hi]
theorem rowsC_ext {k n : Nat} {f : Nat -> Nat -> Value} {l : List Value} (hl : l.length = n * k) (h : ∀ j, j < n -> ∀ i, i < k -> l[j * k + i]? = some (f j i)) : l = rowsC k n f := by
 refine List.ext_getElem? fun m => ?_
 rcases Nat.lt_or_ge m (n * k) with hm | hm
 ·have hk : 0 < k := by
   rcases Nat.eq_zero_or_pos k with h0 | h0
   ·subst h0; simp at hm
   ·exact h0
  have h1 : m / k < n := (Nat.div_lt_iff_lt_mul hk).2 hm
  have h2 : m % k < k := Nat.mod_lt _ hk
  have h3 : m / k * k + m % k = m := by rw [Nat.mul_comm]; exact Nat.div_add_mod m k
  have := h _ h1 _ h2
  rw [h3] at this
  rw [this]
  have := rowsC_at (f := f) h1 h2
  rw [h3] at this
  exact this.symm
 ·rw [List.getElem?_eq_none (by omega), List.getElem?_eq_none (by rw [rowsC_len]; omega)]
theorem rowsC_congr {k n : Nat} {f g : Nat -> Nat -> Value} (h : ∀ j, j < n -> ∀ i, i < k -> f j i = g j i) : rowsC k n f = rowsC k n g :=
 rowsC_ext (rowsC_len k f n) fun j hj i hi => by rw [rowsC_at hj hi, h j hj i hi]
theorem rowsC_set {k n j i : Nat} {f : Nat -> Nat -> Value} (v : Value) (hj : j < n) (hi : i < k) : (rowsC k n f).set (j * k + i) v = rowsC k n (fun a b => if a = j /\ b = i then v else f a b) := by
 refine rowsC_ext (by rw [List.length_set, rowsC_len]) fun a ha b hb => ?_
 rw [List.getElem?_set]
 by_cases h : a = j /\ b = i
 ·obtain ⟨rfl, rfl⟩ := h
  rw [if_pos rfl, if_pos (by
   rw [rowsC_len]
   have := Nat.mul_le_mul_right k (show a + 1 <= n from ha)
   rw [Nat.add_mul] at this
   omega), if_pos ⟨rfl, rfl⟩]
 ·have hne : j * k + i ≠ a * k + b := fun e => by
   have e1 : (j * k + i) / k = (a * k + b) / k := by rw [e]
   have e2 : (j * k + i) % k = (a * k + b) % k := by rw [e]
   have hk : 0 < k := by omega
   rw [Nat.mul_comm j, Nat.mul_comm a, Nat.mul_add_div hk, Nat.mul_add_div hk, Nat.div_eq_of_lt hi, Nat.div_eq_of_lt hb] at e1
   rw [Nat.mul_comm j, Nat.mul_comm a, Nat.mul_add_mod, Nat.mul_add_mod, Nat.mod_eq_of_lt hi, Nat.mod_eq_of_lt hb] at e2
   exact h ⟨by omega, by omega⟩
  rw [if_neg hne, if_neg h]
  exact rowsC_at ha hb
theorem own_keepT {w w' : World} {base : Nat} {E : TypeId} {size n : Nat} {v : Value} {xs : List Value} (h : w.ownsRow base E size v n xs) (hk : ∀ (g : Nat) (cs : Array Value), w.heap[g]? = some (.cells cs E (0, 0)) -> w'.heap[g]? = some (.cells cs E (0, 0))) : w'.ownsRow base E size v n xs := by
 refine ⟨h.1, ?_⟩
 rcases h.2 with hn | ⟨g, cap, cur, hv, hg, hh, r⟩
 ·exact .inl hn
 ·exact .inr ⟨g, cap, cur, hv, hg, hk g cur hh, r⟩
theorem own_rwsK {w : World} {base : Nat} {e : TypeId} {size n : Nat} {A : Option Addr} {c : Nat} {f : Nat -> Nat -> Value} (h : w.ownsRow base e size (.slice A n c) n (rowsC size n f)) : Rws w A size n f := by
 intro hn
 obtain ⟨h1, h2⟩ := h
 rcases h2 with ⟨h2, h3⟩ | ⟨g, cap, cur, hv, hb, hh, hn2, _, hs, ht⟩
 ·omega
 ·cases hv
  refine ⟨g, 0, rfl, lt_heap hh, fun j hj i hi => ?_⟩
  have hlt : j * size + i < n * size := by
   have := Nat.mul_le_mul_right size (show j + 1 <= n from hj)
   rw [Nat.add_mul] at this
   omega
  have h3 := rowsC_at (f := f) hj hi
  rw [<- ht, List.getElem?_take, if_pos hlt] at h3
  rw [Nat.zero_add, cell_of_row _ _ _ _ _ _ hh]
  simpa using h3
def Kw (w w' : World) : Prop := w.heap.size <= w'.heap.size /\ ∀ (g : Nat) (cs : Array Value) (T : TypeId) (f : Nat × Nat), w.heap[g]? = some (.cells cs T f) -> T ≠ 146 -> w'.heap[g]? = some (.cells cs T f)
theorem Kw.refl (w : World) : Kw w w := ⟨Nat.le_refl _, fun _ _ _ _ h _ => h⟩
theorem Kw.trans {a b c : World} (h : Kw a b) (k : Kw b c) : Kw a c := ⟨Nat.le_trans h.1 k.1, fun g cs T f hh hT => k.2 g cs T f (h.2 g cs T f hh hT) hT⟩
theorem Kw.of {w w' : World} (h : Below w.heap.size w w') : Kw w w' := ⟨h.size, fun g cs T f hh _ => heap_below hh h⟩
theorem Kw.grown {w w' : World} {b : Nat} {cs : Array Value} {f : Nat × Nat} (h : w.grownBy w' (some b)) (hb : w.heap[b]? = some (.cells cs 146 f)) : Kw w w' :=
 ⟨h.size, fun g cs' T f' hh hT => grown_block h (heap_ne hh hb hT) hh⟩
theorem Wds.block {w : World} {b : Nat} {L : List ByteArray} {bad : Bool} (h : Wds w b L bad) : ∃ cs, w.heap[b]? = some (.cells cs 146 (0, 0)) := by
 obtain ⟨A, c, hh, -⟩ := h
 exact ⟨_, hh⟩
def kndA (FA : Nat -> Option Addr) (j : Nat) (A : Option Addr) : Nat -> Option Addr := fun i => if i = j then A else FA i
def kndN (FC : Nat -> Nat) (j : Nat) (c : Nat) : Nat -> Nat := fun i => if i = j then c else FC i
structure KOwn (w : World) (B : Nat) (A : Option Addr) (c : Nat) (ks : List RKd) (FA : Nat -> Option Addr) (FC : Nat -> Nat) : Prop where
 kinds : w.ownsRow B 46 4 (.slice A ks.length c) ks.length (rowsC 4 ks.length (kindV ks FA FC))
 cols : ∀ j, j < ks.length -> w.ownsRow B 71 8 (.slice (FA j) (kA ks j).fields.length (FC j)) (kA ks j).fields.length (rowsC 8 (kA ks j).fields.length (colV (kA ks j).fields))
 apart : ∀ j, j + 1 < ks.length -> ∀ a a', FA j = some a -> FA (ks.length - 1) = some a' -> a.block ≠ a'.block
theorem KOwn.keep {w w' : World} {B : Nat} {A : Option Addr} {c : Nat} {ks : List RKd} {FA : Nat -> Option Addr} {FC : Nat -> Nat} (h : KOwn w B A c ks FA FC)
  (hk : ∀ (g : Nat) (cs : Array Value), w.heap[g]? = some (.cells cs 46 (0, 0)) -> w'.heap[g]? = some (.cells cs 46 (0, 0)))
  (hc : ∀ (g : Nat) (cs : Array Value), w.heap[g]? = some (.cells cs 71 (0, 0)) -> w'.heap[g]? = some (.cells cs 71 (0, 0))) : KOwn w' B A c ks FA FC :=
 ⟨own_keepT h.kinds hk, fun j hj => own_keepT (h.cols j hj) hc, h.apart⟩
def FmtOk (f : Fmt) (S N : Nat) : Prop := (((0 <= f.mark /\ f.mark <= 255) /\ (0 <= f.quote /\ f.quote <= 255)) /\ f.kinds.length <= N) /\ ∀ k ∈ f.kinds, ((k.tag.size <= S /\ k.under.size <= S) /\ k.fields.length <= N) /\ ∀ c ∈ k.fields, c.name.size <= S
theorem FmtOk.mono {f : Fmt} {S N M : Nat} (h : FmtOk f S N) (hm : N <= M) : FmtOk f S M := ⟨⟨h.1.1, Nat.le_trans h.1.2 hm⟩, fun k hk => ⟨⟨(h.2 k hk).1.1, Nat.le_trans (h.2 k hk).1.2 hm⟩, (h.2 k hk).2⟩⟩
theorem KOwn.kinds_ {w : World} {B : Nat} {A : Option Addr} {c : Nat} {f : Fmt} {FA : Nat -> Option Addr} {FC : Nat -> Nat} (h : KOwn w B A c f.kinds FA FC) {N : Nat} (hz : FmtOk f 9223372036854775807 N) : Kinds w A f.kinds FA FC := by
 have hm : ∀ {m c}, c <= maxLen -> m <= c -> m <= 9223372036854775807 := fun h1 h2 => by unfold maxLen at h1; omega
 refine ⟨⟨fun k hk => (hz.2 k hk).1.1, ?_⟩, own_rwsK h.kinds, fun j hj => ⟨⟨⟨fun c hc => (hz.2 _ (by rw [<- kA_get hj]; exact List.getElem_mem _)).2 c hc, ?_⟩, own_rwsK (h.cols j hj)⟩, ?_⟩⟩
 ·have := own_cap h.kinds; exact hm this.2 this.1
 ·have := own_cap (h.cols j hj); exact hm this.2 this.1
 ·exact (own_cap (h.cols j hj)).1
def frC (f : Fmt) (A : Option Addr) (c : Nat) (bg en : Bool) : Array Value := #[.int .u8 f.mark, .int .u8 f.quote, .slice A f.kinds.length c, .string f.head, .string f.tail, .string f.count, .string f.sum, .bool bg, .bool en]
def FR (w : World) (B r S N : Nat) (st : FSt) : Prop :=
 B <= r /\ FmtOk st.f S N /\ ∃ A c FA FC, w.heap[r]? = some (.cells (frC st.f A c st.begun st.ended) 113 (0, 0)) /\ KOwn w B A c st.f.kinds FA FC
theorem FR.keepK {w w' : World} {B r S N : Nat} {st : FSt} (h : FR w B r S N st) (hk : Kw w w') : FR w' B r S N st := by
 obtain ⟨h1, h2, A, c, FA, FC, h3, h4⟩ := h
 exact ⟨h1, h2, A, c, FA, FC, hk.2 _ _ _ _ h3 (by decide), h4.keep (fun g cs hh => hk.2 _ _ _ _ hh (by decide)) (fun g cs hh => hk.2 _ _ _ _ hh (by decide))⟩
theorem FR.mono {w : World} {B r S N M : Nat} {st : FSt} (h : FR w B r S N st) (hm : N <= M) : FR w B r S M st := ⟨h.1, h.2.1.mono hm, h.2.2⟩
theorem FR.below {w w' : World} {B r S N : Nat} {st : FSt} (h : FR w B r S N st) (hb : Below w.heap.size w w') : FR w' B r S N st := h.keepK (.of hb)
theorem obox9 {w : World} {g : Nat} {a b c d e f i j k : Value} {T : TypeId} (h : w.heap[g]? = some (.cells #[a, b, c, d, e, f, i, j, k] T (0, 0))) :
  ((w.cell? ⟨g, 0, none⟩ = some a /\ w.cell? ⟨g, 1, none⟩ = some b /\ w.cell? ⟨g, 2, none⟩ = some c /\ w.cell? ⟨g, 3, none⟩ = some d /\ w.cell? ⟨g, 4, none⟩ = some e /\ w.cell? ⟨g, 5, none⟩ = some f /\ w.cell? ⟨g, 6, none⟩ = some i /\ w.cell? ⟨g, 7, none⟩ = some j /\ w.cell? ⟨g, 8, none⟩ = some k) /\
   (w.frozen? ⟨g, 0, none⟩ = false /\ w.frozen? ⟨g, 1, none⟩ = false /\ w.frozen? ⟨g, 2, none⟩ = false /\ w.frozen? ⟨g, 3, none⟩ = false /\ w.frozen? ⟨g, 4, none⟩ = false /\ w.frozen? ⟨g, 5, none⟩ = false /\ w.frozen? ⟨g, 6, none⟩ = false /\ w.frozen? ⟨g, 7, none⟩ = false /\ w.frozen? ⟨g, 8, none⟩ = false)) /\ g < w.heap.size := by
 obtain ⟨h1, h2, h3⟩ := obox h
 exact ⟨⟨⟨h1 0 _ rfl, h1 1 _ rfl, h1 2 _ rfl, h1 3 _ rfl, h1 4 _ rfl, h1 5 _ rfl, h1 6 _ rfl, h1 7 _ rfl, h1 8 _ rfl⟩, h2 0 (by simp), h2 1 (by simp), h2 2 (by simp), h2 3 (by simp), h2 4 (by simp), h2 5 (by simp), h2 6 (by simp), h2 7 (by simp), h2 8 (by simp)⟩, h3⟩
theorem KOwn.set {w : World} {B : Nat} {A : Option Addr} {c r i : Nat} {ks : List RKd} {FA : Nat -> Option Addr} {FC : Nat -> Nat} {cs : Array Value} {f : Nat × Nat} (h : KOwn w B A c ks FA FC) (hr : w.heap[r]? = some (.cells cs 113 f)) (u : Value) : KOwn (w.setCell ⟨r, i, none⟩ u) B A c ks FA FC :=
 h.keep (fun g cs' hh => heap_far hh (heap_ne hh hr (by decide)) u) (fun g cs' hh => heap_far hh (heap_ne hh hr (by decide)) u)
def Ks (w w' : World) : Prop := w.heap.size <= w'.heap.size /\ ∀ (g : Nat) (cs : Array Value) (f : Nat × Nat), w.heap[g]? = some (.cells cs 9 f) -> w'.heap[g]? = some (.cells cs 9 f)
theorem Ks.trans {a b c : World} (h : Ks a b) (k : Ks b c) : Ks a c := ⟨Nat.le_trans h.1 k.1, fun g cs f hh => k.2 g cs f (h.2 g cs f hh)⟩
theorem Ks.of {w w' : World} (h : Kw w w') : Ks w w' := ⟨h.1, fun g cs f hh => h.2 g cs _ f hh (by decide)⟩
theorem Ks.set {w : World} {r i : Nat} {cs : Array Value} {T : TypeId} {f : Nat × Nat} (hr : w.heap[r]? = some (.cells cs T f)) (hT : T ≠ 9) (u : Value) : Ks w (w.setCell ⟨r, i, none⟩ u) :=
 ⟨by simp, fun g cs' f' hh => heap_far hh (heap_ne hh hr (Ne.symm hT)) u⟩
end Go.Proofs.YthjlleifpnpfgaaGreatDoor
