/- A format that is being read, as it lies in memory: rows of structs that the call owns. The walk of the format reader's first. A kind, a column is put behind the others: the rows in memory. An element of k cells is appended to a row of the call's own; a slice of such elements is appended. -/
import Derived.Test.YtcfhaljkemaefaaGreatDoorF9
import Derived.Test.YtcfhaljkemaefaaGreatDoorJ3
import Derived.Deep.AppendSrc
-- merged: FA FB FC ZP

namespace Go.Proofs.YtcfhaljkemaefaaGreatDoor
open Go.RowKit Limb Nmb Work
set_option linter.unusedVariables false
set_option linter.unusedSimpArgs false

/-! ### Rows of k cells, as values -/
def rowsC (k n : Nat) (f : Nat → Nat → Value) : List Value := (List.range n).flatMap fun j => (List.range k).map (f j)
theorem rowsC_succ (k n : Nat) (f : Nat → Nat → Value) : rowsC k (n + 1) f = rowsC k n f ++ (List.range k).map (f n) := by
  unfold rowsC
  rw [List.range_succ, List.flatMap_append]
  simp
theorem rowsC_len (k : Nat) (f : Nat → Nat → Value) : ∀ n, (rowsC k n f).length = n * k
  | 0 => by simp [rowsC]
  | n + 1 => by rw [rowsC_succ, List.length_append, rowsC_len k f n]; simp [Nat.add_mul]
theorem rowsC_at {k : Nat} {f : Nat → Nat → Value} : ∀ {n j i : Nat}, j < n → i < k → (rowsC k n f)[j * k + i]? = some (f j i)
  | 0, j, i, hj, _ => absurd hj (Nat.not_lt_zero _)
  | n + 1, j, i, hj, hi => by
    rw [rowsC_succ]
    rcases Nat.lt_or_ge j n with h | h
    · have h1 : j * k + i < (rowsC k n f).length := by
        rw [rowsC_len]
        have := Nat.mul_le_mul_right k (show j + 1 ≤ n from h)
        rw [Nat.add_mul] at this
        omega
      rw [List.getElem?_append_left h1]
      exact rowsC_at h hi
    · obtain rfl : j = n := by omega
      rw [List.getElem?_append_right (by rw [rowsC_len]; omega), rowsC_len, Nat.add_sub_cancel_left]
      simp [hi]
theorem rowsC_ext {k n : Nat} {f : Nat → Nat → Value} {l : List Value} (hl : l.length = n * k) (h : ∀ j, j < n → ∀ i, i < k → l[j * k + i]? = some (f j i)) : l = rowsC k n f := by
  refine List.ext_getElem? fun m => ?_
  rcases Nat.lt_or_ge m (n * k) with hm | hm
  · have hk : 0 < k := by
      rcases Nat.eq_zero_or_pos k with h0 | h0
      · subst h0; simp at hm
      · exact h0
    have h1 : m / k < n := (Nat.div_lt_iff_lt_mul hk).2 hm
    have h2 : m % k < k := Nat.mod_lt _ hk
    have h3 : m / k * k + m % k = m := by rw [Nat.mul_comm]; exact Nat.div_add_mod m k
    have := h _ h1 _ h2
    rw [h3] at this
    rw [this]
    have := rowsC_at (f := f) h1 h2
    rw [h3] at this
    exact this.symm
  · rw [List.getElem?_eq_none (by omega), List.getElem?_eq_none (by rw [rowsC_len]; omega)]
theorem rowsC_congr {k n : Nat} {f g : Nat → Nat → Value} (h : ∀ j, j < n → ∀ i, i < k → f j i = g j i) : rowsC k n f = rowsC k n g :=
  rowsC_ext (rowsC_len k f n) fun j hj i hi => by rw [rowsC_at hj hi, h j hj i hi]
theorem rowsC_set {k n j i : Nat} {f : Nat → Nat → Value} (v : Value) (hj : j < n) (hi : i < k) : (rowsC k n f).set (j * k + i) v = rowsC k n (fun a b => if a = j ∧ b = i then v else f a b) := by
  refine rowsC_ext (by rw [List.length_set, rowsC_len]) fun a ha b hb => ?_
  rw [List.getElem?_set]
  by_cases h : a = j ∧ b = i
  · obtain ⟨rfl, rfl⟩ := h
    rw [if_pos rfl, if_pos (by
      rw [rowsC_len]
      have := Nat.mul_le_mul_right k (show a + 1 ≤ n from ha)
      rw [Nat.add_mul] at this
      omega), if_pos ⟨rfl, rfl⟩]
  · have hne : j * k + i ≠ a * k + b := fun e => by
      have e1 : (j * k + i) / k = (a * k + b) / k := by rw [e]
      have e2 : (j * k + i) % k = (a * k + b) % k := by rw [e]
      have hk : 0 < k := by omega
      rw [Nat.mul_comm j, Nat.mul_comm a, Nat.mul_add_div hk, Nat.mul_add_div hk, Nat.div_eq_of_lt hi, Nat.div_eq_of_lt hb] at e1
      rw [Nat.mul_comm j, Nat.mul_comm a, Nat.mul_add_mod, Nat.mul_add_mod, Nat.mod_eq_of_lt hi, Nat.mod_eq_of_lt hb] at e2
      exact h ⟨by omega, by omega⟩
    rw [if_neg hne, if_neg h]
    exact rowsC_at ha hb

/-! ### What is owned stays, seen by the type of its block -/
theorem own_keepT {w w' : World} {base : Nat} {E : TypeId} {size n : Nat} {v : Value} {xs : List Value} (h : w.ownsRow base E size v n xs) (hk : ∀ (g : Nat) (cs : Array Value), w.heap[g]? = some (.cells cs E (0, 0)) → w'.heap[g]? = some (.cells cs E (0, 0))) : w'.ownsRow base E size v n xs := by
  refine ⟨h.1, ?_⟩
  rcases h.2 with hn | ⟨g, cap, cur, hv, hg, hh, r⟩
  · exact .inl hn
  · exact .inr ⟨g, cap, cur, hv, hg, hk g cur hh, r⟩
theorem own_rwsK {w : World} {base : Nat} {e : TypeId} {size n : Nat} {A : Option Addr} {c : Nat} {f : Nat → Nat → Value} (h : w.ownsRow base e size (.slice A n c) n (rowsC size n f)) : Rws w A size n f := by
  intro hn
  obtain ⟨h1, h2⟩ := h
  rcases h2 with ⟨h2, h3⟩ | ⟨g, cap, cur, hv, hb, hh, hn2, _, hs, ht⟩
  · omega
  · cases hv
    refine ⟨g, 0, rfl, lt_heap hh, fun j hj i hi => ?_⟩
    have hlt : j * size + i < n * size := by
      have := Nat.mul_le_mul_right size (show j + 1 ≤ n from hj)
      rw [Nat.add_mul] at this
      omega
    have h3 := rowsC_at (f := f) hj hi
    rw [← ht, List.getElem?_take, if_pos hlt] at h3
    rw [Nat.zero_add, cell_of_row _ _ _ _ _ _ hh]
    simpa using h3
/-! ### The state -/
def kndA (FA : Nat → Option Addr) (j : Nat) (A : Option Addr) : Nat → Option Addr := fun i => if i = j then A else FA i
def kndN (FC : Nat → Nat) (j : Nat) (c : Nat) : Nat → Nat := fun i => if i = j then c else FC i
def FmtOk (f : Fmt) (S N : Nat) : Prop := (((0 ≤ f.mark ∧ f.mark ≤ 255) ∧ (0 ≤ f.quote ∧ f.quote ≤ 255)) ∧ f.kinds.length ≤ N) ∧ ∀ k ∈ f.kinds, ((k.tag.size ≤ S ∧ k.under.size ≤ S) ∧ k.fields.length ≤ N) ∧ ∀ c ∈ k.fields, c.name.size ≤ S
theorem FmtOk.mono {f : Fmt} {S N M : Nat} (h : FmtOk f S N) (hm : N ≤ M) : FmtOk f S M := ⟨⟨h.1.1, Nat.le_trans h.1.2 hm⟩, fun k hk => ⟨⟨(h.2 k hk).1.1, Nat.le_trans (h.2 k hk).1.2 hm⟩, (h.2 k hk).2⟩⟩
def frC (f : Fmt) (A : Option Addr) (c : Nat) (bg en : Bool) : Array Value := #[.int .u8 f.mark, .int .u8 f.quote, .slice A f.kinds.length c, .string f.head, .string f.tail, .string f.count, .string f.sum, .bool bg, .bool en]
theorem obox9 {w : World} {g : Nat} {a b c d e f i j k : Value} {T : TypeId} (h : w.heap[g]? = some (.cells #[a, b, c, d, e, f, i, j, k] T (0, 0))) :
    ((w.cell? ⟨g, 0, none⟩ = some a ∧ w.cell? ⟨g, 1, none⟩ = some b ∧ w.cell? ⟨g, 2, none⟩ = some c ∧ w.cell? ⟨g, 3, none⟩ = some d ∧ w.cell? ⟨g, 4, none⟩ = some e ∧ w.cell? ⟨g, 5, none⟩ = some f ∧ w.cell? ⟨g, 6, none⟩ = some i ∧ w.cell? ⟨g, 7, none⟩ = some j ∧ w.cell? ⟨g, 8, none⟩ = some k) ∧
      (w.frozen? ⟨g, 0, none⟩ = false ∧ w.frozen? ⟨g, 1, none⟩ = false ∧ w.frozen? ⟨g, 2, none⟩ = false ∧ w.frozen? ⟨g, 3, none⟩ = false ∧ w.frozen? ⟨g, 4, none⟩ = false ∧ w.frozen? ⟨g, 5, none⟩ = false ∧ w.frozen? ⟨g, 6, none⟩ = false ∧ w.frozen? ⟨g, 7, none⟩ = false ∧ w.frozen? ⟨g, 8, none⟩ = false)) ∧ g < w.heap.size := by
  obtain ⟨h1, h2, h3⟩ := obox h
  exact ⟨⟨⟨h1 0 _ rfl, h1 1 _ rfl, h1 2 _ rfl, h1 3 _ rfl, h1 4 _ rfl, h1 5 _ rfl, h1 6 _ rfl, h1 7 _ rfl, h1 8 _ rfl⟩, h2 0 (by simp), h2 1 (by simp), h2 2 (by simp), h2 3 (by simp), h2 4 (by simp), h2 5 (by simp), h2 6 (by simp), h2 7 (by simp), h2 8 (by simp)⟩, h3⟩
/-- What stays of the memory that a reader of formats leaves alone: rows of strings. -/
def Ks (w w' : World) : Prop := w.heap.size ≤ w'.heap.size ∧ ∀ (g : Nat) (cs : Array Value) (f : Nat × Nat), w.heap[g]? = some (.cells cs 9 f) → w'.heap[g]? = some (.cells cs 9 f)
theorem Ks.trans {a b c : World} (h : Ks a b) (k : Ks b c) : Ks a c := ⟨Nat.le_trans h.1 k.1, fun g cs f hh => k.2 g cs f (h.2 g cs f hh)⟩
theorem Ks.set {w : World} {r i : Nat} {cs : Array Value} {T : TypeId} {f : Nat × Nat} (hr : w.heap[r]? = some (.cells cs T f)) (hT : T ≠ 9) (u : Value) : Ks w (w.setCell ⟨r, i, none⟩ u) :=
  ⟨by simp, fun g cs' f' hh => heap_far hh (heap_ne hh hr (Ne.symm hT)) u⟩
end Go.Proofs.YtcfhaljkemaefaaGreatDoor

namespace Go.Proofs.YtcfhaljkemaefaaGreatDoor
open Go.RowKit Limb Nmb Work
set_option linter.unusedVariables false
set_option linter.unusedSimpArgs false

theorem below_grown {B b : Nat} {w w' : World} (h : w.grownBy w' (some b)) (hb : B ≤ b) (hs : B ≤ w.heap.size) : Below B w w' :=
  ⟨h.os, h.tape, h.output, h.size, fun k hk => h.block k (by omega) (fun e => by injection e with e; omega)⟩
theorem nOk_lt {L : List ByteArray} {i : Nat} (h : nOk (wd L i) = true) : i < L.length := by
  rcases Nat.lt_or_ge i L.length with h1 | h1
  · exact h1
  · have e : wd L i = eS := by unfold wd; rw [List.getD_eq_getElem?_getD, List.getElem?_eq_none h1]; rfl
    rw [e] at h
    exact absurd h (by decide)
theorem yOk_lt {L : List ByteArray} {i : Nat} (h : yOk (wd L i) = true) : i < L.length := by
  unfold yOk at h
  rw [Bool.and_eq_true] at h
  exact nOk_lt h.1
theorem FmtOk.mark {f : Fmt} {S N : Nat} (h : FmtOk f S N) {m q : Int} (hm : 0 ≤ m ∧ m ≤ 255) (hq : 0 ≤ q ∧ q ≤ 255) : FmtOk { f with mark := m, quote := q } S N := ⟨⟨⟨hm, hq⟩, h.1.2⟩, h.2⟩
end Go.Proofs.YtcfhaljkemaefaaGreatDoor

namespace Go.Proofs.YtcfhaljkemaefaaGreatDoor
open Go.RowKit Limb Nmb Work
set_option linter.unusedVariables false
set_option linter.unusedSimpArgs false

theorem own_setAt {w : World} {base : Nat} {e : TypeId} {size n cap g i : Nat} {xs : List Value} (h : w.ownsRow base e size (.slice (some ⟨g, 0, none⟩) n cap) n xs) (hi : i < n * size) (u : Value) : (w.setCell ⟨g, i, none⟩ u).ownsRow base e size (.slice (some ⟨g, 0, none⟩) n cap) n (xs.set i u) := by
  obtain ⟨h1, h2⟩ := h
  rcases h2 with ⟨hv, hn⟩ | ⟨g', cap', cur, hv, hb, hh, h3, h4, h5, h6⟩
  · cases hv
  · cases hv
    refine ⟨by rw [List.length_set, h1], .inr ⟨g, cap, cur.setIfInBounds i u, rfl, hb, heap_set hh i u, h3, h4, by rw [Array.size_setIfInBounds, h5], ?_⟩⟩
    rw [Array.toList_setIfInBounds, List.take_set, h6]
theorem own_rowF {w : World} {base : Nat} {e : TypeId} {size n : Nat} {A : Option Addr} {c : Nat} {xs : List Value} (h : w.ownsRow base e size (.slice A n c) n xs) (hn : 0 < n) : ∃ g, A = some ⟨g, 0, none⟩ ∧ base ≤ g ∧ g < w.heap.size ∧ ∀ j, j < n * size → w.cell? ⟨g, j, none⟩ = xs[j]? := by
  obtain ⟨h1, h2⟩ := h
  rcases h2 with ⟨h2, h3⟩ | ⟨g, cap, cur, hv, hb, hh, hn2, _, hs, ht⟩
  · omega
  · cases hv
    refine ⟨g, rfl, hb, lt_heap hh, fun j hj => ?_⟩
    rw [cell_of_row _ _ _ _ _ _ hh, ← ht, List.getElem?_take, if_pos hj]
    simp
theorem kA_snoc {ks : List RKd} {k : RKd} {j : Nat} : kA (ks ++ [k]) j = if j = ks.length then k else kA ks j := by
  unfold kA
  rw [List.getD_eq_getElem?_getD, List.getD_eq_getElem?_getD]
  rcases Nat.lt_trichotomy j ks.length with h | h | h
  · rw [if_neg (by omega), List.getElem?_append_left h]
  · subst h; simp
  · rw [if_neg (by omega), List.getElem?_append_right (by omega), List.getElem?_eq_none (by simp; omega), List.getElem?_eq_none (by omega)]
theorem cA_snoc {ks : List Col} {k : Col} {j : Nat} : cA (ks ++ [k]) j = if j = ks.length then k else cA ks j := by
  unfold cA
  rw [List.getD_eq_getElem?_getD, List.getD_eq_getElem?_getD]
  rcases Nat.lt_trichotomy j ks.length with h | h | h
  · rw [if_neg (by omega), List.getElem?_append_left h]
  · subst h; simp
  · rw [if_neg (by omega), List.getElem?_append_right (by omega), List.getElem?_eq_none (by simp; omega), List.getElem?_eq_none (by omega)]
def kndL (k : RKd) (A : Option Addr) (C : Nat) : List Value := [.string k.tag, .slice A k.fields.length C, .int .i64 k.most, .string k.under]
def colL (c : Col) : List Value := [.string c.name, .int .i64 c.kind, .int .i64 c.width, .int .i64 c.places, .int .i64 c.form, .bool c.right, .int .u8 c.fill, .bool c.need]
theorem kndL_rows {ks : List RKd} {k : RKd} {FA : Nat → Option Addr} {FC : Nat → Nat} {A : Option Addr} {C : Nat} : rowsC 4 ks.length (kindV ks FA FC) ++ kndL k A C = rowsC 4 (ks.length + 1) (kindV (ks ++ [k]) (kndA FA ks.length A) (kndN FC ks.length C)) := by
  rw [rowsC_succ]
  congr 1
  · refine rowsC_congr fun j hj i hi => ?_
    unfold kindV kndA kndN
    rw [kA_snoc, if_neg (by omega), if_neg (by omega), if_neg (by omega)]
  · simp only [kindV, kndA, kndN, kA_snoc, if_pos, List.range_succ, List.range_zero, List.nil_append, List.map_cons, List.map_nil, List.cons_append]
    rfl
theorem colL_rows {cs : List Col} {c : Col} : rowsC 8 cs.length (colV cs) ++ colL c = rowsC 8 (cs.length + 1) (colV (cs ++ [c])) := by
  rw [rowsC_succ]
  congr 1
  · refine rowsC_congr fun j hj i hi => ?_
    unfold colV
    rw [cA_snoc, if_neg (by omega)]
  · simp only [colV, cA_snoc, if_pos, List.range_succ, List.range_zero, List.nil_append, List.map_cons, List.map_nil, List.cons_append]
    rfl
/-- Blocks of another type than the grown row's stay. -/
theorem grown_type {w w' : World} {base : Nat} {e : TypeId} {size n : Nat} {v : Value} {xs : List Value} (h : w.ownsRow base e size v n xs) (hg : w.grownBy w' v.ownBlock) {g : Nat} {cs : Array Value} {T : TypeId} {f : Nat × Nat} (hh : w.heap[g]? = some (.cells cs T f)) (hT : T ≠ e) : w'.heap[g]? = some (.cells cs T f) := by
  refine (hg.block g (lt_heap hh) fun k => ?_).trans hh
  rcases h.2 with ⟨hv, -⟩ | ⟨g', cap, cur, hv, _, h2, _⟩
  · rw [hv] at k; cases k
  · rw [hv] at k
    injection k with k
    subst k
    rw [h2] at hh
    injection hh with hh
    injection hh with _ hh
    exact hT hh.symm
theorem addCol_kA {ks : List RKd} {c : Col} {j : Nat} (hj : j < ks.length) : kA (addCol ks c) j = if j = ks.length - 1 then { kA ks j with fields := (kA ks j).fields ++ [c] } else kA ks j := by
  by_cases h : j = ks.length - 1
  · rw [if_pos h]
    subst h
    exact addCol_last (by intro e; rw [e] at hj; simp at hj)
  · rw [if_neg h]
    exact addCol_at (by omega)
theorem own_ne_block {w w' : World} {base : Nat} {e : TypeId} {size n c : Nat} {A : Option Addr} {xs : List Value} (h : w.ownsRow base e size (.slice A n c) n xs) {row : Option Nat} (hg : w.grownBy w' row) (hne : ∀ a, A = some a → some a.block ≠ row) : w'.ownsRow base e size (.slice A n c) n xs := by
  refine h.kept hg ?_
  cases A with
  | none => exact .inl rfl
  | some a => exact .inr (hne a rfl)
theorem grown_drewF {w w' : World} {r : Option Nat} (h : w.drew.grownBy w' r) : w.grownBy w' r := ⟨h.os, h.tape, h.output, h.size, h.block⟩
theorem k_cellsF (w : World) (us : List Value) (t : TypeId) : ∀ j x, us[j]? = some x → (w.alloc (.cells us.toArray t)).cell? ((⟨w.heap.size, 0, none⟩ : Addr).add j) = some x := by
  intro j x hj
  rw [Addr.add_lit, cell_of_row _ _ _ _ _ _ (heap_alloc_new w _)]
  simpa using hj
theorem FmtOk.col {f : Fmt} {S N : Nat} {x : Col} (h : FmtOk f S N) (hx : x.name.size ≤ S) : FmtOk { f with kinds := addCol f.kinds x } S (N + 1) := by
  refine ⟨⟨h.1.1, ?_⟩, fun k hk => ?_⟩
  · show (addCol f.kinds x).length ≤ N + 1
    rw [addCol_len]
    have := h.1.2
    omega
  · obtain ⟨j, hj, rfl⟩ := List.getElem_of_mem hk
    have hj' : j < f.kinds.length := by have h2 := hj; simp only [addCol_len] at h2; exact h2
    rw [kA_get hj]
    show (_ ∧ _) ∧ _
    rw [show kA ({ f with kinds := addCol f.kinds x } : Fmt).kinds j = kA (addCol f.kinds x) j from rfl, addCol_kA hj']
    have h1 := h.2 (kA f.kinds j) (by rw [← kA_get hj']; exact List.getElem_mem _)
    split
    · refine ⟨⟨h1.1.1, ?_⟩, fun c hc => ?_⟩
      · show ((kA f.kinds j).fields ++ [x]).length ≤ N + 1
        have := h1.1.2
        simp; omega
      · have hc' : c ∈ (kA f.kinds j).fields ++ [x] := hc
        rcases List.mem_append.1 hc' with h3 | h3
        · exact h1.2 c h3
        · obtain rfl := List.mem_singleton.1 h3
          exact hx
    · exact ⟨⟨h1.1.1, by have := h1.1.2; omega⟩, h1.2⟩
theorem FmtOk.push {f : Fmt} {S N : Nat} {x : RKd} (h : FmtOk f S N) (hx : x.tag.size ≤ S ∧ x.under.size ≤ S) (h0 : x.fields = []) : FmtOk { f with kinds := f.kinds ++ [x] } S (N + 1) := by
  refine ⟨⟨h.1.1, ?_⟩, fun k hk => ?_⟩
  · show (f.kinds ++ [x]).length ≤ N + 1
    have := h.1.2
    simp; omega
  · have hk' : k ∈ f.kinds ++ [x] := hk
    rcases List.mem_append.1 hk' with h3 | h3
    · have h1 := h.2 k h3
      exact ⟨⟨h1.1.1, by have := h1.1.2; omega⟩, h1.2⟩
    · obtain rfl := List.mem_singleton.1 h3
      exact ⟨⟨hx, by rw [h0]; simp⟩, fun c hc => by rw [h0] at hc; cases hc⟩
end Go.Proofs.YtcfhaljkemaefaaGreatDoor

namespace Go.Proofs.YtcfhaljkemaefaaGreatDoor
open Go.RowKit Limb Nmb Work
set_option linter.unusedVariables false
set_option linter.unusedSimpArgs false

theorem zk_cells (w : World) (us : List Value) (t : TypeId) : ∀ j x, us[j]? = some x → (w.alloc (.cells us.toArray t)).cell? ((⟨w.heap.size, 0, none⟩ : Addr).add j) = some x := by
  intro j x hj
  rw [Addr.add_lit, cell_of_row _ _ _ _ _ _ (heap_alloc_new w _)]
  simpa using hj
theorem wpList_zpush {P : Program} {w : World} {ops : Array Oper} {rest : List Oper} {o : Oper} {a : Act} {Q : Exit → Act → World → Prop}
    (hg : o.guard = none) (s x : Operand) (t : TypeId) (hop : o.op = Op.call { callee := Callee.builtin Builtin.append, args := #[s, x], argTypes := #[t, t] })
    (base : Nat) (e : TypeId) (i : TypeInfo) (z : Value) (size bytes : Nat) (h1 : P.underlying t = some (.slice e)) (h2 : P.info? e = some i) (hz : i.zero = some z) (h4 : i.size = size) (hby : i.bytes = bytes) (hzs : z.cells.size = size) (hsz : 0 < size)
    (v : Value) (n : Nat) (xs : List Value) (hs : a.eval s = v) (hown : w.ownsRow base e size v n xs) (us : List Value) (hus : us.length = size) (hx : a.eval x = .slice (some ⟨w.heap.size, 0, none⟩) 1 1)
    (h1c : ∀ u ∈ us, u.oneCell' = true) (b1 : n + 1 ≤ maxLen) (b2 : (n + 1) * bytes ≤ 140737488355328) (hbase : base ≤ w.heap.size)
    (hK : ∀ A c w', w'.ownsRow base e size (.slice A (n + 1) c) (n + 1) (xs ++ us) → w.grownBy w' v.ownBlock → wpList P ops Q rest (a.put o.dst (.slice A (n + 1) c)) w') :
    wpList P ops Q (o :: rest) a (w.alloc (.cells us.toArray e)) :=
  wpList_append_own _ hg s x t hop base e i z size bytes h1 h2 hz h4 hby hzs hsz v n xs hs (hown.alloc _) ⟨w.heap.size, 0, none⟩ 1 1 us hx (by omega) (zk_cells w us e) h1c b1 b2 (by simp; omega) fun v' w' r1 r2 _ => by
    obtain ⟨A, c, rfl⟩ := own_slice r1
    exact hK A c w' r1 (grown_alloc r2)
theorem own_rwsZ {w : World} {base : Nat} {e : TypeId} {size n : Nat} {A : Option Addr} {c : Nat} {xs : List Value} {f : Nat → Nat → Value} (h : w.ownsRow base e size (.slice A n c) n xs) (hf : ∀ j, j < n → ∀ i, i < size → xs[j * size + i]? = some (f j i)) : Rws w A size n f := fun hn => by
  obtain ⟨g, rfl, _, hl, hc⟩ := own_rowF h hn
  refine ⟨g, 0, rfl, hl, fun j hj i hi => ?_⟩
  rw [Nat.zero_add, hc _ (by have := Nat.mul_le_mul_right size (show j + 1 ≤ n from hj); rw [Nat.add_mul] at this; omega), hf j hj i hi]
/-- An append of nothing. -/
theorem run_append_nilZ {P : Program} {w : World} {base : Nat} {t ty e : TypeId} {i : TypeInfo} {size n c c' : Nat} {A : Option Addr} {xs : List Value} (ht : P.underlying t = some (.slice e)) (hi : P.info? e = some i) (hs : i.size = size) (hown : w.ownsRow base e size (.slice A n c) n xs) :
    (Builtin.append_ #[t, t] ty #[.slice A n c, .slice none 0 c']).run P w = .ok (.slice A n c) w := by
  have hc := own_cap hown
  cases A with
  | some a =>
    obtain ⟨-, h | ⟨g, cap, cur, hv, -⟩⟩ := hown
    · cases h.1
    · cases hv
      have := run_append_room_src (P := P) w t t ty e i ht hi g 0 n c (.slice none 0 c') 0 [] (Src.ofNil w ht c') (by omega) (fun j hj => by simp at hj) (fun j hj => by simp at hj)
      simpa [World.setCells] using this
  | none =>
    obtain ⟨-, h | ⟨g, cap, cur, hv, -⟩⟩ := hown
    · obtain ⟨h1, h2⟩ := h
      subst h2
      have hn : 0 + 0 ≤ c := Nat.zero_le _
      simp [Builtin.append_, run_underlying ht, sizeOf, typeInfo, hi, (Src.ofNil (P := P) w ht c' : Src P i.size t _ 0 [] w).len, (Src.ofNil (P := P) w ht c' : Src P i.size t _ 0 [] w).cells]
    · cases hv
/-- A slice of elements of k cells is appended. -/
theorem wpList_zapp {P : Program} {w : World} {ops : Array Oper} {rest : List Oper} {o : Oper} {a : Act} {Q : Exit → Act → World → Prop}
    (hg : o.guard = none) (s x : Operand) (t : TypeId) (hop : o.op = Op.call { callee := Callee.builtin Builtin.append, args := #[s, x], argTypes := #[t, t] })
    (base : Nat) (e : TypeId) (i : TypeInfo) (z : Value) (size bytes : Nat) (h1 : P.underlying t = some (.slice e)) (h2 : P.info? e = some i) (hz : i.zero = some z) (h4 : i.size = size) (hby : i.bytes = bytes) (hzs : z.cells.size = size) (hsz : 0 < size)
    (A : Option Addr) (n c : Nat) (xs : List Value) (hs : a.eval s = .slice A n c) (hown : w.ownsRow base e size (.slice A n c) n xs) (X : Option Addr) (m d : Nat) (news : List Value) (hl : news.length = m * size) (hx : a.eval x = .slice X m d)
    (hsrc : 0 < m → ∃ b off, X = some ⟨b, off, none⟩ ∧ ∀ j u, news[j]? = some u → w.cell? ⟨b, off + j, none⟩ = some u)
    (h1c : ∀ u ∈ news, u.oneCell' = true) (b1 : n + m ≤ maxLen) (b2 : (n + m) * bytes ≤ 140737488355328) (hbase : base ≤ w.heap.size)
    (hK : ∀ A' c' w', w'.ownsRow base e size (.slice A' (n + m) c') (n + m) (xs ++ news) → w.grownBy w' (Value.slice A n c).ownBlock → wpList P ops Q rest (a.put o.dst (.slice A' (n + m) c')) w') :
    wpList P ops Q (o :: rest) a w := by
  cases X with
  | some ad =>
    refine wpList_append_own _ hg s x t hop base e i z size bytes h1 h2 hz h4 hby hzs hsz (.slice A n c) n xs hs hown ad m d news hx hl ?_ h1c b1 b2 hbase fun v' w' r1 r2 _ => ?_
    · rcases Nat.eq_zero_or_pos m with h0 | h0
      · subst h0
        have : news = [] := List.eq_nil_of_length_eq_zero (by omega)
        subst this
        intro j u h; simp at h
      · obtain ⟨b, off, e1, hc⟩ := hsrc h0
        cases e1
        intro j u hj
        rw [Addr.add_lit]
        exact hc j u hj
    · obtain ⟨A', c', rfl⟩ := own_slice r1
      exact hK A' c' w' r1 r2
  | none =>
    have h0 : m = 0 := by
      rcases Nat.eq_zero_or_pos m with h0 | h0
      · exact h0
      · obtain ⟨b, off, e1, -⟩ := hsrc h0
        cases e1
    subst h0
    have hn : news = [] := List.eq_nil_of_length_eq_zero (by omega)
    subst hn
    refine wpList_plain hg fun K hKK => ?_
    have hr := run_append_nilZ (P := P) (w := w) (t := t) (ty := o.type) (c' := d) h1 h2 h4 hown
    unfold Oper.wp execOp
    simp only [hop, resolve, invoke, builtin, Sem.run_bind, Sem.run_pure, Result.andThen_ok, List.map_toArray, List.map_cons, List.map_nil, hs, hx, hr]
    refine hKK _ _ (hK A c w (by simpa using hown) (World.grownBy.refl _ _))
end Go.Proofs.YtcfhaljkemaefaaGreatDoor
