
/- A kind, a column is put behind the others: the rows in memory. -/
import Derived.Test.YtbnjejenejoibaaGreatDoorZC
namespace Go.Proofs.YtbnjejenejoibaaGreatDoor
open Go.RowKit Limb Nmb Work
set_option linter.unusedVariables false
set_option linter.unusedSimpArgs false
theorem own_setAt {w : World} {base : Nat} {e : TypeId} {size n cap g i : Nat} {xs : List Value} (h : w.ownsRow base e size (.slice (some ⟨g, 0, none⟩) n cap) n xs) (hi : i < n * size) (u : Value) : (w.setCell ⟨g, i, none⟩ u).ownsRow base e size (.slice (some ⟨g, 0, none⟩) n cap) n (xs.set i u) := by
 obtain ⟨h1, h2⟩ := h
 rcases h2 with ⟨hv, hn⟩ | ⟨g', cap', cur, hv, hb, hh, h3, h4, h5, h6⟩
 ·cases hv
 ·cases hv
  refine ⟨by rw [List.length_set, h1], .inr ⟨g, cap, cur.setIfInBounds i u, rfl, hb, heap_set hh i u, h3, h4, by rw [Array.size_setIfInBounds, h5], ?_⟩⟩
  rw [Array.toList_setIfInBounds, List.take_set, h6]
theorem own_rowF {w : World} {base : Nat} {e : TypeId} {size n : Nat} {A : Option Addr} {c : Nat} {xs : List Value} (h : w.ownsRow base e size (.slice A n c) n xs) (hn : 0 < n) : ∃ g, A = some ⟨g, 0, none⟩ /\ base <= g /\ g < w.heap.size /\ ∀ j, j < n * size -> w.cell? ⟨g, j, none⟩ = xs[j]? := by
 obtain ⟨h1, h2⟩ := h
 rcases h2 with ⟨h2, h3⟩ | ⟨g, cap, cur, hv, hb, hh, hn2, _, hs, ht⟩
 ·omega
 ·cases hv
  refine ⟨g, rfl, hb, lt_heap hh, fun j hj => ?_⟩
  rw [cell_of_row _ _ _ _ _ _ hh, <- ht, List.getElem?_take, if_pos hj]
  simp
theorem kA_snoc {ks : List RKd} {k : RKd} {j : Nat} : kA (ks ++ [k]) j = if j = ks.length then k else kA ks j := by
 unfold kA
 rw [List.getD_eq_getElem?_getD, List.getD_eq_getElem?_getD]
 rcases Nat.lt_trichotomy j ks.length with h | h | h
 ·rw [if_neg (by omega), List.getElem?_append_left h]
 ·subst h; simp
 ·rw [if_neg (by omega), List.getElem?_append_right (by omega), List.getElem?_eq_none (by simp; omega), List.getElem?_eq_none (by omega)]
theorem cA_snoc {ks : List Col} {k : Col} {j : Nat} : cA (ks ++ [k]) j = if j = ks.length then k else cA ks j := by
 unfold cA
 rw [List.getD_eq_getElem?_getD, List.getD_eq_getElem?_getD]
 rcases Nat.lt_trichotomy j ks.length with h | h | h
 ·rw [if_neg (by omega), List.getElem?_append_left h]
 ·subst h; simp
 ·rw [if_neg (by omega), List.getElem?_append_right (by omega), List.getElem?_eq_none (by simp; omega), List.getElem?_eq_none (by omega)]
def kndL (k : RKd) (A : Option Addr) (C : Nat) : List Value := [.string k.tag, .slice A k.fields.length C, .int .i64 k.most, .string k.under]
def colL (c : Col) : List Value := [.string c.name, .int .i64 c.kind, .int .i64 c.width, .int .i64 c.places, .int .i64 c.form, .bool c.right, .int .u8 c.fill, .bool c.need]
theorem kndL_rows {ks : List RKd} {k : RKd} {FA : Nat -> Option Addr} {FC : Nat -> Nat} {A : Option Addr} {C : Nat} : rowsC 4 ks.length (kindV ks FA FC) ++ kndL k A C = rowsC 4 (ks.length + 1) (kindV (ks ++ [k]) (kndA FA ks.length A) (kndN FC ks.length C)) := by
 rw [rowsC_succ]
 congr 1
 ·refine rowsC_congr fun j hj i hi => ?_
  unfold kindV kndA kndN
  rw [kA_snoc, if_neg (by omega), if_neg (by omega), if_neg (by omega)]
 ·simp only [kindV, kndA, kndN, kA_snoc, if_pos, List.range_succ, List.range_zero, List.nil_append, List.map_cons, List.map_nil, List.cons_append]
  rfl
theorem colL_rows {cs : List Col} {c : Col} : rowsC 8 cs.length (colV cs) ++ colL c = rowsC 8 (cs.length + 1) (colV (cs ++ [c])) := by
 rw [rowsC_succ]
 congr 1
 ·refine rowsC_congr fun j hj i hi => ?_
  unfold colV
  rw [cA_snoc, if_neg (by omega)]
 ·simp only [colV, cA_snoc, if_pos, List.range_succ, List.range_zero, List.nil_append, List.map_cons, List.map_nil, List.cons_append]
  rfl
theorem grown_type {w w' : World} {base : Nat} {e : TypeId} {size n : Nat} {v : Value} {xs : List Value} (h : w.ownsRow base e size v n xs) (hg : w.grownBy w' v.ownBlock) {g : Nat} {cs : Array Value} {T : TypeId} {f : Nat × Nat} (hh : w.heap[g]? = some (.cells cs T f)) (hT : T ≠ e) : w'.heap[g]? = some (.cells cs T f) := by
 refine (hg.block g (lt_heap hh) fun k => ?_).trans hh
 rcases h.2 with ⟨hv, -⟩ | ⟨g', cap, cur, hv, _, h2, _⟩
 ·rw [hv] at k; cases k
 ·rw [hv] at k
  injection k with k
  subst k
  rw [h2] at hh
  injection hh with hh
  injection hh with _ hh
  exact hT hh.symm
theorem KOwn.push {w w' : World} {B : Nat} {A A' : Option Addr} {c c' : Nat} {ks : List RKd} {k : RKd} {FA : Nat -> Option Addr} {FC : Nat -> Nat} (h : KOwn w B A c ks FA FC) (hk : k.fields = [])
  (ho : w'.ownsRow B 46 4 (.slice A' (ks.length + 1) c') (ks.length + 1) (rowsC 4 ks.length (kindV ks FA FC) ++ kndL k none 0)) (hg : w.grownBy w' (Value.slice A ks.length c).ownBlock) :
  KOwn w' B A' c' (ks ++ [k]) (kndA FA ks.length none) (kndN FC ks.length 0) := by
 have hl : (ks ++ [k]).length = ks.length + 1 := by simp
 refine ⟨?_, fun j hj => ?_, fun j hj a a' h1 h2 => ?_⟩
 ·rw [hl, <- kndL_rows]
  exact ho
 ·rw [hl] at hj
  rw [kA_snoc]
  unfold kndA kndN
  by_cases hj2 : j = ks.length
  ·rw [if_pos hj2, if_pos hj2, if_pos hj2, hk]
   exact World.ownsRow_nil _ _ _ _
  ·rw [if_neg hj2, if_neg hj2, if_neg hj2]
   exact own_keepT (h.cols j (by omega)) (fun g cs hh => grown_type h.kinds hg hh (by decide))
 ·rw [hl] at h2
  unfold kndA at h2
  rw [Nat.add_sub_cancel, if_pos rfl] at h2
  cases h2
theorem addCol_kA {ks : List RKd} {c : Col} {j : Nat} (hj : j < ks.length) : kA (addCol ks c) j = if j = ks.length - 1 then { kA ks j with fields := (kA ks j).fields ++ [c] } else kA ks j := by
 by_cases h : j = ks.length - 1
 ·rw [if_pos h]
  subst h
  exact addCol_last (by intro e; rw [e] at hj; simp at hj)
 ·rw [if_neg h]
  exact addCol_at (by omega)
theorem own_ne_block {w w' : World} {base : Nat} {e : TypeId} {size n c : Nat} {A : Option Addr} {xs : List Value} (h : w.ownsRow base e size (.slice A n c) n xs) {row : Option Nat} (hg : w.grownBy w' row) (hne : ∀ a, A = some a -> some a.block ≠ row) : w'.ownsRow base e size (.slice A n c) n xs := by
 refine h.kept hg ?_
 cases A with
 | none => exact .inl rfl
 | some a => exact .inr (hne a rfl)
theorem KOwn.col {w w' : World} {B H g gk : Nat} {c c' : Nat} {ks : List RKd} {x : Col} {FA : Nat -> Option Addr} {FC : Nat -> Nat} (h : KOwn w B (some ⟨gk, 0, none⟩) c ks FA FC) (h0 : 0 < ks.length)
  (ho : w'.ownsRow B 85 8 (.slice (some ⟨g, 0, none⟩) ((kA ks (ks.length - 1)).fields.length + 1) c') ((kA ks (ks.length - 1)).fields.length + 1) (rowsC 8 (kA ks (ks.length - 1)).fields.length (colV (kA ks (ks.length - 1)).fields) ++ colL x))
  (hg : w.grownBy w' (Value.slice (FA (ks.length - 1)) (kA ks (ks.length - 1)).fields.length (FC (ks.length - 1))).ownBlock)
  (hgg : (Value.slice (FA (ks.length - 1)) (kA ks (ks.length - 1)).fields.length (FC (ks.length - 1))).ownBlock = some g ∨ g = H) (hH : w.heap.size <= H) :
  KOwn (w'.setCell ⟨gk, (ks.length - 1) * 4 + 1, none⟩ (.slice (some ⟨g, 0, none⟩) ((kA ks (ks.length - 1)).fields.length + 1) c')) B (some ⟨gk, 0, none⟩) c (addCol ks x) (kndA FA (ks.length - 1) (some ⟨g, 0, none⟩)) (kndN FC (ks.length - 1) c') := by
 have hk' := own_keepT h.kinds (fun gg cs hh => grown_type (h.cols (ks.length - 1) (by omega)) hg hh (by decide))
 have hkb : ∃ cs, w'.heap[gk]? = some (.cells cs 46 (0, 0)) := by
  rcases hk'.2 with ⟨hv, _⟩ | ⟨g', cap', cur, hv, _, hh, _⟩
  ·cases hv
  ·cases hv; exact ⟨cur, hh⟩
 obtain ⟨ck, hkb⟩ := hkb
 refine ⟨?_, fun j hj => ?_, fun j hj a a' h1 h2 => ?_⟩
 ·rw [addCol_len]
  have h4 := own_setAt hk' (i := (ks.length - 1) * 4 + 1) (by omega) (.slice (some ⟨g, 0, none⟩) ((kA ks (ks.length - 1)).fields.length + 1) c')
  rw [rowsC_set _ (by omega) (by decide)] at h4
  have e : rowsC 4 ks.length (kindV (addCol ks x) (kndA FA (ks.length - 1) (some ⟨g, 0, none⟩)) (kndN FC (ks.length - 1) c')) = rowsC 4 ks.length (fun a b => if a = ks.length - 1 /\ b = 1 then .slice (some ⟨g, 0, none⟩) ((kA ks (ks.length - 1)).fields.length + 1) c' else kindV ks FA FC a b) := by
   refine rowsC_congr fun j hj i hi => ?_
   unfold kindV kndA kndN
   rw [addCol_kA hj]
   by_cases hjl : j = ks.length - 1
   ·rw [if_pos hjl, if_pos hjl, if_pos hjl]
    match i, hi with
    | 0, _ => rw [if_neg (by omega)]; rfl
    | 1, _ => rw [if_pos ⟨hjl, rfl⟩, hjl]; simp
    | 2, _ => rw [if_neg (by omega)]; rfl
    | 3, _ => rw [if_neg (by omega)]; rfl
   ·rw [if_neg hjl, if_neg hjl, if_neg hjl, if_neg (fun k => hjl k.1)]
  rw [e]
  exact h4
 ·rw [addCol_len] at hj
  have hkeep : ∀ {v : Value} {n : Nat} {xs : List Value}, w'.ownsRow B 85 8 v n xs -> (w'.setCell ⟨gk, (ks.length - 1) * 4 + 1, none⟩ (.slice (some ⟨g, 0, none⟩) ((kA ks (ks.length - 1)).fields.length + 1) c')).ownsRow B 85 8 v n xs := fun h => own_keepT h (fun gg cs hh => heap_far hh (heap_ne hh hkb (by decide)) _)
  rw [addCol_kA hj]
  unfold kndA kndN
  by_cases hjl : j = ks.length - 1
  ·rw [if_pos hjl, if_pos hjl, if_pos hjl]
   subst hjl
   rw [show ({ kA ks (ks.length - 1) with fields := (kA ks (ks.length - 1)).fields ++ [x] } : RKd).fields = (kA ks (ks.length - 1)).fields ++ [x] from rfl, List.length_append, List.length_singleton, <- colL_rows]
   exact hkeep ho
  ·rw [if_neg hjl, if_neg hjl, if_neg hjl]
   refine hkeep (own_ne_block (h.cols j hj) hg (fun a ha hb => ?_))
   cases hl : FA (ks.length - 1) with
   | none => rw [hl] at hb; cases hb
   | some a' =>
    rw [hl] at hb
    injection hb with hb
    exact h.apart j (by omega) a a' ha hl hb
 ·rw [addCol_len] at hj h2
  unfold kndA at h1 h2
  rw [if_neg (by omega)] at h1
  rw [if_pos rfl] at h2
  injection h2 with h2
  subst h2
  rcases hgg with hgg | hgg
  ·cases hl : FA (ks.length - 1) with
   | none => rw [hl] at hgg; cases hgg
   | some a' =>
    rw [hl] at hgg
    injection hgg with hgg
    have := h.apart j (by omega) a a' h1 hl
    rw [<- hgg]
    exact this
  ·have h3 := (h.cols j (by omega)).lt a.block (by rw [h1]; rfl)
   show a.block ≠ g
   omega
theorem grown_drewF {w w' : World} {r : Option Nat} (h : w.drew.grownBy w' r) : w.grownBy w' r := ⟨h.os, h.tape, h.output, h.size, h.block⟩
theorem k_cellsF (w : World) (us : List Value) (t : TypeId) : ∀ j x, us[j]? = some x -> (w.alloc (.cells us.toArray t)).cell? ((⟨w.heap.size, 0, none⟩ : Addr).add j) = some x := by
 intro j x hj
 rw [Addr.add_lit, cell_of_row _ _ _ _ _ _ (heap_alloc_new w _)]
 simpa using hj
theorem FmtOk.col {f : Fmt} {S N : Nat} {x : Col} (h : FmtOk f S N) (hx : x.name.size <= S) : FmtOk { f with kinds := addCol f.kinds x } S (N + 1) := by
 refine ⟨⟨h.1.1, ?_⟩, fun k hk => ?_⟩
 ·show (addCol f.kinds x).length <= N + 1
  rw [addCol_len]
  have := h.1.2
  omega
 ·obtain ⟨j, hj, rfl⟩ := List.getElem_of_mem hk
  have hj' : j < f.kinds.length := by have h2 := hj; simp only [addCol_len] at h2; exact h2
  rw [kA_get hj]
  show (_ /\ _) /\ _
  rw [show kA ({ f with kinds := addCol f.kinds x } : Fmt).kinds j = kA (addCol f.kinds x) j from rfl, addCol_kA hj']
  have h1 := h.2 (kA f.kinds j) (by rw [<- kA_get hj']; exact List.getElem_mem _)
  split
  ·refine ⟨⟨h1.1.1, ?_⟩, fun c hc => ?_⟩
   ·show ((kA f.kinds j).fields ++ [x]).length <= N + 1
    have := h1.1.2
    simp; omega
   ·have hc' : c ∈ (kA f.kinds j).fields ++ [x] := hc
    rcases List.mem_append.1 hc' with h3 | h3
    ·exact h1.2 c h3
    ·obtain rfl := List.mem_singleton.1 h3
     exact hx
  ·exact ⟨⟨h1.1.1, by have := h1.1.2; omega⟩, h1.2⟩
theorem FmtOk.push {f : Fmt} {S N : Nat} {x : RKd} (h : FmtOk f S N) (hx : x.tag.size <= S /\ x.under.size <= S) (h0 : x.fields = []) : FmtOk { f with kinds := f.kinds ++ [x] } S (N + 1) := by
 refine ⟨⟨h.1.1, ?_⟩, fun k hk => ?_⟩
 ·show (f.kinds ++ [x]).length <= N + 1
  have := h.1.2
  simp; omega
 ·have hk' : k ∈ f.kinds ++ [x] := hk
  rcases List.mem_append.1 hk' with h3 | h3
  ·have h1 := h.2 k h3
   exact ⟨⟨h1.1.1, by have := h1.1.2; omega⟩, h1.2⟩
  ·obtain rfl := List.mem_singleton.1 h3
   exact ⟨⟨hx, by rw [h0]; simp⟩, fun c hc => by rw [h0] at hc; cases hc⟩
end Go.Proofs.YtbnjejenejoibaaGreatDoor
