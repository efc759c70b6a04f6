
/- The walk of Turned. (Printed by genZA.py.) -/
import Derived.Test.YtlabejjgnnlalaaGreatDoorZ9
import Derived.Test.YtlabejjgnnlalaaGreatDoorY1
namespace Go.Proofs.YtlabejjgnnlalaaGreatDoor
open Go.RowKit Limb Nmb Work
set_option linter.unusedVariables false
set_option linter.unusedSimpArgs false
def rwL (r : RowP) (A : Option Addr) (c : Nat) : List Value := [.string r.tag, .slice A r.vals.length c]
theorem rA_snoc {l : List RowP} {r : RowP} {j : Nat} : rA (l ++ [r]) j = if j = l.length then r else rA l j := by
  unfold rA
  rw [List.getD_eq_getElem?_getD, List.getD_eq_getElem?_getD]
  rcases Nat.lt_trichotomy j l.length with h | h | h
  · rw [if_neg (by omega), List.getElem?_append_left h]
  · subst h; simp
  · rw [if_neg (by omega), List.getElem?_append_right (by omega), List.getElem?_eq_none (by simp; omega), List.getElem?_eq_none (by omega)]
theorem rwL_rows {l : List RowP} {r : RowP} {RA : Nat → Option Addr} {RC : Nat → Nat} {A : Option Addr} {c : Nat} : rowsC 2 l.length (rowV l RA RC) ++ rwL r A c = rowsC 2 (l.length + 1) (rowV (l ++ [r]) (kndA RA l.length A) (kndN RC l.length c)) := by
  rw [rowsC_succ]
  congr 1
  · refine rowsC_congr fun j hj i hi => ?_
    unfold rowV kndA kndN
    rw [rA_snoc, if_neg (by omega), if_neg (by omega), if_neg (by omega)]
  · simp only [rowV, kndA, kndN, rA_snoc, if_pos, List.range_succ, List.range_zero, List.nil_append, List.map_cons, List.map_nil, List.cons_append]
    rfl
structure RowS (w : World) (r : RowP) (A : Option Addr) (c : Nat) : Prop where
  vals : Sts w A r.vals
  len : r.vals.length ≤ c ∧ c ≤ 9223372036854775807
  size : ∀ s ∈ r.vals, s.size ≤ 9223372036854775807
  tag : r.tag.size ≤ 9223372036854775807
theorem RowS.rowM {w : World} {r : RowP} {A : Option Addr} {c : Nat} (h : RowS w r A c) : RowM w r A c := ⟨h.vals.svs, h.len, h.size, h.tag⟩
def RwsO (w1 wr : World) (X : Option Addr) (n c : Nat) (l : List RowP) : Prop :=
  ∃ (RA : Nat → Option Addr) (RC : Nat → Nat), l.length = n ∧ wr.ownsRow w1.heap.size 60 2 (.slice X n c) n (rowsC 2 n (rowV l RA RC)) ∧ (∀ j, j < l.length → RowS wr (rA l j) (RA j) (RC j)) ∧ Below w1.heap.size w1 wr
theorem RwsO.nil (w1 : World) {wr : World} (hb : Below w1.heap.size w1 wr) : RwsO w1 wr none 0 0 [] := ⟨fun _ => none, fun _ => 0, rfl, World.ownsRow_nil _ _ _ _, fun j hj => absurd hj (Nat.not_lt_zero _), hb⟩
theorem RwsO.bel {w1 wr : World} {X : Option Addr} {n c : Nat} {l : List RowP} (h : RwsO w1 wr X n c l) : Below w1.heap.size w1 wr := by obtain ⟨_, _, _, _, _, hb⟩ := h; exact hb
theorem RwsO.len {w1 wr : World} {X : Option Addr} {n c : Nat} {l : List RowP} (h : RwsO w1 wr X n c l) : l.length = n := by obtain ⟨_, _, h, _⟩ := h; exact h
theorem RwsO.below {w1 wr w' : World} {X : Option Addr} {n c : Nat} {l : List RowP} (h : RwsO w1 wr X n c l) (hb : Below wr.heap.size wr w') : RwsO w1 w' X n c l := by
  obtain ⟨RA, RC, h1, h2, h3, h4⟩ := h
  exact ⟨RA, RC, h1, own_below h2 hb, fun j hj => ⟨(h3 j hj).vals.below hb, (h3 j hj).len, (h3 j hj).size, (h3 j hj).tag⟩, below_then hb h4 h4.size⟩
theorem RwsO.rowsM {w1 wr : World} {X : Option Addr} {n c : Nat} {l : List RowP} (h : RwsO w1 wr X n c l) : ∃ RA RC, RowsM wr X l RA RC := by
  obtain ⟨RA, RC, h1, h2, h3, -⟩ := h
  have hc := own_cap h2
  subst h1
  exact ⟨RA, RC, own_rwsK h2, fun j hj => (h3 j hj).rowM, by have := hc.1; have := hc.2; unfold maxLen at *; omega⟩
theorem RwsO.push {w1 wr w' : World} {X X' A : Option Addr} {n c c' d : Nat} {l : List RowP} {r : RowP} {RA : Nat → Option Addr} {RC : Nat → Nat} (h1 : l.length = n) (h2 : wr.ownsRow w1.heap.size 60 2 (.slice X n c) n (rowsC 2 n (rowV l RA RC))) (h3 : ∀ j, j < l.length → RowS wr (rA l j) (RA j) (RC j)) (h4 : Below w1.heap.size w1 wr) (hr : RowS wr r A d)
    (ho : w'.ownsRow w1.heap.size 60 2 (.slice X' (n + 1) c') (n + 1) (rowsC 2 n (rowV l RA RC) ++ rwL r A d)) (hg : wr.grownBy w' (Value.slice X n c).ownBlock) : RwsO w1 w' X' (n + 1) c' (l ++ [r]) := by
  subst h1
  have hk : ∀ {q : RowP} {Q : Option Addr} {e : Nat}, RowS wr q Q e → RowS w' q Q e := fun hq => ⟨hq.vals.keep fun g cs f hh => grown_type h2 hg hh (by decide), hq.len, hq.size, hq.tag⟩
  refine ⟨kndA RA l.length A, kndN RC l.length d, by simp, by rw [← rwL_rows]; exact ho, fun j hj => ?_, h4.grown hg h4.size (fun j hj => (h2.lt j hj).1)⟩
  rw [rA_snoc]
  unfold kndA kndN
  by_cases hj2 : j = l.length
  · rw [if_pos hj2, if_pos hj2, if_pos hj2]
    exact hk hr
  · rw [if_neg hj2, if_neg hj2, if_neg hj2]
    have hjl : j < l.length := by simp at hj; omega
    exact hk (h3 j hjl)
theorem own_rowS {w : World} {B : Nat} {A : Option Addr} {c : Nat} {r : RowP} (h : w.ownsRow B 9 1 (.slice A r.vals.length c) r.vals.length (ystrV r.vals)) (hs : ∀ s ∈ r.vals, s.size ≤ 9223372036854775807) (ht : r.tag.size ≤ 9223372036854775807) : RowS w r A c := by
  have hc := own_cap h
  refine ⟨fun hn => ?_, ⟨hc.1, by have := hc.2; unfold maxLen at this; omega⟩, hs, ht⟩
  obtain ⟨g, e, h2, -, -⟩ := yown_sts h hn
  subst e
  exact h2 hn
def RetTd (r : List RowP × Nat × Int) (w : World) (e : Ending) (w' : World) : Prop := ∃ X c, e = .returned (.tuple #[.slice X r.1.length c, .int .i64 (r.2.1 : Nat), .int .i64 r.2.2]) ∧ (∃ RA RC, RowsM w' X r.1 RA RC) ∧ Below w.heap.size w w'
theorem RetTd.no {x : Int} {w w' : World} (hb : Below w.heap.size w w') : RetTd ([], 0, x) w (.returned (.tuple #[.slice none 0 0, .int .i64 0, .int .i64 x])) w' :=
  ⟨none, 0, rfl, ⟨fun _ => none, fun _ => 0, fun h => absurd h (Nat.not_lt_zero _), fun j hj => absurd hj (Nat.not_lt_zero _), Nat.zero_le _⟩, hb⟩
theorem Tryz.infoRow : (Tryz.prog.info? 60).map (fun i => (i.zero, i.size, i.bytes)) = some (some (.agg #[.string ⟨#[]⟩, .slice none 0 0]), 2, 40) := by kernel_rfl
end Go.Proofs.YtlabejjgnnlalaaGreatDoor
