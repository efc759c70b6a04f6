
/- The walk of the reference's numbers: Times. -/
import Derived.Test.YtegobkaldedhhaaGreatDoorR3
import Derived.RegionTactic
import Derived.BigRegion
import Derived.Deep.OwnRows
import Derived.Deep.DeepCutAuto
namespace Go.Proofs.YtegobkaldedhhaaGreatDoor
open Go.RowKit Limb

theorem row_cell6 {w : World} {B : Nat} {E : TypeId} {g N c : Nat} {os : List Nat} (h : w.ownsRow B E 1 (.slice (some ⟨g, 0, none⟩) N c) N (digV .i64 os)) {p : Nat} (hp : p < N) : w.cell? ⟨g, p, none⟩ = some (.int .i64 ((dg os p : Nat) : Int)) := by
  have hl := h.1
  rw [digV_length] at hl
  rw [h.cellAt p (by omega)]
  exact digV_get _ (by omega)
theorem row_store6 {w : World} {B : Nat} {E : TypeId} {g N c : Nat} {os : List Nat} (h : w.ownsRow B E 1 (.slice (some ⟨g, 0, none⟩) N c) N (digV .i64 os)) (p : Nat) {X : Int} {x : Nat} (hx : X = (x : Int)) :
    (w.setCell ⟨g, p, none⟩ (.int .i64 X)).ownsRow B E 1 (.slice (some ⟨g, 0, none⟩) N c) N (digV .i64 (os.set p x)) := by
  subst hx; rw [digV_set]; exact (h.stored p _).1
theorem row_len6 {w : World} {B : Nat} {E : TypeId} {N : Nat} {v : Value} {os : List Nat} (h : w.ownsRow B E 1 v N (digV .i64 os)) : os.length = N := by
  have := h.1; rw [digV_length] at this; omega
theorem dg_set_ne {l : List Nat} {k j d : Nat} (h : j ≠ k) : dg (l.set k d) j = dg l j := getD_set_other h
theorem dg_set_eq {l : List Nat} {k d : Nat} (h : k < l.length) : dg (l.set k d) k = d := getD_set_same h
theorem own_zeros (w : World) (B N : Nat) (hB : B ≤ w.heap.size) (hN : N ≤ 100000) : (w.alloc (.cells (madeCells #[Value.int .i64 0] N) 3)).ownsRow B 3 1 (.slice (some ⟨w.heap.size, 0, none⟩) N N) N (digV .i64 (List.replicate N 0)) := by
  have h := World.ownsRow_lit (base := B) (e := 3) (size := 1) w (madeCells #[Value.int .i64 0] N) N hB (by unfold maxLen; omega) (by
    have := congrArg List.length (toList_madeCells_one (.int .i64 0) N)
    rw [Array.length_toList, List.length_replicate] at this
    omega)
  rw [toList_madeCells_one] at h
  have e : digV .i64 (List.replicate N 0) = List.replicate N (Value.int .i64 0) := by simp [digV]
  rw [e]
  exact h
theorem dg_zeros (N p : Nat) : dg (List.replicate N 0) p = 0 := by
  simp [dg, List.getD_eq_getElem?_getD, List.getElem?_replicate]; split <;> rfl

/-- A carry that is put at the next place leaves the value. -/
theorem carry_val {os : List Nat} {r : Nat} (hr : r + 1 < os.length) : val B6 ((os.set (r + 1) (dg os (r + 1) + dg os r / B6)).set r (dg os r % B6)) = val B6 os := by
  have h1 := val_set B6 os (r + 1) (dg os (r + 1) + dg os r / B6) hr
  have h2 := val_set B6 (os.set (r + 1) (dg os (r + 1) + dg os r / B6)) r (dg os r % B6) (by rw [List.length_set]; omega)
  have e1 : os.getD (r + 1) 0 = dg os (r + 1) := rfl
  have e2 : (os.set (r + 1) (dg os (r + 1) + dg os r / B6)).getD r 0 = dg os r := getD_set_other (by omega)
  rw [e1] at h1
  rw [e2] at h2
  have h3 : B6 ^ (r + 1) * (dg os (r + 1) + dg os r / B6) = B6 ^ (r + 1) * dg os (r + 1) + B6 ^ r * (B6 * (dg os r / B6)) := by rw [Nat.mul_add, Nat.pow_succ, Nat.mul_assoc (B6 ^ r) B6 (dg os r / B6)]
  have h4 : B6 ^ r * dg os r = B6 ^ r * (B6 * (dg os r / B6)) + B6 ^ r * (dg os r % B6) := by rw [← Nat.mul_add, Nat.div_add_mod]
  omega
/-- One product more. -/
def mulS (ps : List Nat) (r z : Nat) : List Nat := ((ps.set r (dg ps r + z)).set (r + 1) (dg ps (r + 1) + (dg ps r + z) / B6)).set r ((dg ps r + z) % B6)
theorem mulS_len (ps : List Nat) (r z : Nat) : (mulS ps r z).length = ps.length := by simp [mulS]
theorem mulS_val {ps : List Nat} {r z : Nat} (hr : r + 1 < ps.length) : val B6 (mulS ps r z) = val B6 ps + B6 ^ r * z := by
  have h1 := val_set B6 ps r (dg ps r + z) (by omega)
  have h2 := carry_val (os := ps.set r (dg ps r + z)) (r := r) (by rw [List.length_set]; exact hr)
  rw [dg_set_eq (by omega), dg_set_ne (by omega)] at h2
  unfold mulS
  rw [h2]
  have e1 : ps.getD r 0 = dg ps r := rfl
  rw [e1, Nat.mul_add] at h1
  omega
theorem mulS_at {ps : List Nat} {r z p : Nat} (hr : r + 1 < ps.length) : dg (mulS ps r z) p = if p = r then (dg ps r + z) % B6 else if p = r + 1 then dg ps (r + 1) + (dg ps r + z) / B6 else dg ps p := by
  unfold mulS
  by_cases h1 : p = r
  · subst h1; rw [if_pos rfl, dg_set_eq (by simp; omega)]
  · rw [if_neg h1, dg_set_ne h1]
    by_cases h2 : p = r + 1
    · subst h2; rw [if_pos rfl, dg_set_eq (by simp; omega)]
    · rw [if_neg h2, dg_set_ne h2, dg_set_ne h1]

/-- The digits in the middle of a row: only the one at hand is above the base, and those behind the row are 0. -/
def Mid (ps : List Nat) (j k q : Nat) : Prop :=
  (∀ p, p ≠ j + q → dg ps p ≤ 1000000) ∧ dg ps (j + q) ≤ 2000000 ∧ (∀ p, j + k ≤ p → (q < k ∨ p ≠ j + k) → dg ps p = 0) ∧ (q = k → dg ps (j + k) ≤ 1000000)
theorem Mid.step {ps : List Nat} {j k q x y : Nat} (h : Mid ps j k q) (hq : q < k) (hl : j + q + 1 < ps.length) (hx : x < 1000000) (hy : y < 1000000) : Mid (mulS ps (j + q) (x * y)) j k (q + 1) := by
  obtain ⟨h1, h2, h3, h4⟩ := h
  have hxy : x * y ≤ 999999 * 999999 := Nat.mul_le_mul (by omega) (by omega)
  have hc : (dg ps (j + q) + x * y) / B6 ≤ 1000000 := by
    have : dg ps (j + q) + x * y ≤ 1000000 * 1000000 + 1 := by omega
    unfold B6; omega
  have hm : (dg ps (j + q) + x * y) % B6 < 1000000 := Nat.mod_lt _ (by decide)
  refine ⟨fun p hp => ?_, ?_, fun p hp hp2 => ?_, fun e => ?_⟩
  · rw [mulS_at hl]
    split
    · omega
    · rw [if_neg (by omega)]
      exact h1 p (by omega)
  · rw [mulS_at hl, if_neg (by omega), if_pos (by omega)]
    have := h1 (j + q + 1) (by omega)
    omega
  · rw [mulS_at hl, if_neg (by omega), if_neg (by omega)]
    exact h3 p hp (by omega)
  · rw [mulS_at hl, if_neg (by omega), if_pos (by omega)]
    have := h3 (j + q + 1) (by omega) (by omega)
    omega
/-- The digits between two rows. -/
def Btw (os : List Nat) (j k : Nat) : Prop := (∀ p, dg os p ≤ 1000000) ∧ (∀ p, j + k ≤ p → dg os p = 0)
theorem Btw.mid {os : List Nat} {j k : Nat} (h : Btw os j k) : Mid os j k 0 :=
  ⟨fun p _ => h.1 p, by have := h.1 (j + 0); omega, fun p hp _ => h.2 p hp, fun _ => h.1 _⟩
theorem Mid.btw {ps : List Nat} {j k : Nat} (h : Mid ps j k k) : Btw ps (j + 1) k :=
  ⟨fun p => by
    by_cases e : p = j + k
    · subst e; exact h.2.2.2 rfl
    · exact h.1 p e, fun p hp => h.2.2.1 p (by omega) (by omega)⟩
theorem times_row {l m ps : List Nat} {j q : Nat} (hl : j + q + 1 < ps.length) (hval : val B6 ps = val B6 (l.take j) * val B6 m + B6 ^ j * (dg l j * val B6 (m.take q))) :
    val B6 (mulS ps (j + q) (dg l j * dg m q)) = val B6 (l.take j) * val B6 m + B6 ^ j * (dg l j * val B6 (m.take (q + 1))) := by
  rw [mulS_val hl, hval, val_take_succ, Nat.mul_add, Nat.mul_add, Nat.pow_add]
  have e2 : B6 ^ j * B6 ^ q * (dg l j * dg m q) = B6 ^ j * (dg l j * (B6 ^ q * m.getD q 0)) := by
    show _ = B6 ^ j * (dg l j * (B6 ^ q * dg m q))
    rw [Nat.mul_assoc, Nat.mul_left_comm (B6 ^ q)]
  rw [e2, Nat.add_assoc]
theorem times_next {l m ps : List Nat} {j k : Nat} (hk : m.length = k) (hval : val B6 ps = val B6 (l.take j) * val B6 m + B6 ^ j * (dg l j * val B6 (m.take k))) :
    val B6 ps = val B6 (l.take (j + 1)) * val B6 m := by
  rw [hval, show m.take k = m from List.take_of_length_le (by omega), val_take_succ, Nat.add_mul, Nat.mul_assoc]
  rfl
/-- The last loop: the digits before a place are right. -/
def Fin_ (os : List Nat) (i : Nat) : Prop := (∀ p, p < i → dg os p < 1000000) ∧ (∀ p, i < p → dg os p ≤ 1000000) ∧ dg os i ≤ 2000000
def carS (os : List Nat) (r : Nat) : List Nat := (os.set (r + 1) (dg os (r + 1) + dg os r / B6)).set r (dg os r % B6)
theorem Fin_.step {os : List Nat} {i : Nat} (h : Fin_ os i) (hl : i + 1 < os.length) : Fin_ (carS os i) (i + 1) := by
  obtain ⟨h1, h2, h3⟩ := h
  have hat : ∀ p, dg (carS os i) p = if p = i then dg os i % B6 else if p = i + 1 then dg os (i + 1) + dg os i / B6 else dg os p := by
    intro p
    unfold carS
    by_cases e1 : p = i
    · subst e1; rw [if_pos rfl, dg_set_eq (by simp; omega)]
    · rw [if_neg e1, dg_set_ne e1]
      by_cases e2 : p = i + 1
      · subst e2; rw [if_pos rfl, dg_set_eq (by omega)]
      · rw [if_neg e2, dg_set_ne e2]
  have hm : dg os i % B6 < 1000000 := Nat.mod_lt _ (by decide)
  have hc : dg os i / B6 ≤ 2 := by unfold B6; omega
  refine ⟨fun p hp => ?_, fun p hp => ?_, ?_⟩
  · rw [hat]
    split
    · exact hm
    · rw [if_neg (by omega)]; exact h1 p (by omega)
  · rw [hat, if_neg (by omega), if_neg (by omega)]; exact h2 p (by omega)
  · rw [hat, if_neg (by omega), if_pos rfl]
    have := h2 (i + 1) (by omega)
    omega
theorem Fin_.digs {os : List Nat} {N : Nat} (h : Fin_ os N) (hl : os.length = N + 1) (hv : val B6 os < B6 ^ N) : Digs B6 os := by
  have hz : dg os N = 0 := by
    have h1 := val_split B6 os N (by omega)
    have h2 : os.drop N = [dg os N] := by
      have h3 : (os.drop N).length = 1 := by rw [List.length_drop]; omega
      have h4 : ∃ a, os.drop N = [a] := by
        match os.drop N, h3 with
        | [a], _ => exact ⟨a, rfl⟩
      obtain ⟨a, ha⟩ := h4
      have h5 : (os.drop N)[0]? = some a := by rw [ha]; rfl
      rw [List.getElem?_drop] at h5
      rw [ha]
      unfold dg
      rw [List.getD_eq_getElem?_getD, show N = N + 0 by omega, h5]
      rfl
    rw [h2] at h1
    rcases Nat.eq_zero_or_pos (dg os N) with h3 | h3
    · exact h3
    · have h4 : B6 ^ N * 1 ≤ B6 ^ N * val B6 [dg os N] := Nat.mul_le_mul_left _ (by simp [val]; omega)
      omega
  intro d hd
  obtain ⟨p, hp, rfl⟩ := List.getElem_of_mem hd
  have e : os[p] = dg os p := by unfold dg; rw [List.getD_eq_getElem?_getD, List.getElem?_eq_getElem hp]; rfl
  rw [e]
  rcases Nat.lt_or_ge p N with h1 | h1
  · exact h.1 p h1
  · rw [show p = N by omega, hz]; decide

end Go.Proofs.YtegobkaldedhhaaGreatDoor
