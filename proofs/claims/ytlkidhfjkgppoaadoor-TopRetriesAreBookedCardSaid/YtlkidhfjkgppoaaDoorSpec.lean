
/- What the amounts' functions compute, in plain numbers. No program in sight. -/
import Derived.Test.YtlkidhfjkgppoaaDoorMem
namespace Go.Proofs.YtlkidhfjkgppoaaDoor
open Go.RowKit Limb

/-- A right decimal. -/
def decB (u p : Int) : Bool := decide (-1000000000000000 ≤ u ∧ u ≤ 1000000000000000 ∧ 0 ≤ p ∧ p ≤ 9)
theorem decB_mk {u p : Int} (h : -1000000000000000 ≤ u ∧ u ≤ 1000000000000000 ∧ 0 ≤ p ∧ p ≤ 9) : decB u p = true := decide_eq_true h
theorem decB_out {u p : Int} (h : decB u p = true) : -1000000000000000 ≤ u ∧ u ≤ 1000000000000000 ∧ 0 ≤ p ∧ p ≤ 9 := of_decide_eq_true h
theorem decB_not {u p : Int} (h : decB u p = false) : ¬ (-1000000000000000 ≤ u ∧ u ≤ 1000000000000000 ∧ 0 ≤ p ∧ p ≤ 9) := of_decide_eq_false h

/-- The units of a decimal with more places. -/
def scaled (u p : Int) (q : Nat) : Int := u * ((10 ^ (q - p.toNat) : Nat) : Int)

theorem scaled_bound {u p : Int} {q : Nat} (hu : -1000000000000000 ≤ u ∧ u ≤ 1000000000000000) (hq : q ≤ 9) : -1000000000000000000000000 ≤ scaled u p q ∧ scaled u p q ≤ 1000000000000000000000000 := by
  unfold scaled
  have h1 : 10 ^ (q - p.toNat) ≤ 10 ^ 9 := Nat.pow_le_pow_right (by omega) (by omega)
  have h0 : 0 < 10 ^ (q - p.toNat) := Nat.pow_pos (by omega)
  generalize 10 ^ (q - p.toNat) = k at *
  have h2 : u * (k : Int) ≤ 1000000000000000 * k := Int.mul_le_mul_of_nonneg_right hu.2 (by omega)
  have h3 : -1000000000000000 * (k : Int) ≤ u * k := Int.mul_le_mul_of_nonneg_right hu.1 (by omega)
  omega

def dU (ds : List (Int × Int)) (j : Nat) : Int := (ds.getD j (0, 0)).1
def dP (ds : List (Int × Int)) (j : Nat) : Int := (ds.getD j (0, 0)).2

/-- A slice of decimals as it lies in memory. -/
def Decs (w : World) (A : Option Addr) (n : Nat) (ds : List (Int × Int)) : Prop :=
  ds.length = n ∧ (∀ d ∈ ds, (-9223372036854775808 ≤ d.1 ∧ d.1 ≤ 9223372036854775807) ∧ (-9223372036854775808 ≤ d.2 ∧ d.2 ≤ 9223372036854775807)) ∧
    (0 < n → ∃ b off, A = some ⟨b, off, none⟩ ∧ b < w.heap.size ∧ ∀ j, j < n → w.cell? ⟨b, off + j * 2, none⟩ = some (.int .i64 (dU ds j)) ∧ w.cell? ⟨b, off + j * 2 + 1, none⟩ = some (.int .i64 (dP ds j)))
theorem Decs.below {w w' : World} {A : Option Addr} {n : Nat} {ds : List (Int × Int)} (h : Decs w A n ds) (hb : Below w.heap.size w w') : Decs w' A n ds :=
  ⟨h.1, h.2.1, fun hn => by
    obtain ⟨b, off, e, hl, hc⟩ := h.2.2 hn
    exact ⟨b, off, e, Nat.lt_of_lt_of_le hl hb.size, fun j hj => ⟨(hb.cell (p := ⟨b, off + j * 2, none⟩) hl).trans (hc j hj).1, (hb.cell (p := ⟨b, off + j * 2 + 1, none⟩) hl).trans (hc j hj).2⟩⟩⟩
theorem Decs.alloc {w : World} {A : Option Addr} {n : Nat} {ds : List (Int × Int)} (h : Decs w A n ds) (o : Obj) : Decs (w.alloc o) A n ds := h.below ((Below.refl _ _).alloc (Nat.le_refl _) o)
theorem dec_get {ds : List (Int × Int)} {j : Nat} (h : j < ds.length) : ds[j] = (dU ds j, dP ds j) := by
  unfold dU dP
  rw [List.getD_eq_getElem?_getD, List.getElem?_eq_getElem h]
  rfl
theorem Decs.rng {w : World} {A : Option Addr} {n : Nat} {ds : List (Int × Int)} (h : Decs w A n ds) {j : Nat} (hj : j < n) : (-9223372036854775808 ≤ dU ds j ∧ dU ds j ≤ 9223372036854775807) ∧ (-9223372036854775808 ≤ dP ds j ∧ dP ds j ≤ 9223372036854775807) := by
  have hl : j < ds.length := by rw [h.1]; exact hj
  have := h.2.1 ds[j] (List.getElem_mem hl)
  rw [dec_get hl] at this
  exact this

/-- All are right. -/
def allB (ds : List (Int × Int)) : Bool := ds.all fun d => decB d.1 d.2
theorem allB_at {ds : List (Int × Int)} (h : allB ds = true) {j : Nat} (hj : j < ds.length) : decB (dU ds j) (dP ds j) = true := by
  have := List.all_eq_true.1 h ds[j] (List.getElem_mem hj)
  rw [dec_get hj] at this
  exact this
theorem allB_bad {ds : List (Int × Int)} (h : allB ds = false) : ∃ j, j < ds.length ∧ decB (dU ds j) (dP ds j) = false ∧ ∀ i, i < j → decB (dU ds i) (dP ds i) = true := by
  induction ds with
  | nil => simp [allB] at h
  | cons d ds ih =>
    by_cases hd : decB d.1 d.2 = true
    · have h2 : allB ds = false := by simpa [allB, hd] using h
      obtain ⟨j, hj, h3, h4⟩ := ih h2
      refine ⟨j + 1, by simpa using hj, ?_, ?_⟩
      · simpa [dU, dP, List.getD_eq_getElem?_getD] using h3
      · intro i hi
        cases i with
        | zero => simpa [dU, dP, List.getD_eq_getElem?_getD] using hd
        | succ i => simpa [dU, dP, List.getD_eq_getElem?_getD] using h4 i (by omega)
    · exact ⟨0, by simp, by simpa [dU, dP, List.getD_eq_getElem?_getD] using hd, fun i hi => by omega⟩

/-- The decimal with so many units and places: units, places, fault. -/
def made (z p : Int) : Int × Int × Int := if z.natAbs ≤ 1000000000000000 then (z, p, 0) else (0, 0, 1)
/-- What a function that returns a decimal and a fault comes to. -/
def RetD (r : Int × Int × Int) (w : World) (e : Ending) (w' : World) : Prop :=
  e = .returned (.tuple #[.agg #[.int .i64 r.1, .int .i64 r.2.1], .int .i64 r.2.2]) ∧ Below w.heap.size w w'

/-- The exact sum of decimals. -/
def maxP (ds : List (Int × Int)) : Int := ds.foldl (fun m d => max m d.2) 0
def sumZ (ds : List (Int × Int)) (q : Nat) : Int := ds.foldl (fun z d => z + scaled d.1 d.2 q) 0
def sumR (ds : List (Int × Int)) : Int × Int × Int :=
  if 1000 < ds.length then (0, 0, 2) else if allB ds then made (sumZ ds (maxP ds).toNat) (maxP ds) else (0, 0, 1)

theorem foldl_snoc {α β : Type} (f : β → α → β) (b : β) (l : List α) (k : Nat) (h : k < l.length) : (l.take (k + 1)).foldl f b = f ((l.take k).foldl f b) l[k] := by
  rw [List.take_succ_eq_append_getElem h, List.foldl_append]; rfl
theorem maxP_step {ds : List (Int × Int)} {j : Nat} (h : j < ds.length) : maxP (ds.take (j + 1)) = max (maxP (ds.take j)) (dP ds j) := by
  unfold maxP; rw [foldl_snoc _ _ _ _ h, dec_get h]
theorem sumZ_step {ds : List (Int × Int)} {q j : Nat} (h : j < ds.length) : sumZ (ds.take (j + 1)) q = sumZ (ds.take j) q + scaled (dU ds j) (dP ds j) q := by
  unfold sumZ; rw [foldl_snoc _ _ _ _ h, dec_get h]
theorem maxP_bound {ds : List (Int × Int)} (h : allB ds = true) : ∀ j, j ≤ ds.length → 0 ≤ maxP (ds.take j) ∧ maxP (ds.take j) ≤ 9 := by
  intro j
  induction j with
  | zero => intro _; simp [maxP]
  | succ j ih =>
    intro hj
    rw [maxP_step (by omega)]
    have := ih (by omega)
    have h2 := decB_out (allB_at h (j := j) (by omega))
    omega
theorem maxP_ge {ds : List (Int × Int)} : ∀ k j, j < k → k ≤ ds.length → dP ds j ≤ maxP (ds.take k) := by
  intro k
  induction k with
  | zero => intro j h; omega
  | succ k ih =>
    intro j hj hk
    rw [maxP_step (by omega)]
    rcases Nat.lt_or_ge j k with h | h
    · have := ih j h (by omega); omega
    · have : j = k := by omega
      subst this; omega
theorem sumZ_bound {ds : List (Int × Int)} {q : Nat} (h : allB ds = true) (hq : q ≤ 9) : ∀ j : Nat, j ≤ ds.length → -1000000000000000000000000 * (j : Int) ≤ sumZ (ds.take j) q ∧ sumZ (ds.take j) q ≤ 1000000000000000000000000 * (j : Int) := by
  intro j
  induction j with
  | zero => intro _; simp [sumZ]
  | succ j ih =>
    intro hj
    rw [sumZ_step (by omega)]
    have := ih (by omega)
    have h2 := decB_out (allB_at h (j := j) (by omega))
    have h3 := scaled_bound (u := dU ds j) (p := dP ds j) (q := q) (by omega) hq
    omega

theorem decs_two (w : World) {u p v q : Int} {g : Nat} (t : TypeId) (hg : g = w.heap.size) (hu : -9223372036854775808 ≤ u ∧ u ≤ 9223372036854775807) (hp : -9223372036854775808 ≤ p ∧ p ≤ 9223372036854775807) (hv : -9223372036854775808 ≤ v ∧ v ≤ 9223372036854775807) (hq : -9223372036854775808 ≤ q ∧ q ≤ 9223372036854775807) :
    Decs (w.alloc (.cells #[.int .i64 u, .int .i64 p, .int .i64 v, .int .i64 q] t)) (some ⟨g, 0, none⟩) 2 [(u, p), (v, q)] := by
  subst hg
  refine ⟨rfl, fun d hd => ?_, fun _ => ⟨w.heap.size, 0, rfl, by simp, fun j hj => ?_⟩⟩
  · simp at hd
    rcases hd with rfl | rfl
    · exact ⟨hu, hp⟩
    · exact ⟨hv, hq⟩
  · have hB := heap_new w (.cells #[.int .i64 u, .int .i64 p, .int .i64 v, .int .i64 q] t) rfl
    match j, hj with
    | 0, _ => exact ⟨cell_of_row _ _ 0 _ _ _ hB, cell_of_row _ _ 1 _ _ _ hB⟩
    | 1, _ => exact ⟨cell_of_row _ _ 2 _ _ _ hB, cell_of_row _ _ 3 _ _ _ hB⟩
theorem allB_two {u p v q : Int} : allB [(u, p), (v, q)] = (decB u p && decB v q) := by simp [allB]
theorem scaled_small {u p : Int} {q : Nat} (h : decB u p = true) (hq : q ≤ 9) : Small (scaled u p q) := by
  have h := decB_out h
  have := scaled_bound (p := p) (u := u) (by omega) hq
  unfold Small
  have : 1000000000000000000000000 < 10 ^ 200 := by decide
  omega

end Go.Proofs.YtlkidhfjkgppoaaDoor
