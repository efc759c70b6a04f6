
/- The walks of working days: the leaves. -/
import Derived.Test.YtlkidhfjkgppoaaDoorA7
import Derived.Test.YtlkidhfjkgppoaaDoorD0
import Derived.Laws.ShiftsVar
import Derived.Laws.ShiftsVarLaws
namespace Go.Proofs.YtlkidhfjkgppoaaDoor
open Go.RowKit Limb Work

theorem retI {k : IntKind} {a b : Int} (h : a = b) : Ending.returned (.int k a) = .returned (.int k b) := by rw [h]
theorem retB {a b : Bool} (h : a = b) : Ending.returned (.bool a) = .returned (.bool b) := by rw [h]
/-- A slice of numbers as it lies in memory. -/
def Ints (w : World) (A : Option Addr) (n : Nat) (hs : List Int) : Prop :=
  hs.length = n ∧ (∀ d ∈ hs, -9223372036854775808 ≤ d ∧ d ≤ 9223372036854775807) ∧
    (0 < n → ∃ b off, A = some ⟨b, off, none⟩ ∧ b < w.heap.size ∧ ∀ j, j < n → w.cell? ⟨b, off + j, none⟩ = some (.int .i64 (hol hs j)))
theorem Ints.below {w w' : World} {A : Option Addr} {n : Nat} {hs : List Int} (h : Ints w A n hs) (hb : Below w.heap.size w w') : Ints w' A n hs :=
  ⟨h.1, h.2.1, fun hn => by
    obtain ⟨b, off, e, hl, hc⟩ := h.2.2 hn
    exact ⟨b, off, e, Nat.lt_of_lt_of_le hl hb.size, fun j hj => (hb.cell (p := ⟨b, off + j, none⟩) hl).trans (hc j hj)⟩⟩
theorem Ints.alloc {w : World} {A : Option Addr} {n : Nat} {hs : List Int} (h : Ints w A n hs) (o : Obj) : Ints (w.alloc o) A n hs := h.below ((Below.refl _ _).alloc (Nat.le_refl _) o)
theorem hol_get {hs : List Int} {j : Nat} (h : j < hs.length) : hs[j] = hol hs j := by
  unfold hol
  rw [List.getD_eq_getElem?_getD, List.getElem?_eq_getElem h]
  rfl
theorem Ints.rng {w : World} {A : Option Addr} {n : Nat} {hs : List Int} (h : Ints w A n hs) {j : Nat} (hj : j < n) : -9223372036854775808 ≤ hol hs j ∧ hol hs j ≤ 9223372036854775807 := by
  have hl : j < hs.length := by rw [h.1]; exact hj
  have := h.2.1 hs[j] (List.getElem_mem hl)
  rw [hol_get hl] at this
  exact this

theorem i64_and1 : ∀ c : Nat, c < 128 → bits .and .i64 (c : Int) 1 = ((c % 2 : Nat) : Int) := by decide
theorem shr_bd {r : Int} (hr : 0 ≤ r ∧ r ≤ 126) (k : Nat) : 0 ≤ r / 2 ^ k ∧ r / 2 ^ k ≤ 126 := by
  have hp : (0 : Int) < 2 ^ k := Int.pow_pos (by decide)
  refine ⟨Int.ediv_nonneg hr.1 (by omega), ?_⟩
  have h1 : r / 2 ^ k ≤ r := Int.ediv_le_self _ hr.1
  omega
theorem and1_bit {r : Int} {k : Nat} (hr : 0 ≤ r ∧ r ≤ 126) (hk : k ≤ 6) : (bits .and .i64 (r / 2 ^ k) 1 == 1) = bitB r k := by
  have _ := hk
  obtain ⟨h0, h1⟩ := shr_bd hr k
  unfold bitB
  generalize r / 2 ^ k = v at *
  obtain ⟨c, rfl⟩ := Int.eq_ofNat_of_zero_le h0
  rw [i64_and1 c (by omega), Bool.eq_iff_iff]
  simp
  try omega
theorem mod_bit {r : Int} {k : Nat} : ((r / 2 ^ k) % 2 == 1) = bitB r k := by
  unfold bitB
  rw [Bool.eq_iff_iff]
  simp

theorem holAt_day {hs : List Int} {i : Nat} (h : dayB (hol hs i) = false) : holAt hs i = 1 := by unfold holAt; rw [if_pos h]
theorem holAt_ord {hs : List Int} {i : Nat} (h : dayB (hol hs i) = true) (h2 : 0 < i ∧ hol hs i ≤ hol hs (i - 1)) : holAt hs i = 8 := by unfold holAt; rw [if_neg (by rw [h]; simp), if_pos h2]
theorem holAt_ok {hs : List Int} {i : Nat} (h : dayB (hol hs i) = true) (h2 : ¬ (0 < i ∧ hol hs i ≤ hol hs (i - 1))) : holAt hs i = 0 := by unfold holAt; rw [if_neg (by rw [h]; simp), if_neg h2]
theorem calF_scan {r : Int} {hs : List Int} (hr : 0 ≤ r ∧ r ≤ 126) (hl : ¬ 1000 < hs.length) : calF r hs = scan (holAt hs) 0 hs.length := by unfold calF; rw [if_neg (by omega), if_neg hl]
theorem calF_r {r : Int} {hs : List Int} (hr : ¬ (0 ≤ r ∧ r ≤ 126)) : calF r hs = 1 := by unfold calF; rw [if_pos hr]
theorem calF_l {r : Int} {hs : List Int} (hr : 0 ≤ r ∧ r ≤ 126) (hl : 1000 < hs.length) : calF r hs = 2 := by unfold calF; rw [if_neg (by omega), if_pos hl]

end Go.Proofs.YtlkidhfjkgppoaaDoor
