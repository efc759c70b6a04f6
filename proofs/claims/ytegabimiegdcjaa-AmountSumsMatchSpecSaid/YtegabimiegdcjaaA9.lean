
/- The walk of the law AmountSumsAreExact. -/
import Derived.Test.YtegabimiegdcjaaA8
import Derived.Test.YtegabimiegdcjaaL1
namespace Go.Proofs.Ytegabimiegdcjaa
open Go.RowKit Limb

/-- The sum's contract, in one. -/
theorem sum_c' (ds : List (Int × Int)) (A : Option Addr) (n c : Nat) (w : World) (hd : Decs w A n ds) (hn : n ≤ 9223372036854775807) :
    Calls Try.prog 11 #[.slice A n c] w (RetD (sumR ds) w) := by
  by_cases h : 1000 < n
  · exact sum_big ds A n c w hd hn h
  · by_cases hb : allB ds = true
    · exact sum_ok ds A n c w hd h hb
    · exact sum_bad ds A n c w hd h (by simpa using hb)

theorem Decs.take {w : World} {A : Option Addr} {n k : Nat} {ds : List (Int × Int)} (h : Decs w A n ds) (hk : k ≤ n) : Decs w A k (ds.take k) := by
  refine ⟨by rw [List.length_take, h.1]; omega, fun d hd => h.2.1 d (List.mem_of_mem_take hd), fun h0 => ?_⟩
  obtain ⟨b, off, e, hl, hc⟩ := h.2.2 (by omega)
  refine ⟨b, off, e, hl, fun j hj => ?_⟩
  have e1 : dU (ds.take k) j = dU ds j := by unfold dU; rw [List.getD_eq_getElem?_getD, List.getD_eq_getElem?_getD, List.getElem?_take, if_pos hj]
  have e2 : dP (ds.take k) j = dP ds j := by unfold dP; rw [List.getD_eq_getElem?_getD, List.getD_eq_getElem?_getD, List.getElem?_take, if_pos hj]
  rw [e1, e2]
  exact hc j (by omega)
theorem Decs.none_ {w : World} {A : Option Addr} {n : Nat} {ds : List (Int × Int)} (hn : n = 0) (hd : ds = []) : Decs w A n ds := by
  subst hn; subst hd
  exact ⟨rfl, fun d hd => by simp at hd, fun h => by omega⟩
theorem Decs.drop {w : World} {A : Option Addr} {n k : Nat} {ds : List (Int × Int)} (h : Decs w A n ds) (hk : k ≤ n) : Decs w (A.map fun x => x.add (k * 2)) (n - k) (ds.drop k) := by
  refine ⟨by rw [List.length_drop, h.1], fun d hd => h.2.1 d (List.mem_of_mem_drop hd), fun h0 => ?_⟩
  obtain ⟨b, off, rfl, hl, hcell⟩ := h.2.2 (by omega)
  refine ⟨b, off + k * 2, ?_, hl, fun j hj => ?_⟩
  · simp only [Option.map_some, Addr.add]; split <;> simp_all
  have e1 : dU (ds.drop k) j = dU ds (k + j) := by unfold dU; rw [List.getD_eq_getElem?_getD, List.getD_eq_getElem?_getD, List.getElem?_drop]
  have e2 : dP (ds.drop k) j = dP ds (k + j) := by unfold dP; rw [List.getD_eq_getElem?_getD, List.getD_eq_getElem?_getD, List.getElem?_drop]
  rw [e1, e2]
  have := hcell (k + j) (by omega)
  have e3 : off + (k + j) * 2 = off + k * 2 + j * 2 := by omega
  rw [e3] at this
  exact this
/-- Decimals in a row of the call's own. -/
theorem Decs.of_own {w : World} {B n c : Nat} {A : Option Addr} {ds : List (Int × Int)} (h : w.ownsRow B 23 2 (.slice A n c) n (decV ds)) (hr : ∀ d ∈ ds, (-9223372036854775808 ≤ d.1 ∧ d.1 ≤ 9223372036854775807) ∧ (-9223372036854775808 ≤ d.2 ∧ d.2 ≤ 9223372036854775807)) : Decs w A n ds := by
  have hl : ds.length = n := by have := h.1; rw [decV_length] at this; omega
  refine ⟨hl, hr, fun h0 => ?_⟩
  rcases h.2 with ⟨_, hn⟩ | ⟨g, cap, cur, hv, _, hh, _⟩
  · omega
  · injection hv with hA _ hcap
    subst hA; subst hcap
    refine ⟨g, 0, rfl, lt_heap hh, fun j hj => ?_⟩
    have h1 := decV_get ds j (by omega)
    rw [Nat.zero_add]
    exact ⟨(h.cellAt (j * 2) (by omega)).trans h1.1, (h.cellAt (j * 2 + 1) (by omega)).trans h1.2⟩

end Go.Proofs.Ytegabimiegdcjaa
