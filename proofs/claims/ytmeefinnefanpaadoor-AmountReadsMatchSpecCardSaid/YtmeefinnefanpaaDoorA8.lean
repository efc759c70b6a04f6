
/- The walks of Below, and of Clone and Reverse at decimals. -/
import Derived.Test.YtmeefinnefanpaaDoorA7
import Derived.WalkSpells
namespace Go.Proofs.YtmeefinnefanpaaDoor
open Go.RowKit Limb

theorem Tryd.info23 : (Tryd.prog.info? 23).map (fun i => (i.zero, i.size, i.bytes)) = some (some (.agg #[.int .i64 0, .int .i64 0]), 2, 16) := by kernel_rfl

/-- Decimals as cells. -/
def decV (ds : List (Int × Int)) : List Value := ds.flatMap fun d => [.int .i64 d.1, .int .i64 d.2]
theorem decV_length (ds : List (Int × Int)) : (decV ds).length = ds.length * 2 := by
  induction ds with
  | nil => rfl
  | cons d ds ih => simp [decV] at ih ⊢; omega
theorem decV_get (ds : List (Int × Int)) (j : Nat) (h : j < ds.length) : (decV ds)[j * 2]? = some (.int .i64 (dU ds j)) ∧ (decV ds)[j * 2 + 1]? = some (.int .i64 (dP ds j)) := by
  induction ds generalizing j with
  | nil => simp at h
  | cons d ds ih =>
    cases j with
    | zero => simp [decV, dU, dP]
    | succ j =>
      have := ih j (by simpa using h)
      have e1 : (j + 1) * 2 = j * 2 + 2 := by omega
      rw [e1]
      simpa [decV, dU, dP, List.getD_eq_getElem?_getD] using this
theorem decV_one (ds : List (Int × Int)) : ∀ u ∈ decV ds, u.oneCell' = true := by
  intro u hu
  simp only [decV, List.mem_flatMap] at hu
  obtain ⟨d, _, hd⟩ := hu
  simp at hd
  rcases hd with rfl | rfl <;> rfl
theorem Decs.news {w : World} {b off n : Nat} {ds : List (Int × Int)} (h : Decs w (some ⟨b, off, none⟩) n ds) : ∀ j u, (decV ds)[j]? = some u → w.cell? ((⟨b, off, none⟩ : Addr).add j) = some u := by
  intro j u hj
  have hlt : j < (decV ds).length := by
    rcases Nat.lt_or_ge j (decV ds).length with h1 | h1
    · exact h1
    · rw [List.getElem?_eq_none h1] at hj; cases hj
  rw [decV_length] at hlt
  have hn := h.1
  obtain ⟨b', off', e, _, hc⟩ := h.2.2 (by omega)
  injection e with e
  injection e with e1 e2
  subst e1; subst e2
  have hadd : (⟨b, off, none⟩ : Addr).add j = ⟨b, off + j, none⟩ := by unfold Addr.add; split <;> simp_all
  rw [hadd]
  have h1 := hc (j / 2) (by omega)
  have h2 := decV_get ds (j / 2) (by omega)
  rcases Nat.mod_two_eq_zero_or_one j with hm | hm
  · have ej : j / 2 * 2 = j := by omega
    rw [ej] at h1 h2
    rw [h2.1] at hj
    rw [← hj]
    exact h1.1
  · have ej : j / 2 * 2 + 1 = j := by omega
    have e3 : off + j / 2 * 2 + 1 = off + j := by omega
    rw [ej] at h2
    rw [e3] at h1
    rw [h2.2] at hj
    rw [← hj]
    exact h1.2

theorem decV_set (ds : List (Int × Int)) (i : Nat) (u p : Int) : decV (ds.set i (u, p)) = ((decV ds).set (i * 2) (.int .i64 u)).set (i * 2 + 1) (.int .i64 p) := by
  induction ds generalizing i with
  | nil => simp [decV]
  | cons d ds ih =>
    cases i with
    | zero => simp [decV]
    | succ i =>
      have := ih i
      have e1 : (i + 1) * 2 = i * 2 + 2 := by omega
      rw [e1]
      simpa [decV] using this

/-- What Clone comes to. -/
def Cloned (ds : List (Int × Int)) (w : World) (e : Ending) (w' : World) : Prop :=
  ∃ A c, e = .returned (.slice A ds.length c) ∧ w'.ownsRow w.heap.size 23 2 (.slice A ds.length c) ds.length (decV ds) ∧ Below w.heap.size w w'

end Go.Proofs.YtmeefinnefanpaaDoor
