
/- The walk of the reference's numbers: half. -/
import Derived.Test.YtegobkaldedhhaaGreatDoorR5
namespace Go.Proofs.YtegobkaldedhhaaGreatDoor
open Go.RowKit Limb

theorem drop_dg {l : List Nat} {j : Nat} (h : j < l.length) : l.drop j = dg l j :: l.drop (j + 1) := by
  rw [List.drop_eq_getElem_cons h]
  congr 1
  unfold dg
  rw [List.getD_eq_getElem?_getD, List.getElem?_eq_getElem h]
  rfl
theorem half_rel {l os : List Nat} {j r : Nat} (hl : j < l.length) (ho : j < os.length) (h : val B6 (l.drop (j + 1)) = 2 * val B6 (os.drop (j + 1)) + r) (gl : Digs B6 l) (hr : r ≤ 1) :
    (r * 1000000 + dg l j) / 2 < B6 ∧ (r * 1000000 + dg l j) % 2 ≤ 1 ∧ val B6 (l.drop j) = 2 * val B6 ((os.set j ((r * 1000000 + dg l j) / 2)).drop j) + (r * 1000000 + dg l j) % 2 := by
  have b1 := dg_lt gl (by decide) j
  unfold B6 at b1
  refine ⟨by unfold B6; omega, by omega, ?_⟩
  rw [drop_dg hl, drop_dg (l := os.set j _) (by rw [List.length_set]; exact ho), dg_set_eq ho, List.drop_set_of_lt (by omega), val_cons, val_cons, h]
  generalize val B6 (os.drop (j + 1)) = v
  unfold B6
  omega

/-- What half comes to. -/
def HalfEnd (z : Int) (w : World) (e : Ending) (w' : World) : Prop :=
  ∃ s A n c, e = .returned (.tuple #[.agg #[.bool s, .slice A n c], .int .i64 (z % 2)]) ∧ Big .i64 3 B6 w' s A n c (z / 2) ∧ (∀ a, A = some a → w.heap.size < a.block ∧ a.block < w'.heap.size) ∧ Below w.heap.size w w'

theorem fresh_half {H N g : Nat} (h : H < g ∧ g < N) : ∀ a, some (⟨g, 0, none⟩ : Addr) = some a → H < a.block ∧ a.block < N := by
  intro a e
  injection e with e
  subst e
  exact h

set_option maxHeartbeats 4000000 in
set_option maxRecDepth 100000 in
theorem half_r (w : World) {s : Bool} {A : Option Addr} {n c : Nat} {z : Int} (ha : Big .i64 3 B6 w s A n c z) (sz : Small z) (hz : 0 ≤ z) :
    Calls Tryz.prog 79 #[.agg #[.bool s, .slice A n c]] w (HalfEnd z w) := by
  obtain ⟨l, hd, hnc, hcm, gl, nl, sl, rfl⟩ := ha
  have hl := hd.1
  have h1 := small_len6 nl sz
  have HL := Lib.hid hl
  rw [hl] at h1
  have hsv : sg s (val B6 l) = (val B6 l : Int) := by unfold sg at hz ⊢; split <;> simp_all
  rw [hsv]
  clear hl hsv hz sz
  have hmk := run_make_row' (P := Tryz.prog) 49 3 (.int .i64 0) 8 Tryz.underlying49 Tryz.info3 rfl .i64 .i64 n (by omega) (by omega)
  go_enter Tryz.func79, Tryz.ntmps79
  go_wp2_with fail
  generalize hw4 : (((w.alloc (Obj.cells #[Value.bool s, Value.slice A n c] 61)).alloc (Obj.cells #[Value.bool false, Value.slice none 0 0] 61)).alloc (Obj.cells (madeCells #[Value.int IntKind.i64 0] n) 3)).alloc (Obj.cells #[Value.bool false, Value.slice (some { block := w.heap.size + 1 + 1, off := 0 }) n n] 61) = w4
  have hX : w4.heap[w.heap.size]? = some (.cells #[.bool s, .slice A n c] 61 (0, 0)) := by rw [← hw4]; exact heap_old (heap_old (heap_old (heap_new _ _ rfl) _) _) _
  have hR : w4.heap[w.heap.size + 1]? = some (.cells #[.bool false, .slice none 0 0] 61 (0, 0)) := by rw [← hw4]; exact heap_old (heap_old (heap_new _ _ (by simp)) _) _
  have hO : w4.heap[w.heap.size + 1 + 1 + 1]? = some (.cells #[.bool false, .slice (some ⟨w.heap.size + 1 + 1, 0, none⟩) n n] 61 (0, 0)) := by rw [← hw4]; exact heap_new _ _ (by simp)
  have hown : w4.ownsRow (w.heap.size + 1 + 1) 3 1 (.slice (some ⟨w.heap.size + 1 + 1, 0, none⟩) n n) n (digV .i64 (List.replicate n 0)) := by
    rw [← hw4]
    have h := own_zeros ((w.alloc (Obj.cells #[Value.bool s, Value.slice A n c] 61)).alloc (Obj.cells #[Value.bool false, Value.slice none 0 0] 61)) (w.heap.size + 1 + 1) n (by simp) (by omega)
    simp only [World.size_alloc] at h
    exact h.alloc _
  have hB : Below w.heap.size w w4 := by rw [← hw4]; go_grown
  clear hw4 hmk
  go_loopw [5, 6] (fun rv iv wr => ∃ (j r : Nat) (os : List Nat), j ≤ n ∧ rv = .int .i64 r ∧ iv = .int .i64 ((j : Int) - 1) ∧ r ≤ 1 ∧ wr.ownsRow (w.heap.size + 1 + 1) 3 1 (.slice (some ⟨w.heap.size + 1 + 1, 0, none⟩) n n) n (digV .i64 os) ∧ Digs B6 os ∧ val B6 (l.drop j) = 2 * val B6 (os.drop j) + r ∧
      wr.heap[w.heap.size]? = some (.cells #[.bool s, .slice A n c] 61 (0, 0)) ∧ wr.heap[w.heap.size + 1]? = some (.cells #[.bool false, .slice none 0 0] 61 (0, 0)) ∧ wr.heap[w.heap.size + 1 + 1 + 1]? = some (.cells #[.bool false, .slice (some ⟨w.heap.size + 1 + 1, 0, none⟩) n n] 61 (0, 0)) ∧ Below w.heap.size w wr) (fun _ iv _ => (intOf iv + 1).toNat)
  case atStart => exact ⟨n, 0, _, Nat.le_refl _, rfl, rfl, by omega, hown, digs_zeros (by decide) _, by rw [List.drop_of_length_le (by rw [HL.out]; exact Nat.le_refl _), List.drop_of_length_le (by simp)]; rfl, hX, hR, hO, hB⟩
  case round =>
    clear hown hX hR hO hB w4
    obtain ⟨j, r, os, hj, rfl, rfl, hr, hown, gos, hval, hX, hR, hO, hB⟩ := hrel
    have HV := Lib.hid hval; clear hval
    obtain ⟨x0, x1, -, -, -⟩ := box2 hX
    obtain ⟨o0, o1, -, -, -⟩ := box2 hO
    have hz := hB.size
    rcases j with _ | j
    · go_wp2_with fail
      refine (trimmed_r os false _ n n _ (Dig.of_own hown) (own_cap hown).1 (own_cap hown).2).mono ?_
      rintro e w2 ⟨hb2, kk, hkk, htk, rfl⟩
      have hR2 := heap_below hR hb2
      obtain ⟨g0, g1, g2, g3, g4⟩ := box2 hR2
      go_wp2
      have hd0 := (Dig.of_own hown).below hb2
      have hv : val B6 l = 2 * val B6 os + r := by have := HV.out; simpa using this
      refine bodyPost_ret (v := .tuple #[.agg #[.bool (false && decide (0 < kk)), .slice (some ⟨w.heap.size + 1 + 1, 0, none⟩) kk n], .int .i64 (r : Int)]) (by simp [results, Tryz.results79, go_sem, g0, g1]) rfl ⟨(false && decide (0 < kk)), some ⟨w.heap.size + 1 + 1, 0, none⟩, kk, n, by rw [show ((val B6 l : Nat) : Int) % 2 = (r : Int) by omega], Big.box2 (K := .i64) ⟨trim os, htk ▸ hd0.take hkk, by omega, (own_cap hown).2, digs_trim gos, norm_trim _, (fun h => by cases h), ?_⟩ hR2 (by decide) _ _, fresh_half (by have := hb2.size; have := lt_heap hO; simp; omega), ((below_then hb2 hB hz).setCell (by dsimp only; omega) _).setCell (by dsimp only; omega) _⟩
      rw [val_trim]; unfold sg; simp; omega
    · have e : ((j + 1 : Nat) : Int) - 1 = (j : Int) := by omega
      rw [e]
      obtain ⟨g, rfl, hg, hc1⟩ := hd.at_ (by omega)
      have hx := (hB.cell (p := ⟨g, j, none⟩) hg).trans (hc1 j (by omega))
      clear hc1
      have b1 : dg l j < 1000000 := dg_lt gl (by decide) j
      have hlen := row_len6 hown
      obtain ⟨q1, q2, q3⟩ := half_rel (by rw [HL.out]; omega) (by omega) HV.out gl hr
      have HV2 := Lib.hid q3; clear q3 hlen
      have hf := hown.frozenAt j
      have hz2 := row_cell6 hown (p := j) (by omega)
      have hlt : (j : Int) < (n : Int) := by omega
      have h0 : (0 : Int) ≤ (j : Int) := by omega
      go_wp2_with fail
      go_roundw
      case rel => exact ⟨j, (r * 1000000 + dg l j) % 2, os.set j ((r * 1000000 + dg l j) / 2), by omega, congrArg _ (by omega), rfl, q2, row_store6 hown j (by omega), gos.set _ q1, HV2.out, heap_far hX (by dsimp only; omega) _, heap_far hR (by dsimp only; omega) _, heap_far hO (by dsimp only; omega) _, hB.setCell (by dsimp only; omega) _⟩
      case measure => simp [intOf]

end Go.Proofs.YtegobkaldedhhaaGreatDoor
