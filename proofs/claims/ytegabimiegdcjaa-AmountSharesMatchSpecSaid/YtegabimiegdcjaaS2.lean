
/- A row of shares in memory, and the test between two of them. -/
import Derived.Test.YtegabimiegdcjaaS1
import Derived.Test.YtegabimiegdcjaaA7
import Derived.Laws.IdiomCopy
namespace Go.Proofs.Ytegabimiegdcjaa
open Go.RowKit Limb Stab
set_option linter.unusedVariables false

/-- A family of shares: the row's place, and what each share holds. -/
structure Fam where
  n : Nat
  blk : Nat
  off : Nat
  w0 : World
  q : Nat → Int
  r : Nat → Nat
  sg : Nat → Bool
  A : Nat → Option Addr
  m : Nat → Nat
  c : Nat → Nat
def Fam.enc (F : Fam) (x : Nat) : List Value := [.int .i64 (x : Int), .int .i64 (F.q x), .bool (F.sg x), .slice (F.A x) (F.m x) (F.c x)]
structure Fam.Good (F : Fam) : Prop where
  big : ∀ j, j < F.n → Big .u32 86 B32 F.w0 (F.sg j) (F.A j) (F.m j) (F.c j) ((F.r j : Nat) : Int)
  low : ∀ j, j < F.n → F.r j < 10 ^ 190
  few : F.n ≤ 1000
  own : ∃ cs, F.w0.heap[F.blk]? = some (.cells cs 78 (0, 0))
/-- What stands at each place is a share of the family, each one once. -/
def Bij (n : Nat) (f : Nat → Nat) : Prop := ∃ g : Nat → Nat, ∀ x, x < n → f x < n ∧ g x < n ∧ f (g x) = x ∧ g (f x) = x
structure Fam.Row (F : Fam) (f : Nat → Nat) (w : World) : Prop where
  cell : ∀ j, j < F.n → ∀ c v, (F.enc (f j))[c]? = some v → w.cell? ⟨F.blk, F.off + j * 4 + c, none⟩ = some v
  row : ∃ cs, w.heap[F.blk]? = some (.cells cs 78 (0, 0))
  os : w.os = F.w0.os
  tape : w.tape = F.w0.tape
  output : w.output = F.w0.output
  size : F.w0.heap.size ≤ w.heap.size
  other : ∀ g, g < F.w0.heap.size → g ≠ F.blk → w.heap[g]? = F.w0.heap[g]?
  bij : Bij F.n f

section
variable {F : Fam} {f g : Nat → Nat} {w w' : World}
theorem Fam.Row.ice (h : F.Row f w) (o : Nat) : w.frozen? ⟨F.blk, o, none⟩ = false := by
  obtain ⟨cs, hc⟩ := h.row
  simp [World.frozen?, hc]
theorem Fam.Row.lt (h : F.Row f w) : F.blk < w.heap.size := by
  obtain ⟨cs, hc⟩ := h.row
  exact lt_heap hc
theorem Fam.Row.drew (h : F.Row f w) : F.Row f w.drew := ⟨h.cell, h.row, h.os, h.tape, h.output, h.size, h.other, h.bij⟩
theorem Fam.Row.congr (h : F.Row f w) (hg : ∀ x, x < F.n → g x = f x) : F.Row g w := by
  obtain ⟨k, hk⟩ := h.bij
  refine ⟨fun j hj c v hv => h.cell j hj c v (by rw [← hg j hj]; exact hv), h.row, h.os, h.tape, h.output, h.size, h.other, k, fun x hx => ?_⟩
  obtain ⟨k1, k2, k3, k4⟩ := hk x hx
  exact ⟨by rw [hg x hx]; exact k1, k2, by rw [hg _ k2]; exact k3, by rw [hg x hx]; exact k4⟩
theorem Fam.Row.below (h : F.Row f w) (hb : Below w.heap.size w w') : F.Row f w' := by
  have hl := h.lt
  obtain ⟨cs, hc⟩ := h.row
  refine ⟨fun j hj c v hv => ?_, ⟨cs, (hb.block _ hl).trans hc⟩, hb.os.trans h.os, hb.tape.trans h.tape, hb.output.trans h.output, Nat.le_trans h.size hb.size, fun k hk hne => (hb.block k (Nat.lt_of_lt_of_le hk h.size)).trans (h.other k hk hne), h.bij⟩
  exact (hb.cell (p := ⟨F.blk, F.off + j * 4 + c, none⟩) hl).trans (h.cell j hj c v hv)
/-- The four cells of the share at a place. -/
theorem Fam.Row.four (h : F.Row f w) {j : Nat} (hj : j < F.n) : w.cell? ⟨F.blk, F.off + j * 4, none⟩ = some (.int .i64 ((f j : Nat) : Int)) ∧ w.cell? ⟨F.blk, F.off + j * 4 + 1, none⟩ = some (.int .i64 (F.q (f j))) ∧ w.cell? ⟨F.blk, F.off + j * 4 + 2, none⟩ = some (.bool (F.sg (f j))) ∧ w.cell? ⟨F.blk, F.off + j * 4 + 3, none⟩ = some (.slice (F.A (f j)) (F.m (f j)) (F.c (f j))) :=
  ⟨h.cell j hj 0 _ rfl, h.cell j hj 1 _ rfl, h.cell j hj 2 _ rfl, h.cell j hj 3 _ rfl⟩

theorem setCells_in (b : Nat) : ∀ (vs : List Value) (o : Nat) (w : World) (c : Nat) (v : Value), vs[c]? = some v → (∀ i, i < vs.length → (w.cell? ⟨b, o + i, none⟩).isSome = true) → (w.setCells b o vs).cell? ⟨b, o + c, none⟩ = some v
  | [], _, _, _, _, h, _ => by cases h
  | u :: vs, o, w, 0, v, h, hs => by
    injection h with h
    subst h
    rw [World.setCells, World.cell?_setCells_out b vs (o + 1) _ _ (fun _ _ => Or.inl (by simp))]
    exact World.cell?_setCell_same' _ _ _ (hs 0 (by simp))
  | u :: vs, o, w, c + 1, v, h, hs => by
    rw [World.setCells, show o + (c + 1) = o + 1 + c by omega]
    refine setCells_in b vs (o + 1) _ c v h fun i hi => ?_
    rw [World.cell?_setCell_other _ _ _ _ (by intro e; injection e; omega), show o + 1 + i = o + (i + 1) by omega]
    exact hs (i + 1) (by simp; omega)
theorem setCells_heap (b : Nat) : ∀ (vs : List Value) (o : Nat) (w : World) (g : Nat), g ≠ b → (w.setCells b o vs).heap[g]? = w.heap[g]?
  | [], _, _, _, _ => rfl
  | v :: vs, o, w, g, h => by rw [World.setCells, setCells_heap b vs _ _ g h]; exact Below.heap_setCell w ⟨b, o, none⟩ v g h
theorem setCells_row (b : Nat) {T : TypeId} : ∀ (vs : List Value) (o : Nat) (w : World), (∃ cs, w.heap[b]? = some (.cells cs T (0, 0))) → ∃ cs, (w.setCells b o vs).heap[b]? = some (.cells cs T (0, 0))
  | [], _, _, h => h
  | v :: vs, o, w, ⟨cs, h⟩ => setCells_row b vs (o + 1) _ ⟨_, heap_set h o v⟩
theorem setCells_rest (b : Nat) : ∀ (vs : List Value) (o : Nat) (w : World), (w.setCells b o vs).os = w.os ∧ (w.setCells b o vs).tape = w.tape ∧ (w.setCells b o vs).output = w.output ∧ (w.setCells b o vs).heap.size = w.heap.size
  | [], _, _ => ⟨rfl, rfl, rfl, rfl⟩
  | v :: vs, o, w => by
    obtain ⟨h1, h2, h3, h4⟩ := setCells_rest b vs (o + 1) (w.setCell ⟨b, o, none⟩ v)
    exact ⟨h1, h2, h3, h4.trans (by simp)⟩

theorem Bij.swap {n : Nat} (h : Bij n f) {i j : Nat} (hi : i < n) (hj : j < n) : Bij n (swf f i j) := by
  obtain ⟨g, hg⟩ := h
  refine ⟨fun x => if g x = j then i else if g x = i then j else g x, fun x hx => ?_⟩
  obtain ⟨k1, k2, k3, k4⟩ := hg x hx
  obtain ⟨i1, i2, i3, i4⟩ := hg i hi
  obtain ⟨j1, j2, j3, j4⟩ := hg j hj
  unfold swf
  refine ⟨?_, ?_, ?_, ?_⟩
  · split
    · exact i1
    · split
      · exact j1
      · exact k1
  · simp only
    split
    · exact hi
    · split
      · exact hj
      · exact k2
  · simp only
    by_cases h1 : g x = j
    · rw [if_pos h1]
      by_cases h2 : i = j
      · rw [if_pos h2, h2, ← h1]; exact k3
      · rw [if_neg h2, if_pos rfl, ← h1]; exact k3
    · rw [if_neg h1]
      by_cases h2 : g x = i
      · rw [if_pos h2, if_pos rfl, ← h2]; exact k3
      · rw [if_neg h2, if_neg h1, if_neg h2]; exact k3
  · simp only
    by_cases h1 : x = j
    · rw [if_pos h1, i4]
      by_cases h2 : i = j
      · rw [if_pos h2, h1]; exact h2
      · rw [if_neg h2, if_pos rfl, h1]
    · rw [if_neg h1]
      by_cases h2 : x = i
      · rw [if_pos h2, j4, if_pos rfl, h2]
      · rw [if_neg h2, k4, if_neg h1, if_neg h2]

theorem Fam.enc_len (F : Fam) (x : Nat) : (F.enc x).length = 4 := rfl
theorem Fam.Row.there (h : F.Row f w) {j i : Nat} (hj : j < F.n) (hi : i < 4) : (w.cell? ⟨F.blk, F.off + j * 4 + i, none⟩).isSome = true := by
  obtain ⟨v, hv⟩ : ∃ v, (F.enc (f j))[i]? = some v := ⟨_, List.getElem?_eq_getElem (by rw [F.enc_len]; exact hi)⟩
  rw [h.cell j hj i v hv]; rfl
/-- The row behind the exchange of two shares. -/
theorem Fam.Row.swap (h : F.Row f w) {i j : Nat} (hi : i < F.n) (hj : j < F.n) : F.Row (swf f i j) ((w.setCells F.blk (F.off + i * 4) (F.enc (f j))).setCells F.blk (F.off + j * 4) (F.enc (f i))) := by
  obtain ⟨e1, e2, e3, e4⟩ := setCells_rest F.blk (F.enc (f j)) (F.off + i * 4) w
  obtain ⟨l1, l2, l3, l4⟩ := setCells_rest F.blk (F.enc (f i)) (F.off + j * 4) (w.setCells F.blk (F.off + i * 4) (F.enc (f j)))
  refine ⟨fun x hx c v hv => ?_, setCells_row _ _ _ _ (setCells_row _ _ _ _ h.row), l1.trans (e1.trans h.os), l2.trans (e2.trans h.tape), l3.trans (e3.trans h.output), by rw [l4, e4]; exact h.size, fun k hk hne => (setCells_heap _ _ _ _ _ hne).trans ((setCells_heap _ _ _ _ _ hne).trans (h.other k hk hne)), h.bij.swap hi hj⟩
  have hc : c < 4 := by have := (List.getElem?_eq_some_iff.1 hv).1; rwa [F.enc_len] at this
  unfold swf at hv
  by_cases h1 : x = j
  · subst h1
    rw [if_pos rfl] at hv
    refine setCells_in _ _ _ _ c v hv fun k hk => ?_
    by_cases h2 : x = i
    · subst h2
      obtain ⟨u, hu⟩ : ∃ u, (F.enc (f x))[k]? = some u := ⟨_, List.getElem?_eq_getElem hk⟩
      rw [setCells_in _ _ _ _ k u hu (fun l hl => h.there hx (by rw [F.enc_len] at hl; exact hl))]
      rfl
    · rw [World.cell?_setCells_out _ _ _ _ _ (fun _ _ => by simp only [F.enc_len] at *; omega)]
      exact h.there hx (by rw [F.enc_len] at hk; exact hk)
  · rw [if_neg h1] at hv
    rw [World.cell?_setCells_out _ _ _ _ _ (fun _ _ => by simp only [F.enc_len]; omega)]
    by_cases h2 : x = i
    · subst h2
      rw [if_pos rfl] at hv
      exact setCells_in _ _ _ _ c v hv fun k hk => h.there hx (by rw [F.enc_len] at hk; exact hk)
    · rw [if_neg h2] at hv
      rw [World.cell?_setCells_out _ _ _ _ _ (fun _ _ => by simp only [F.enc_len]; omega)]
      exact h.cell x hx c v hv

/-- The rest of a share, in whatever world of the family. -/
theorem Fam.Row.big (h : F.Row f w) (G : F.Good) {j : Nat} (hj : j < F.n) : Big .u32 86 B32 w (F.sg j) (F.A j) (F.m j) (F.c j) ((F.r j : Nat) : Int) := by
  obtain ⟨l, hd, hr⟩ := G.big j hj
  refine ⟨l, ⟨hd.1, fun hn => ?_⟩, hr⟩
  obtain ⟨b, cs, hA, hb, hc⟩ := hd.2 hn
  have hlt := lt_heap hb
  refine ⟨b, cs, hA, ?_, hc⟩
  obtain ⟨cs', ho⟩ := G.own
  exact (h.other b hlt (heap_ne hb ho (by decide))).trans hb
end
end Go.Proofs.Ytegabimiegdcjaa
