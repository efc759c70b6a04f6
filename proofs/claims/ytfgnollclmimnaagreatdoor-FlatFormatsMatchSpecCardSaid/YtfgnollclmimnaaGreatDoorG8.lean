/- Plain: a column as the reference reads it; what the walk of readColumn wants. What the walk of the reference's readColumn wants. (Printed by genG8.py.) -/
import Derived.Test.YtfgnollclmimnaaGreatDoorG6
import Derived.Test.YtfgnollclmimnaaGreatDoorFD
-- merged: G7 G8

namespace Go.Proofs.YtfgnollclmimnaaGreatDoor
open Go.RowKit Limb Nmb Work
set_option linter.unusedVariables false
set_option linter.unusedSimpArgs false

/-- The last word is 'need'; how many words there are without it. -/
def nbF (W : List ByteArray) : Bool := decide (wd W (W.length - 1) = wNeed)
def nnF (W : List ByteArray) : Nat := if nbF W = true then W.length - 1 else W.length
theorem need_nOk : nOk wNeed = false := by decide
theorem need_yOk : yOk wNeed = false := by decide
theorem colOk_ref {mark kd : Int} {W : List ByteArray} (h1 : 1 ≤ W.length) :
    (colOk mark kd W.tail = true) ↔ (nnF W = 3 + pK kd + sK mark kd ∧ nOk (wd W 2) = true ∧ (pK kd = 0 ∨ nOk (wd W 3) = true) ∧ (sK mark kd = 0 ∨ (wd W (3 + pK kd) = wLeft ∨ wd W (3 + pK kd) = wRight) ∧ yOk (wd W (4 + pK kd)) = true)) := by
  have hl : W.tail.length = W.length - 1 := List.length_tail
  have hp : pK kd = 0 ∨ pK kd = 1 := by unfold pK; split <;> simp
  have hs : sK mark kd = 0 ∨ sK mark kd = 2 := by unfold sK; split <;> simp
  have hy : ∀ s, yOk s = true → nOk s = true := fun s h => by unfold yOk at h; rw [Bool.and_eq_true] at h; exact h.1
  unfold colOk needB
  simp only [wd_tail, hl, Bool.and_eq_true, Bool.or_eq_true, decide_eq_true_eq]
  have e0 : (2 + pK kd + 1 : Nat) = 3 + pK kd := by omega
  have e1 : (3 + pK kd + 1 : Nat) = 4 + pK kd := by omega
  rw [e0, e1]
  constructor
  · rintro ⟨⟨⟨c1, c2⟩, c3⟩, c4⟩
    refine ⟨?_, c2, c3, c4⟩
    unfold nnF nbF
    rcases c1 with c1 | ⟨c1, c5⟩
    · have hne : wd W (W.length - 1) ≠ wNeed := fun e => by
        rcases hs with hs0 | hs2
        · rcases hp with hp0 | hp1
          · have : W.length - 1 = 2 := by omega
            rw [this] at e
            have c2' : nOk (wd W 2) = true := c2
            rw [e, need_nOk] at c2'; cases c2'
          · have : W.length - 1 = 3 := by omega
            rw [this] at e
            have c3' : nOk (wd W 3) = true := c3.resolve_left (by omega)
            rw [e, need_nOk] at c3'; cases c3'
        · have : W.length - 1 = 4 + pK kd := by omega
          rw [this] at e
          have c4' := (c4.resolve_left (by omega)).2
          rw [e, need_yOk] at c4'; cases c4'
      rw [if_neg (by rw [decide_eq_false hne]; decide)]
      omega
    · have hne : wd W (W.length - 1) = wNeed := by
        have : W.length - 1 = 2 + pK kd + sK mark kd + 1 := by omega
        rw [this]; exact c5
      rw [if_pos (decide_eq_true hne)]
      omega
  · rintro ⟨c1, c2, c3, c4⟩
    refine ⟨⟨⟨?_, c2⟩, c3⟩, c4⟩
    unfold nnF nbF at c1
    by_cases hne : wd W (W.length - 1) = wNeed
    · rw [if_pos (decide_eq_true hne)] at c1
      right
      refine ⟨by omega, ?_⟩
      have : 2 + pK kd + sK mark kd + 1 = W.length - 1 := by omega
      rw [this]; exact hne
    · rw [if_neg (by rw [decide_eq_false hne]; decide)] at c1
      left
      omega
theorem need_ref {mark kd : Int} {W : List ByteArray} (h1 : 1 ≤ W.length) (h : nnF W = 3 + pK kd + sK mark kd) (hc : colOk mark kd W.tail = true) : needB W.tail (2 + pK kd + sK mark kd) = nbF W := by
  have hl : W.tail.length = W.length - 1 := List.length_tail
  unfold needB nbF
  unfold nnF nbF at h
  rw [wd_tail, hl]
  by_cases hne : wd W (W.length - 1) = wNeed
  · rw [if_pos (decide_eq_true hne)] at h
    have e : 2 + pK kd + sK mark kd + 1 = W.length - 1 := by omega
    rw [e, decide_eq_true hne, decide_eq_true (show W.length - 1 = W.length - 1 from rfl)]
    rfl
  · rw [if_neg (by rw [decide_eq_false hne]; decide)] at h
    rw [decide_eq_false (show ¬ W.length - 1 = 2 + pK kd + sK mark kd + 1 by omega), decide_eq_false hne]
    rfl
def RetRC (mark : Int) (W : List ByteArray) (S : Nat) (w : World) (e : Ending) (w' : World) : Prop :=
  ∃ x ok, e = .returned (.tuple #[colG x, .bool ok]) ∧ (ok = true ↔ kindW (wd W 0) ≠ 0 ∧ colOk mark (kindW (wd W 0)) W.tail = true) ∧ (ok = true → x = colW mark (kindW (wd W 0)) W.tail) ∧ x.name.size ≤ S ∧ Below w.heap.size w w'
theorem RetRC.no {mark : Int} {W : List ByteArray} {S : Nat} {w w' : World} (x : Col) (h : ¬ (kindW (wd W 0) ≠ 0 ∧ colOk mark (kindW (wd W 0)) W.tail = true)) (hz : x.name.size ≤ S) (hb : Below w.heap.size w w') : RetRC mark W S w (.returned (.tuple #[colG x, .bool false])) w' :=
  ⟨x, false, rfl, ⟨fun k => (by cases k), fun k => absurd k h⟩, (fun k => by cases k), hz, hb⟩
theorem sts_at {w : World} {g off : Nat} {L : List ByteArray} (h : Sts w (some ⟨g, off, none⟩) L) {j : Nat} (hj : j < L.length) : w.cell? ⟨g, off + j, none⟩ = some (.string (wd L j)) := by
  obtain ⟨b, o, e, -, hc⟩ := h.cells (by omega)
  injection e with e
  injection e with e1 e2
  subst e1; subst e2
  exact hc j hj
theorem sts_dropk {w : World} {g off : Nat} {L : List ByteArray} (h : Sts w (some ⟨g, off, none⟩) L) (k : Nat) : Sts w (some ⟨g, off + k, none⟩) (L.drop k) := fun hn => by
  rw [List.length_drop] at hn
  obtain ⟨b, o, cs, f, e, hh, hc⟩ := h (by omega)
  injection e with e
  injection e with e1 e2
  subst e1; subst e2
  exact ⟨_, _, cs, f, rfl, hh, fun j hj => by
    rw [List.length_drop] at hj
    have := hc (k + j) (by omega)
    rw [show off + k + j = off + (k + j) by omega, this, wd_drop]⟩
theorem wd_take {L : List ByteArray} {k j : Nat} (h : j < k) : wd (L.take k) j = wd L j := by unfold wd; simp [List.getD_eq_getElem?_getD, List.getElem?_take, h]
theorem sts_takek {w : World} {A : Option Addr} {L : List ByteArray} (h : Sts w A L) (k : Nat) : Sts w A (L.take k) := fun hn => by
  rw [List.length_take] at hn
  obtain ⟨b, o, cs, f, e, hh, hc⟩ := h (by omega)
  exact ⟨b, o, cs, f, e, hh, fun j hj => by
    rw [List.length_take] at hj
    rw [hc j (by omega), wd_take (by omega)]⟩
theorem rb_set8 {w : World} {g : Nat} {a b c d e f i j a' b' c' d' e' f' i' j' : Value} {T : TypeId} (h : w.heap[g]? = some (.cells #[a', b', c', d', e', f', i', j'] T (0, 0))) :
    ((((((((w.setCell ⟨g, 0, none⟩ a).setCell ⟨g, 1, none⟩ b).setCell ⟨g, 2, none⟩ c).setCell ⟨g, 3, none⟩ d).setCell ⟨g, 4, none⟩ e).setCell ⟨g, 5, none⟩ f).setCell ⟨g, 6, none⟩ i).setCell ⟨g, 7, none⟩ j).heap[g]? = some (.cells #[a, b, c, d, e, f, i, j] T (0, 0)) := by
  have := heap_set (heap_set (heap_set (heap_set (heap_set (heap_set (heap_set (heap_set h 0 a) 1 b) 2 c) 3 d) 4 e) 5 f) 6 i) 7 j
  simpa using this
theorem rb_below8 {B : Nat} {w w' : World} {g : Nat} {a b c d e f i j : Value} (h : Below B w w') (hg : B ≤ g) : Below B w ((((((((w'.setCell ⟨g, 0, none⟩ a).setCell ⟨g, 1, none⟩ b).setCell ⟨g, 2, none⟩ c).setCell ⟨g, 3, none⟩ d).setCell ⟨g, 4, none⟩ e).setCell ⟨g, 5, none⟩ f).setCell ⟨g, 6, none⟩ i).setCell ⟨g, 7, none⟩ j) :=
  (((((((h.setCell (p := ⟨g, 0, none⟩) hg _).setCell (p := ⟨g, 1, none⟩) hg _).setCell (p := ⟨g, 2, none⟩) hg _).setCell (p := ⟨g, 3, none⟩) hg _).setCell (p := ⟨g, 4, none⟩) hg _).setCell (p := ⟨g, 5, none⟩) hg _).setCell (p := ⟨g, 6, none⟩) hg _).setCell (p := ⟨g, 7, none⟩) hg _
end Go.Proofs.YtfgnollclmimnaaGreatDoor

namespace Go.Proofs.YtfgnollclmimnaaGreatDoor
open Go.RowKit Limb Nmb Work
set_option linter.unusedVariables false
set_option linter.unusedSimpArgs false

theorem rc_iff (m kd : Int) (W : List ByteArray) (h1 : 1 ≤ W.length) (h0 : kd ≠ 0) (hk : kindW (wd W 0) = kd) :
    (kindW (wd W 0) ≠ 0 ∧ colOk m (kindW (wd W 0)) W.tail = true) ↔ (nnF W = 3 + pK kd + sK m kd ∧ nOk (wd W 2) = true ∧ (pK kd = 0 ∨ nOk (wd W 3) = true) ∧ (sK m kd = 0 ∨ (wd W (3 + pK kd) = wLeft ∨ wd W (3 + pK kd) = wRight) ∧ nOk (wd W (4 + pK kd)) = true ∧ nVal (wd W (4 + pK kd)) < 256)) := by
  rw [hk, colOk_ref h1]
  have e : (yOk (wd W (4 + pK kd)) = true) ↔ nOk (wd W (4 + pK kd)) = true ∧ nVal (wd W (4 + pK kd)) < 256 := by
    unfold yOk
    rw [Bool.and_eq_true, decide_eq_true_iff]
    constructor
    · rintro ⟨a, b⟩; exact ⟨a, by omega⟩
    · rintro ⟨a, b⟩; exact ⟨a, by omega⟩
  rw [e]
  exact ⟨fun k => k.2, fun k => ⟨h0, k⟩⟩
theorem rc_col (m kd : Int) (W : List ByteArray) (h1 : 1 ≤ W.length) (hk : kindW (wd W 0) = kd) (h : nnF W = 3 + pK kd + sK m kd) (hc : colOk m (kindW (wd W 0)) W.tail = true) :
    colW m (kindW (wd W 0)) W.tail = ⟨wd W 1, kd, nVal (wd W 2), if kd = 2 then nVal (wd W 3) else 0, if kd = 3 then nVal (wd W 3) else 0, decide (sK m kd ≠ 0) && decide (wd W (3 + pK kd) = wRight), if sK m kd ≠ 0 then nVal (wd W (4 + pK kd)) % 256 else 0, nbF W⟩ := by
  rw [hk] at hc ⊢
  unfold colW
  rw [need_ref h1 h hc]
  have e0 : (2 + pK kd + 1 : Nat) = 3 + pK kd := by omega
  have e1 : (3 + pK kd + 1 : Nat) = 4 + pK kd := by omega
  simp only [wd_tail, e0, e1]
theorem RetRC.yes {mark : Int} {W : List ByteArray} {S : Nat} {w w' : World} (x : Col) (h : kindW (wd W 0) ≠ 0 ∧ colOk mark (kindW (wd W 0)) W.tail = true) (hx : colW mark (kindW (wd W 0)) W.tail = x) (hz : x.name.size ≤ S) (hb : Below w.heap.size w w') : RetRC mark W S w (.returned (.tuple #[colG x, .bool true])) w' :=
  ⟨x, true, rfl, ⟨fun _ => h, fun _ => rfl⟩, (fun _ => hx.symm), hz, hb⟩
theorem idx_kind3 (h : ByteArray) : Lib.idxOfS [wText, wNumber, wDay] h = kindW h - 1 := by
  unfold Lib.idxOfS
  simp only [Lib.idxFromS]
  unfold kindW
  by_cases h1 : h = wText
  · subst h1; decide
  by_cases h2 : h = wNumber
  · subst h2; decide
  by_cases h3 : h = wDay
  · subst h3; decide
  simp [h1, h2, h3, Ne.symm h1, Ne.symm h2, Ne.symm h3]
theorem kwidx3_c (kd : Int) (h : ByteArray) (hk : kindW h = kd) (g : Nat) (w : World) (hh : w.heap[g]? = some (.cells #[.string ⟨#[116, 101, 120, 116]⟩, .string ⟨#[110, 117, 109, 98, 101, 114]⟩, .string ⟨#[100, 97, 121]⟩] 9 (0, 0))) :
    Calls Tryz.prog 34 #[.slice (some ⟨g, 0, none⟩) 3 3, .string h] w fun e w' => e = .returned (.int .i64 (kd - 1)) ∧ w' = w := by
  rw [← hk, ← idx_kind3]
  exact Tryz.slices_Index_string g 0 3 3 [wText, wNumber, wDay] h w (by decide) (by decide) (fun j hj => by
    rw [cell_of_row _ _ _ _ _ _ hh]
    match j, hj with
    | 0, _ => rfl
    | 1, _ => rfl
    | 2, _ => rfl)
end Go.Proofs.YtfgnollclmimnaaGreatDoor
