
/- The walk of package interchangeref1: Shares. -/
import Derived.Test.YtegabimiegdcjaaS11
import Derived.Test.YtegabimiegdcjaaRX
import Derived.Test.YtegabimiegdcjaaRB
import Derived.Test.YtegabimiegdcjaaR11
import Derived.Test.YtegabimiegdcjaaR8
import Derived.Deep.OwnRows
namespace Go.Proofs.Ytegabimiegdcjaa
open Go.RowKit Limb Work Stab
set_option linter.unusedVariables false
set_option linter.unusedSimpArgs false

theorem rshares_bad (u p : Int) (A : Option Addr) (n c : Nat) (w : World) (h : decB u p = false) :
    Calls Try.prog 26 #[.agg #[.int .i64 u, .int .i64 p], .slice A n c] w fun e w' => e = .returned (.tuple #[.slice none 0 0, .int .i64 1]) ∧ Below w.heap.size w w' := by
  have H := Lib.hid h
  clear h
  go_enter Try.func26, Try.ntmps26
  go_wp2_with fail
  refine (rchk_bad _ _ _ H.out).mono ?_
  rintro e w1 ⟨rfl, hb1⟩
  have hbel := below_then hb1 (B := w.heap.size) (w := w) (by go_grown) (by simp)
  go_wp2
  go_ret2
  exact ⟨rfl, hbel⟩

set_option maxHeartbeats 2000000 in
set_option maxRecDepth 100000 in
theorem rshares_w (u p : Int) (ws : List Int) (A : Option Addr) (n c : Nat) (w : World) (h : decB u p = true) (hI : Ints w A n ws) (hn : n ≤ 9223372036854775807) (hf : wtF ws ≠ 0) :
    Calls Try.prog 26 #[.agg #[.int .i64 u, .int .i64 p], .slice A n c] w fun e w' => e = .returned (.tuple #[.slice none 0 0, .int .i64 (wtF ws)]) ∧ Below w.heap.size w w' := by
  have hl := hI.1
  have H := Lib.hid h
  by_cases h0 : n = 0
  · have e : wtF ws = 9 := by unfold wtF; rw [if_pos (by omega)]
    rw [e]
    have hz : ((n : Nat) : Int) = 0 := by omega
    clear e hI h hf
    go_enter Try.func26, Try.ntmps26
    go_wp2_with fail
    refine (rchk_ok _ _ _ H.out).mono ?_
    rintro e w1 ⟨rfl, hb1⟩
    have hbel := below_then hb1 (B := w.heap.size) (w := w) (by go_grown) (by simp)
    go_wp2
    go_ret2
    exact ⟨rfl, hbel⟩
  · by_cases h1 : 1000 < n
    · have e : wtF ws = 2 := by unfold wtF; rw [if_neg (by omega), if_pos (by omega)]
      rw [e]
      have hz : (((n : Nat) : Int) == 0) = false := by rw [beq_eq_false_iff_ne]; omega
      have hz1 : (1000 : Int) < ((n : Nat) : Int) := by omega
      clear e hI h hf
      go_enter Try.func26, Try.ntmps26
      go_wp2_with fail
      refine (rchk_ok _ _ _ H.out).mono ?_
      rintro e w1 ⟨rfl, hb1⟩
      have hbel := below_then hb1 (B := w.heap.size) (w := w) (by go_grown) (by simp)
      go_wp2
      go_ret2
      exact ⟨rfl, hbel⟩
    · have hz : (((n : Nat) : Int) == 0) = false := by rw [beq_eq_false_iff_ne]; omega
      have hz1 : ¬ (1000 : Int) < ((n : Nat) : Int) := by omega
      have HL := Lib.hid hl
      have HI := Lib.hid hI
      have HW1 : Hid (¬ okW ws n → wtF ws = 1) := Lib.hid (fun h => by unfold wtF; rw [if_neg (by omega), if_neg (by omega), if_pos (by rw [hl]; exact h)])
      have HW2 : Hid (okW ws n → wtF ws = if sumW ws n = 0 then 13 else 0) := Lib.hid (fun h => by unfold wtF; rw [if_neg (by omega), if_neg (by omega), if_neg (by rw [hl]; exact fun h2 => h2 h), hl])
      obtain ⟨F, hF⟩ : ∃ F, wtF ws = F := ⟨_, rfl⟩
      rw [hF] at hf ⊢
      have HF := Lib.hid hF
      have HFN := Lib.hid hf
      clear hl hI hF h hf
      go_enter Try.func26, Try.ntmps26
      go_wp2_with fail
      refine (rchk_ok _ _ _ H.out).mono ?_
      rintro e w1 ⟨rfl, hb1⟩
      have hbel := below_then hb1 (B := w.heap.size) (w := w) (by go_grown) (by simp)
      have HB := Lib.hid hbel
      have HI1 := Lib.hid (HI.out.below hbel)
      clear hbel hb1
      go_wp2
      go_loop [6, 34] (fun x y => ∃ j : Nat, j ≤ n ∧ x = .int .i64 (sumW ws j) ∧ y = .int .i64 j ∧ Hid (okW ws j)) (fun _ y => n - (intOf y).toNat)
      case atStart => exact ⟨0, Nat.zero_le _, by rw [sumW_zero], rfl, fun p hp => by omega⟩
      case round =>
        obtain ⟨j, hj, rfl, rfl, HK⟩ := hrel
        have hs := sumW_rng j (by rw [HL.out]; exact hj) HK.out
        rcases Nat.lt_or_ge j n with hlt | hge
        · obtain ⟨b, off, rfl, hbl, hc⟩ := HI1.out.2.2 (by omega)
          have hx := hc j hlt
          clear hc
          by_cases hok : 0 ≤ hol ws j ∧ hol ws j ≤ 1000000000
          · have HS := Lib.hid (sumW_step (ws := ws) (j := j) (by rw [HL.out]; exact hlt))
            have HK2 : Hid (okW ws (j + 1)) := fun p hp => by
              rcases Nat.lt_or_ge p j with h | h
              · exact HK.out p h
              · have : p = j := by omega
                subst this; exact hok
            have HE := Lib.hid (decide_eq_true hok)
            go_wp2_with (go_at_call 33; refine (within_c _ _ _ _).mono ?_; rw [HE.out]; rintro e w1 ⟨rfl, rfl⟩)
            go_round
            case rel => exact ⟨j + 1, by omega, by rw [HS.out], by go_num, HK2⟩
            case measure => simp [intOf]; omega
          · have HE2 : Hid (F = 1) := Lib.hid (by rw [← HF.out]; exact HW1.out (fun hk => hok (hk j hlt)))
            have HE := Lib.hid (decide_eq_false hok)
            go_wp2_with (go_at_call 33; refine (within_c _ _ _ _).mono ?_; rw [HE.out]; rintro e w1 ⟨rfl, rfl⟩)
            go_ret2
            exact ⟨by rw [HE2.out]; rfl, HB.out⟩
        · obtain rfl : j = n := by omega
          have HE : Hid (F = if sumW ws j = 0 then 13 else 0) := Lib.hid (by rw [← HF.out]; exact HW2.out HK.out)
          have hz0 : sumW ws j = 0 := by
            rcases Decidable.em (sumW ws j = 0) with h | h
            · exact h
            · exact absurd (HE.out.trans (if_neg h)) HFN.out
          have HE2 := Lib.hid (HE.out.trans (if_pos hz0))
          rw [hz0]
          clear HE hz0
          go_wp2
          go_ret2
          exact ⟨by rw [HE2.out]; rfl, HB.out⟩

/-- What the reference's Shares holds in memory: the shares' row, the rests' row, the box. -/
structure RSt (w : World) (u p : Int) (Bo Br n : Nat) (T P R : Nat → Int) (wx : World) : Prop where
  row : ∃ co, wx.heap[Bo]? = some (.cells co 23 (0, 0))
  row2 : ∃ cr, wx.heap[Br]? = some (.cells cr 3 (0, 0))
  box : wx.heap[w.heap.size]? = some (.cells #[.int .i64 u, .int .i64 p] 23 (0, 0))
  out : ∀ x, x < n → wx.cell? ⟨Bo, x * 2, none⟩ = some (.int .i64 (T x)) ∧ wx.cell? ⟨Bo, x * 2 + 1, none⟩ = some (.int .i64 (P x))
  rest : ∀ x, x < n → wx.cell? ⟨Br, x, none⟩ = some (.int .i64 (R x))
  bel : Below w.heap.size w wx
  lo : w.heap.size < Bo
  lr : w.heap.size < Br
  ne : Bo ≠ Br
section
variable {w wx : World} {u p : Int} {Bo Br n : Nat} {T P R : Nat → Int}
theorem RSt.below (h : RSt w u p Bo Br n T P R wx) {wy : World} (hb : Below wx.heap.size wx wy) : RSt w u p Bo Br n T P R wy := by
  obtain ⟨co, hco⟩ := h.row
  obtain ⟨cr, hcr⟩ := h.row2
  have l1 := lt_heap hco
  have l2 := lt_heap hcr
  refine ⟨⟨co, heap_below hco hb⟩, ⟨cr, heap_below hcr hb⟩, heap_below h.box hb, fun x hx => ⟨?_, ?_⟩, fun x hx => ?_, below_then hb h.bel h.bel.size, h.lo, h.lr, h.ne⟩
  · exact (hb.cell (p := ⟨Bo, x * 2, none⟩) l1).trans (h.out x hx).1
  · exact (hb.cell (p := ⟨Bo, x * 2 + 1, none⟩) l1).trans (h.out x hx).2
  · exact (hb.cell (p := ⟨Br, x, none⟩) l2).trans (h.rest x hx)
theorem RSt.congr (h : RSt w u p Bo Br n T P R wx) {T' P' R' : Nat → Int} (ht : ∀ x, x < n → T' x = T x) (hp : ∀ x, x < n → P' x = P x) (hr : ∀ x, x < n → R' x = R x) : RSt w u p Bo Br n T' P' R' wx :=
  ⟨h.row, h.row2, h.box, fun x hx => by rw [ht x hx, hp x hx]; exact h.out x hx, fun x hx => by rw [hr x hx]; exact h.rest x hx, h.bel, h.lo, h.lr, h.ne⟩
theorem RSt.setR (h : RSt w u p Bo Br n T P R wx) {j : Nat} (hj : j < n) (v : Int) : RSt w u p Bo Br n T P (upd R j v) (wx.setCell ⟨Br, j, none⟩ (.int .i64 v)) := by
  obtain ⟨co, hco⟩ := h.row
  obtain ⟨cr, hcr⟩ := h.row2
  have l1 := h.lo; have l2 := h.lr; have l3 := h.ne
  refine ⟨⟨co, heap_far hco (p := ⟨Br, j, none⟩) l3 _⟩, ⟨_, heap_set hcr j _⟩, heap_far h.box (p := ⟨Br, j, none⟩) (by dsimp only; omega) _, fun x hx => ⟨?_, ?_⟩, fun x hx => ?_, h.bel.setCell (p := ⟨Br, j, none⟩) (by dsimp only; omega) _, h.lo, h.lr, h.ne⟩
  · rw [World.cell?_setCell_other _ _ _ _ (by intro e; injection e; omega)]; exact (h.out x hx).1
  · rw [World.cell?_setCell_other _ _ _ _ (by intro e; injection e; omega)]; exact (h.out x hx).2
  · by_cases hxj : x = j
    · subst hxj; rw [upd_same]; exact World.cell?_setCell_same _ _ _ (h.rest x hx)
    · rw [upd_other _ _ hxj, World.cell?_setCell_other _ _ _ _ (by intro e; injection e; omega)]; exact h.rest x hx
theorem RSt.setT (h : RSt w u p Bo Br n T P R wx) {j : Nat} (hj : j < n) (v : Int) : RSt w u p Bo Br n (upd T j v) P R (wx.setCell ⟨Bo, j * 2, none⟩ (.int .i64 v)) := by
  obtain ⟨co, hco⟩ := h.row
  obtain ⟨cr, hcr⟩ := h.row2
  have l1 := h.lo; have l2 := h.lr; have l3 := h.ne
  refine ⟨⟨_, heap_set hco (j * 2) _⟩, ⟨cr, heap_far hcr (p := ⟨Bo, j * 2, none⟩) (Ne.symm l3) _⟩, heap_far h.box (p := ⟨Bo, j * 2, none⟩) (by dsimp only; omega) _, fun x hx => ⟨?_, ?_⟩, fun x hx => ?_, h.bel.setCell (p := ⟨Bo, j * 2, none⟩) (by dsimp only; omega) _, h.lo, h.lr, h.ne⟩
  · by_cases hxj : x = j
    · subst hxj; rw [upd_same]; exact World.cell?_setCell_same _ _ _ (h.out x hx).1
    · rw [upd_other _ _ hxj, World.cell?_setCell_other _ _ _ _ (by intro e; injection e; omega)]; exact (h.out x hx).1
  · rw [World.cell?_setCell_other _ _ _ _ (by intro e; injection e; omega)]; exact (h.out x hx).2
  · rw [World.cell?_setCell_other _ _ _ _ (by intro e; injection e; omega)]; exact h.rest x hx
theorem RSt.setP (h : RSt w u p Bo Br n T P R wx) {j : Nat} (hj : j < n) (v : Int) : RSt w u p Bo Br n T (upd P j v) R (wx.setCell ⟨Bo, j * 2 + 1, none⟩ (.int .i64 v)) := by
  obtain ⟨co, hco⟩ := h.row
  obtain ⟨cr, hcr⟩ := h.row2
  have l1 := h.lo; have l2 := h.lr; have l3 := h.ne
  refine ⟨⟨_, heap_set hco (j * 2 + 1) _⟩, ⟨cr, heap_far hcr (p := ⟨Bo, j * 2 + 1, none⟩) (Ne.symm l3) _⟩, heap_far h.box (p := ⟨Bo, j * 2 + 1, none⟩) (by dsimp only; omega) _, fun x hx => ⟨?_, ?_⟩, fun x hx => ?_, h.bel.setCell (p := ⟨Bo, j * 2 + 1, none⟩) (by dsimp only; omega) _, h.lo, h.lr, h.ne⟩
  · rw [World.cell?_setCell_other _ _ _ _ (by intro e; injection e; omega)]; exact (h.out x hx).1
  · by_cases hxj : x = j
    · subst hxj; rw [upd_same]; exact World.cell?_setCell_same _ _ _ (h.out x hx).2
    · rw [upd_other _ _ hxj, World.cell?_setCell_other _ _ _ _ (by intro e; injection e; omega)]; exact (h.out x hx).2
  · rw [World.cell?_setCell_other _ _ _ _ (by intro e; injection e; omega)]; exact h.rest x hx
/-- The cells of a share, and their marks. -/
theorem RSt.at (h : RSt w u p Bo Br n T P R wx) {j : Nat} (hj : j < n) : wx.cell? ⟨Bo, j * 2, none⟩ = some (.int .i64 (T j)) ∧ wx.cell? ⟨Bo, j * 2 + 1, none⟩ = some (.int .i64 (P j)) ∧ wx.frozen? ⟨Bo, j * 2, none⟩ = false ∧ wx.frozen? ⟨Bo, j * 2 + 1, none⟩ = false := by
  obtain ⟨co, hco⟩ := h.row
  exact ⟨(h.out j hj).1, (h.out j hj).2, by simp [World.frozen?, hco], by simp [World.frozen?, hco]⟩
theorem RSt.rat (h : RSt w u p Bo Br n T P R wx) {j : Nat} (hj : j < n) : wx.cell? ⟨Br, j, none⟩ = some (.int .i64 (R j)) ∧ wx.frozen? ⟨Br, j, none⟩ = false := by
  obtain ⟨cr, hcr⟩ := h.row2
  exact ⟨h.rest j hj, by simp [World.frozen?, hcr]⟩
end

/-- b is the first greatest of the first i. -/
def FirstB (R : Nat → Int) (i b : Nat) : Prop := (i = 0 → b = 0) ∧ ∀ j, j < i → R j ≤ R b ∧ (j < b → R j < R b)
theorem FirstB.step {R : Nat → Int} {i b : Nat} (h : FirstB R i b) (hb : b < i ∨ i = 0) : (R b < R i → FirstB R (i + 1) i) ∧ (¬ R b < R i → FirstB R (i + 1) b) := by
  obtain ⟨h0, h1⟩ := h
  refine ⟨fun hlt => ⟨fun h => by omega, fun j hj => ?_⟩, fun hge => ⟨fun h => by omega, fun j hj => ?_⟩⟩
  · rcases Nat.lt_or_ge j i with h | h
    · have := (h1 j h).1; exact ⟨by omega, fun _ => by omega⟩
    · have : j = i := by omega
      subst this; exact ⟨Int.le_refl _, fun h => by omega⟩
  · rcases Nat.lt_or_ge j i with h | h
    · exact h1 j h
    · have : j = i := by omega
      subst this
      exact ⟨by omega, fun h => by omega⟩
/-- The first greatest rest is the next of the order. -/
theorem first_is {n k b : Nat} {r : Nat → Nat} {f g : Nat → Nat} (hg : ∀ x, x < n → f x < n ∧ g x < n ∧ f (g x) = x ∧ g (f x) = x) (hS : Srt r f 0 n) (hk : k < n) (hb : b < n)
    (hF : FirstB (fun j => if g j < k then -1 else ((r j : Nat) : Int)) n b) : b = f k := by
  have h1 := hF.2 (f k) (hg k hk).1
  have hgk := (hg k hk).2.2.2
  simp only [hgk, if_neg (Nat.lt_irrefl k)] at h1
  obtain ⟨h1, h2⟩ := h1
  have hgb := hg b hb
  rcases Nat.lt_trichotomy (g b) k with h | h | h
  · rw [if_pos h] at h1; omega
  · rw [← h]; exact hgb.2.2.1.symm
  · exfalso
    rw [if_neg (by omega)] at h1 h2
    have hp := hS k (g b) (Nat.zero_le _) h hgb.2.1
    rw [hgb.2.2.1] at hp
    rcases hp with hp | ⟨hp, hp2⟩
    · omega
    · have := h2 hp2
      omega
end Go.Proofs.Ytegabimiegdcjaa
