
/- The walks of package amount: unitFault, steps, CheckUnits. -/
import Derived.Test.YtegobkaldedhhaaGreatDoorU3
import Derived.Deep.QuietTactic
import Derived.BigQuiet
import Derived.IntWalk
namespace Go.Proofs.YtegobkaldedhhaaGreatDoor
open Go.RowKit Limb
set_option linter.unusedVariables false
set_option linter.unusedSimpArgs false

/-- The test of two names that are not in order. -/
theorem leqB {a b : ByteArray} : (Op.bytesLess a.toList b.toList || a.toList == b.toList) = !decide (Lib.compareBytes b.data.toList a.data.toList < 0) := by
  rw [Lib.toList_data, Lib.toList_data, less_cb]
  rcases Int.lt_trichotomy (Lib.compareBytes a.data.toList b.data.toList) 0 with h | h | h
  · have h2 : ¬ Lib.compareBytes b.data.toList a.data.toList < 0 := by rw [cb_neg]; omega
    rw [decide_eq_true h, decide_eq_false h2]; rfl
  · have h2 : ¬ Lib.compareBytes b.data.toList a.data.toList < 0 := by rw [cb_neg]; omega
    rw [decide_eq_false (by omega), decide_eq_false h2, cb_eq h]; simp
  · have h2 : Lib.compareBytes b.data.toList a.data.toList < 0 := by rw [cb_neg]; omega
    have h3 : (a.data.toList == b.data.toList) = false := by
      rw [Bool.eq_false_iff]
      intro e
      rw [beq_iff_eq.1 e, cb_self] at h; omega
    rw [decide_eq_false (by omega), decide_eq_true h2, h3]; rfl

def RetI (n : Int) (w : World) (e : Ending) (w' : World) : Prop := e = .returned (.int .i64 n) ∧ Below w.heap.size w w'
theorem retI_eq {n m : Int} {w : World} {e : Ending} {w' : World} (h : RetI n w e w') (hm : n = m) : RetI m w e w' := hm ▸ h

theorem uBox (w : World) (u : Unt) (T : TypeId) : ∀ w1, w.alloc (.cells #[.string u.name, .string u.of, .int .i64 u.num, .int .i64 u.den] T) = w1 →
    w1.cell? ⟨w.heap.size, 0, none⟩ = some (.string u.name) ∧ w1.cell? ⟨w.heap.size, 1, none⟩ = some (.string u.of) ∧ w1.cell? ⟨w.heap.size, 2, none⟩ = some (.int .i64 u.num) ∧ w1.cell? ⟨w.heap.size, 3, none⟩ = some (.int .i64 u.den) ∧ Below w.heap.size w w1 ∧ w.heap.size < w1.heap.size := by
  intro w1 h
  subst h
  have hB := heap_new w (.cells #[.string u.name, .string u.of, .int .i64 u.num, .int .i64 u.den] T) rfl
  exact ⟨cell_of_row _ _ 0 _ _ _ hB, cell_of_row _ _ 1 _ _ _ hB, cell_of_row _ _ 2 _ _ _ hB, cell_of_row _ _ 3 _ _ _ hB, by go_grown, by simp⟩
/-- Behind a call the box reads as it did. -/
theorem uBox_below {W w1 : World} {g : Nat} {u : Unt} (h : W.cell? ⟨g, 0, none⟩ = some (.string u.name) ∧ W.cell? ⟨g, 1, none⟩ = some (.string u.of) ∧ W.cell? ⟨g, 2, none⟩ = some (.int .i64 u.num) ∧ W.cell? ⟨g, 3, none⟩ = some (.int .i64 u.den)) (hg : g < W.heap.size) (hb : Below W.heap.size W w1) :
    w1.cell? ⟨g, 0, none⟩ = some (.string u.name) ∧ w1.cell? ⟨g, 1, none⟩ = some (.string u.of) ∧ w1.cell? ⟨g, 2, none⟩ = some (.int .i64 u.num) ∧ w1.cell? ⟨g, 3, none⟩ = some (.int .i64 u.den) ∧ g < w1.heap.size :=
  ⟨(hb.cell (p := ⟨g, 0, none⟩) hg).trans h.1, (hb.cell (p := ⟨g, 1, none⟩) hg).trans h.2.1, (hb.cell (p := ⟨g, 2, none⟩) hg).trans h.2.2.1, (hb.cell (p := ⟨g, 3, none⟩) hg).trans h.2.2.2, Nat.lt_of_lt_of_le hg hb.size⟩

section
variable {us : List Unt} {i : Nat}
theorem uf_name (h : nameB (nmU us i) = false) : uFault us i = 5 := by unfold uFault; rw [if_pos h]
theorem uf_order (h : nameB (nmU us i) = true) (h0 : 0 < i) (h2 : ¬ Lib.compareBytes (nmU us (i - 1)) (nmU us i) < 0) : uFault us i = 8 := by unfold uFault; rw [if_neg (by simp [h]), if_pos ⟨h0, h2⟩]
theorem uf_range (h : nameB (nmU us i) = true) (h2 : ¬ (0 < i ∧ ¬ Lib.compareBytes (nmU us (i - 1)) (nmU us i) < 0)) (h3 : ¬ (1 ≤ (uA us i).num ∧ (uA us i).num ≤ 1000000) ∨ ¬ (1 ≤ (uA us i).den ∧ (uA us i).den ≤ 1000000)) : uFault us i = 1 := by
  unfold uFault; rw [if_neg (by simp [h]), if_neg h2, if_pos h3]
theorem uf_form (h : nameB (nmU us i) = true) (h2 : ¬ (0 < i ∧ ¬ Lib.compareBytes (nmU us (i - 1)) (nmU us i) < 0)) (h3 : ¬ (¬ (1 ≤ (uA us i).num ∧ (uA us i).num ≤ 1000000) ∨ ¬ (1 ≤ (uA us i).den ∧ (uA us i).den ≤ 1000000))) (h4 : ofU us i = [] ∧ ((uA us i).num ≠ 1 ∨ (uA us i).den ≠ 1)) : uFault us i = 3 := by
  unfold uFault; rw [if_neg (by simp [h]), if_neg h2, if_neg h3, if_pos h4]
theorem uf_ok (h : nameB (nmU us i) = true) (h2 : ¬ (0 < i ∧ ¬ Lib.compareBytes (nmU us (i - 1)) (nmU us i) < 0)) (h3 : ¬ (¬ (1 ≤ (uA us i).num ∧ (uA us i).num ≤ 1000000) ∨ ¬ (1 ≤ (uA us i).den ∧ (uA us i).den ≤ 1000000))) (h4 : ¬ (ofU us i = [] ∧ ((uA us i).num ≠ 1 ∨ (uA us i).den ≠ 1))) : uFault us i = 0 := by
  unfold uFault; rw [if_neg (by simp [h]), if_neg h2, if_neg h3, if_neg h4]
end

/-- Behind the tests of name and order: what is left of unitFault. -/
theorem of_empty {us : List Unt} {i : Nat} : ((uA us i).of.toList.isEmpty = true ↔ ofU us i = []) := by
  unfold ofU; rw [Lib.toList_data, List.isEmpty_iff]

/-- What is left of unitFault behind the tests of name and order. -/
theorem uf_rest {us : List Unt} {i : Nat} (h : nameB (nmU us i) = true) (h2 : ¬ (0 < i ∧ ¬ Lib.compareBytes (nmU us (i - 1)) (nmU us i) < 0)) :
    (Hid (uFault us i = 1) ∧ (uA us i).num < 1) ∨ (Hid (uFault us i = 1) ∧ 1000000 < (uA us i).num) ∨
    (Hid (uFault us i = 1) ∧ 1 ≤ (uA us i).num ∧ (uA us i).num ≤ 1000000 ∧ (uA us i).den < 1) ∨ (Hid (uFault us i = 1) ∧ 1 ≤ (uA us i).num ∧ (uA us i).num ≤ 1000000 ∧ 1000000 < (uA us i).den) ∨
    (Hid (uFault us i = 3) ∧ 1 ≤ (uA us i).num ∧ (uA us i).num ≤ 1000000 ∧ 1 ≤ (uA us i).den ∧ (uA us i).den ≤ 1000000 ∧ (uA us i).of.toList.isEmpty = true ∧ 2 ≤ (uA us i).num) ∨
    (Hid (uFault us i = 3) ∧ 1 ≤ (uA us i).num ∧ (uA us i).num ≤ 1000000 ∧ 1 ≤ (uA us i).den ∧ (uA us i).den ≤ 1000000 ∧ (uA us i).of.toList.isEmpty = true ∧ (uA us i).num ≤ 1 ∧ 2 ≤ (uA us i).den) ∨
    (Hid (uFault us i = 0) ∧ 1 ≤ (uA us i).num ∧ (uA us i).num ≤ 1000000 ∧ 1 ≤ (uA us i).den ∧ (uA us i).den ≤ 1000000 ∧ (uA us i).of.toList.isEmpty = false) ∨
    (Hid (uFault us i = 0) ∧ 1 ≤ (uA us i).num ∧ (uA us i).num ≤ 1000000 ∧ 1 ≤ (uA us i).den ∧ (uA us i).den ≤ 1000000 ∧ (uA us i).of.toList.isEmpty = true ∧ (uA us i).num ≤ 1 ∧ (uA us i).den ≤ 1) := by
  by_cases a1 : (uA us i).num < 1
  · exact .inl ⟨Lib.hid (uf_range h h2 (by omega)), a1⟩
  by_cases a2 : 1000000 < (uA us i).num
  · exact .inr (.inl ⟨Lib.hid (uf_range h h2 (by omega)), a2⟩)
  by_cases a3 : (uA us i).den < 1
  · exact .inr (.inr (.inl ⟨Lib.hid (uf_range h h2 (by omega)), by omega, by omega, a3⟩))
  by_cases a4 : 1000000 < (uA us i).den
  · exact .inr (.inr (.inr (.inl ⟨Lib.hid (uf_range h h2 (by omega)), by omega, by omega, a4⟩)))
  have h3 : ¬ (¬ (1 ≤ (uA us i).num ∧ (uA us i).num ≤ 1000000) ∨ ¬ (1 ≤ (uA us i).den ∧ (uA us i).den ≤ 1000000)) := by omega
  cases he : (uA us i).of.toList.isEmpty with
  | false =>
    have h4 : ¬ (ofU us i = [] ∧ ((uA us i).num ≠ 1 ∨ (uA us i).den ≠ 1)) := fun g => by rw [of_empty.2 g.1] at he; cases he
    exact .inr (.inr (.inr (.inr (.inr (.inr (.inl ⟨Lib.hid (uf_ok h h2 h3 h4), by omega, by omega, by omega, by omega, rfl⟩))))))
  | true =>
    have hof := of_empty.1 he
    by_cases a5 : 2 ≤ (uA us i).num
    · exact .inr (.inr (.inr (.inr (.inl ⟨Lib.hid (uf_form h h2 h3 ⟨hof, .inl (by omega)⟩), by omega, by omega, by omega, by omega, rfl, a5⟩))))
    by_cases a6 : 2 ≤ (uA us i).den
    · exact .inr (.inr (.inr (.inr (.inr (.inl ⟨Lib.hid (uf_form h h2 h3 ⟨hof, .inr (by omega)⟩), by omega, by omega, by omega, by omega, rfl, by omega, a6⟩)))))
    have h4 : ¬ (ofU us i = [] ∧ ((uA us i).num ≠ 1 ∨ (uA us i).den ≠ 1)) := by omega
    exact .inr (.inr (.inr (.inr (.inr (.inr (.inr ⟨Lib.hid (uf_ok h h2 h3 h4), by omega, by omega, by omega, by omega, rfl, by omega, by omega⟩))))))

set_option maxHeartbeats 8000000 in
set_option maxRecDepth 100000 in
theorem ufault_c (us : List Unt) (A : Option Addr) (n c i : Nat) (w : World) (hU : Uns w A n us) (hn : n ≤ 200) (hi : i < n) :
    Calls Tryz.prog 34 #[.slice A n c, .int .i64 (i : Int)] w (RetI (uFault us i) w) := by
  obtain ⟨⟨r1, r2⟩, ⟨r3, r4⟩, r5, r6⟩ := hU.rng hi
  obtain ⟨b, off, rfl, hbl, hx0, hx1, hx2, hx3⟩ := hU.at_ hi
  have HU := Lib.hid hU; clear hU
  have HW := uBox w (uA us i) 69 _ rfl
  by_cases k1 : nameB (nmU us i) = false
  · have K := Lib.hid (uf_name k1)
    have k1' : nameB (uA us i).name.data.toList = false := k1
    have K1 := Lib.hid k1'; clear k1 k1' HW
    go_enter Tryz.func34, Tryz.ntmps34
    go_wp2_with fail
    refine (isname_c _ _ r5).mono ?_
    rintro e w1 ⟨rfl, hb1⟩
    rw [K1.out]
    go_wp2
    go_ret
    exact ⟨by rw [K.out]; rfl, below_then hb1 (by go_grown) (by simp only [World.size_alloc]; omega)⟩
  have k1 : nameB (nmU us i) = true := by simpa using k1
  have k1' : nameB (uA us i).name.data.toList = true := k1
  have K1 := Lib.hid k1'; clear k1'
  by_cases k0 : 0 < i
  · -- there is one ahead
    obtain ⟨b', off', e', -, y0, y1, y2, y3⟩ := HU.out.at_ (j := i - 1) (by omega)
    injection e' with e'
    injection e' with e1 e2
    subst e1; subst e2
    have lq := leqB (a := (uA us i).name) (b := (uA us (i - 1)).name)
    have e1 : IntKind.i64.wrap ((i : Int) - 1) = (i : Int) - 1 := IntWalk.i64_in _ (by omega)
    have e2 : (1 : Int) ≤ (i : Int) := by omega
    have e2' : (0 : Int) ≤ (i : Int) - 1 := by omega
    have e3 : ((i : Int) - 1).toNat = i - 1 := by omega
    have e4 : (i : Int) - 1 < (n : Int) := by omega
    have e5 : (0 : Int) < (i : Int) := by omega
    have E1 := Lib.hid e1; have E3 := Lib.hid e3; clear e1 e3
    by_cases k2 : Lib.compareBytes (nmU us (i - 1)) (nmU us i) < 0
    · have lq' : (Op.bytesLess (uA us i).name.toList (uA us (i - 1)).name.toList || (uA us i).name.toList == (uA us (i - 1)).name.toList) = false := by
        rw [lq, decide_eq_true (show Lib.compareBytes (uA us (i - 1)).name.data.toList (uA us i).name.data.toList < 0 from k2)]; rfl
      have hr := uf_rest k1 (fun h => h.2 k2)
      have LQ := Lib.hid lq'; clear lq lq' k1 k2
      rcases hr with ⟨K, f1⟩ | ⟨K, f1⟩ | ⟨K, f1, f2, f3⟩ | ⟨K, f1, f2, f3⟩ | ⟨K, f1, f2, f3, f4, f5, f6⟩ | ⟨K, f1, f2, f3, f4, f5, f6, f7⟩ | ⟨K, f1, f2, f3, f4, f5⟩ | ⟨K, f1, f2, f3, f4, f5, f6, f7⟩
      all_goals
        go_enter Tryz.func34, Tryz.ntmps34
        go_wp2_with fail
        generalize w.alloc (.cells #[.string (uA us i).name, .string (uA us i).of, .int .i64 (uA us i).num, .int .i64 (uA us i).den] 69) = w1 at HW ⊢
        obtain ⟨c0, c1, c2, c3, hb1, hz1⟩ := HW
        refine (isname_c _ _ r5).mono ?_
        rintro e w2 ⟨rfl, hb2⟩
        rw [K1.out]
        obtain ⟨d0, d1, d2, d3, hz2⟩ := uBox_below ⟨c0, c1, c2, c3⟩ hz1 hb2
        have hb := below_then hb2 hb1 hb1.size
        have x0 := (hb.cell (p := ⟨b, off + (i - 1) * 4, none⟩) hbl).trans y0
        clear c0 c1 c2 c3 hb2
        go_wp2_with fail
        have lq := LQ.out; have e1 := E1.out; have e3 := E3.out
        go_quiet (fail)
        clear e1 e3 lq
        go_wp2
        go_ret
        exact ⟨by rw [K.out]; rfl, below_drewN hb _⟩
    · have lq' : (Op.bytesLess (uA us i).name.toList (uA us (i - 1)).name.toList || (uA us i).name.toList == (uA us (i - 1)).name.toList) = true := by
        rw [lq, decide_eq_false (show ¬ Lib.compareBytes (uA us (i - 1)).name.data.toList (uA us i).name.data.toList < 0 from k2)]; rfl
      have K := Lib.hid (uf_order k1 k0 k2)
      have LQ := Lib.hid lq'; clear lq lq' k1 k2
      go_enter Tryz.func34, Tryz.ntmps34
      go_wp2_with fail
      generalize w.alloc (.cells #[.string (uA us i).name, .string (uA us i).of, .int .i64 (uA us i).num, .int .i64 (uA us i).den] 69) = w1 at HW ⊢
      obtain ⟨c0, c1, c2, c3, hb1, hz1⟩ := HW
      refine (isname_c _ _ r5).mono ?_
      rintro e w2 ⟨rfl, hb2⟩
      rw [K1.out]
      obtain ⟨d0, d1, d2, d3, hz2⟩ := uBox_below ⟨c0, c1, c2, c3⟩ hz1 hb2
      have hb := below_then hb2 hb1 hb1.size
      have x0 := (hb.cell (p := ⟨b, off + (i - 1) * 4, none⟩) hbl).trans y0
      clear c0 c1 c2 c3 hb2
      go_wp2_with fail
      have lq := LQ.out; have e1 := E1.out; have e3 := E3.out
      go_quiet (fail)
      clear e1 e3 lq
      go_wp2
      go_ret
      exact ⟨by rw [K.out]; rfl, below_drewN hb _⟩
  · have hr := uf_rest k1 (fun h => k0 h.1)
    have e5 : decide (0 < i) = false := by simpa using k0
    have E5 := Lib.hid e5
    clear k1 e5 k0
    rcases hr with ⟨K, f1⟩ | ⟨K, f1⟩ | ⟨K, f1, f2, f3⟩ | ⟨K, f1, f2, f3⟩ | ⟨K, f1, f2, f3, f4, f5, f6⟩ | ⟨K, f1, f2, f3, f4, f5, f6, f7⟩ | ⟨K, f1, f2, f3, f4, f5⟩ | ⟨K, f1, f2, f3, f4, f5, f6, f7⟩
    all_goals
      go_enter Tryz.func34, Tryz.ntmps34
      go_wp2_with fail
      generalize w.alloc (.cells #[.string (uA us i).name, .string (uA us i).of, .int .i64 (uA us i).num, .int .i64 (uA us i).den] 69) = w1 at HW ⊢
      obtain ⟨c0, c1, c2, c3, hb1, hz1⟩ := HW
      refine (isname_c _ _ r5).mono ?_
      rintro e w2 ⟨rfl, hb2⟩
      rw [K1.out]
      obtain ⟨d0, d1, d2, d3, hz2⟩ := uBox_below ⟨c0, c1, c2, c3⟩ hz1 hb2
      have hb := below_then hb2 hb1 hb1.size
      clear c0 c1 c2 c3 hb2
      go_wp2_with fail
      have e5 := E5.out
      go_quiet (fail)
      clear e5
      go_wp2
      go_ret
      exact ⟨by rw [K.out]; rfl, below_drewN hb _⟩
end Go.Proofs.YtegobkaldedhhaaGreatDoor
