
/- The walks of package reply on a book of sendings: IsRef, eventFault, CheckBook. -/
import Derived.Test.YtlkidhfjkgppoaaDoorO6
namespace Go.Proofs.YtlkidhfjkgppoaaDoor
open Go.RowKit Limb Work Go.Maps
set_option linter.unusedVariables false
set_option linter.unusedSimpArgs false

/-! ### References -/
def refSet : ByteArray := ⟨#[65, 66, 67, 68, 69, 70, 71, 72, 73, 74, 75, 76, 77, 78, 79, 80, 81, 82, 83, 84, 85, 86, 87, 88, 89, 90, 48, 49, 50, 51, 52, 53, 54, 55, 56, 57, 45]⟩
def RefOk (s : ByteArray) : Prop := 1 ≤ s.size ∧ s.size ≤ 14 ∧ ∀ c ∈ s.data.toList, refSet.data.toList.contains c = true
set_option maxHeartbeats 1000000 in
set_option maxRecDepth 100000 in
theorem isref_c (s : ByteArray) (w : World) (h : RefOk s) : Calls Tryd.prog 52 #[.string s] w fun e w' => e = .returned (.bool true) ∧ Below w.heap.size w w' := by
  obtain ⟨h1, h2, h3⟩ := h
  have hcon := Tryd.strings_Trim_laid s refSet w (by omega) (by decide) (ascii_of_all (by decide))
  have hnil : Lib.trimS s.data.toList refSet.data.toList = [] := by
    have := trimS_nil s.data.toList refSet.data.toList
    rw [List.all_eq_true.2 h3] at this
    exact List.isEmpty_iff.1 this
  rw [hnil] at hcon
  unfold refSet at hcon
  clear hnil h3
  go_enter Tryd.func52, Tryd.ntmps52
  go_wp2_with (go_at_call 54; refine hcon.mono ?_; rintro e w1 ⟨rfl, hb1⟩)
  go_ret
  exact ⟨rfl, hb1⟩

/-! ### Events -/
structure Ev where
  time : Int
  due : Int
  ref : ByteArray
def eA (es : List Ev) (j : Nat) : Ev := es.getD j ⟨0, 0, ⟨#[]⟩⟩
theorem eA_get {es : List Ev} {j : Nat} (h : j < es.length) : es[j] = eA es j := by simp [eA, List.getD_eq_getElem?_getD, h]
def evL (x : Ev) : List Value := [.int .i64 1, .int .i64 x.time, .int .i64 x.due, .string x.ref, .int .i64 0]
def evV (es : List Ev) (j i : Nat) : Value := match i with | 0 => .int .i64 1 | 1 => .int .i64 (eA es j).time | 2 => .int .i64 (eA es j).due | 3 => .string (eA es j).ref | _ => .int .i64 0
def Evs (w : World) (A : Option Addr) (es : List Ev) : Prop := Rws w A 5 es.length (evV es)
theorem Evs.below {w w' : World} {A : Option Addr} {es : List Ev} (h : Evs w A es) (hb : Below w.heap.size w w') : Evs w' A es := Rws.below h hb
/-- The book is right: sent by the moment, in order. -/
def EvOk (m : Int) (x : Ev) : Prop := (0 ≤ x.time ∧ x.time ≤ m) ∧ (x.time ≤ x.due ∧ x.due ≤ x.time + 10000000) ∧ RefOk x.ref
def BookOk (m : Int) (es : List Ev) : Prop := es.length ≤ 1000 ∧ (∀ x ∈ es, EvOk m x) ∧ ∀ i, i + 1 < es.length → (eA es i).time ≤ (eA es (i + 1)).time

set_option maxHeartbeats 2000000 in
set_option maxRecDepth 100000 in
theorem evf_c (A : Option Addr) (c : Nat) (es : List Ev) (m : Int) (k : Nat) (w : World) (hk : k < es.length) (hm : m ≤ 1000000000000000) (hok : BookOk m es) (he : Evs w A es) :
    Calls Tryd.prog 35 #[.slice A es.length c, .int .i64 k] w fun e w' => e = .returned (.int .i64 0) ∧ Below w.heap.size w w' := by
  obtain ⟨b, off, rfl, hbw, hc⟩ := Rws.get he hk
  have c0 : w.cell? ⟨b, off + k * 5, none⟩ = some (.int .i64 1) := hc 0 (by decide)
  have c1 : w.cell? ⟨b, off + k * 5 + 1, none⟩ = some (.int .i64 (eA es k).time) := hc 1 (by decide)
  have c2 : w.cell? ⟨b, off + k * 5 + 2, none⟩ = some (.int .i64 (eA es k).due) := hc 2 (by decide)
  have c3 : w.cell? ⟨b, off + k * 5 + 3, none⟩ = some (.string (eA es k).ref) := hc 3 (by decide)
  have c4 : w.cell? ⟨b, off + k * 5 + 4, none⟩ = some (.int .i64 0) := hc 4 (by decide)
  obtain ⟨⟨t1, t2⟩, ⟨d1, d2⟩, hr⟩ := hok.2.1 es[k] (List.getElem_mem hk)
  rw [eA_get hk] at t1 t2 d1 d2 hr
  have hpre : 0 < k → ∃ y, (eA es (k - 1)).time = y ∧ y ≤ (eA es k).time ∧ w.cell? ⟨b, off + (k - 1) * 5 + 1, none⟩ = some (.int .i64 y) := fun h0 => by
    obtain ⟨b', off', e, _, hc'⟩ := Rws.get he (j := k - 1) (by omega)
    cases e
    refine ⟨_, rfl, ?_, hc' 1 (by decide)⟩
    have := hok.2.2 (k - 1) (by omega)
    rwa [Nat.sub_add_cancel h0] at this
  obtain ⟨n, hn⟩ : ∃ n, es.length = n := ⟨_, rfl⟩
  have hl := hok.1
  obtain ⟨⟨xt, xd, xr⟩, hx⟩ : ∃ x, eA es k = x := ⟨_, rfl⟩
  rw [hx] at c1 c2 c3 t1 t2 d1 d2 hr hpre
  rw [hn] at hk hl ⊢
  simp only at c1 c2 c3 t1 t2 d1 d2 hr hpre
  have HMO := Lib.hid (fun w => mom_c xt w)
  rw [decide_eq_true (show 0 ≤ xt ∧ xt ≤ 1000000000000000 by omega)] at HMO
  have HRF := Lib.hid (fun w => isref_c xr w hr)
  have HO1 := Lib.hid (fun w => out_no 1 1 2 w (by decide))
  have HO2 := Lib.hid (fun w => out_no xd xt (xt + 10000000) w (by omega))
  have HP := Lib.hid hpre
  have hkk : 0 ≤ (k : Int) ∧ (k : Int) < (n : Int) := by omega
  clear hc hpre hok he hx hn hr
  go_enter Tryd.func35, Tryd.ntmps35
  go_wp2_with fail
  have hX := heap_new w (.cells #[.int .i64 1, .int .i64 xt, .int .i64 xd, .string xr, .int .i64 0] 35) rfl
  have hb0 : Below w.heap.size w (w.alloc (.cells #[.int .i64 1, .int .i64 xt, .int .i64 xd, .string xr, .int .i64 0] 35)) := by go_grown
  generalize w.alloc (.cells #[.int .i64 1, .int .i64 xt, .int .i64 xd, .string xr, .int .i64 0] 35) = w1 at hX hb0 ⊢
  obtain ⟨g0, g1, g2, g3, g4, g5⟩ := obox5 hX
  refine (HO1.out _).mono ?_
  rintro e w2 ⟨rfl, rfl⟩
  go_wp2_with fail
  refine (HMO.out _).mono ?_
  rintro e w2 ⟨rfl, rfl⟩
  go_wp2_with fail
  refine (HRF.out _).mono ?_
  rintro e w2 ⟨rfl, hb2⟩
  have hX2 := heap_below hX hb2
  have hB2 := below_then hb2 hb0 hb0.size
  have HPC := Lib.hid (show 0 < k → ∃ y, y ≤ xt ∧ w2.cell? ⟨b, off + (k - 1) * 5 + 1, none⟩ = some (.int .i64 y) from fun h0 => by
    obtain ⟨y, _, h1, h2⟩ := HP.out h0
    exact ⟨y, h1, (hB2.cell (p := ⟨b, off + (k - 1) * 5 + 1, none⟩) hbw).trans h2⟩)
  clear hX hb0 hb2 g0 g1 g2 g3 g4 g5 c0 c1 c2 c3 c4
  obtain ⟨g0, g1, g2, g3, g4, g5⟩ := obox5 hX2
  go_wp2_with fail
  refine (HO2.out _).mono ?_
  rintro e w3 ⟨rfl, rfl⟩
  rcases Nat.eq_zero_or_pos k with h0 | h0
  · subst h0
    go_wp2
    go_quiet (fail)
    go_wp2
    go_ret
    exact ⟨rfl, below_drewN hB2 _⟩
  · obtain ⟨y, y1, y2⟩ := HPC.out h0
    have k0 : (0 : Int) < (k : Int) := by omega
    obtain ⟨m, rfl⟩ : ∃ m, k = m + 1 := ⟨k - 1, by omega⟩
    rw [Nat.add_sub_cancel] at y2
    clear h0
    go_wp2
    go_quiet (fail)
    go_wp2
    go_ret
    exact ⟨rfl, below_drewN hB2 _⟩
set_option maxHeartbeats 1000000 in
set_option maxRecDepth 100000 in
theorem book_ok_c (A : Option Addr) (c : Nat) (es : List Ev) (m : Int) (w : World) (hm : m ≤ 1000000000000000) (hok : BookOk m es) (he : Evs w A es) :
    Calls Tryd.prog 17 #[.slice A es.length c] w fun e w' => e = .returned (.int .i64 0) ∧ Below w.heap.size w w' := by
  have HE := Lib.hid (fun k w hk he => evf_c A c es m k w hk hm hok he)
  have HEV := Lib.hid he
  obtain ⟨n, hn⟩ : ∃ n, es.length = n := ⟨_, rfl⟩
  have hl := hok.1
  rw [hn] at HE hl ⊢
  clear hok he hn
  go_enter Tryd.func17, Tryd.ntmps17
  go_wp2
  go_loopw [10] (fun i wr => ∃ k : Nat, k ≤ n ∧ i = .int .i64 k ∧ Below w.heap.size w wr) (fun i _ => n - (intOf i).toNat)
  case atStart => exact ⟨0, Nat.zero_le _, rfl, Below.refl _ _⟩
  case round =>
    obtain ⟨k, hk, rfl, hb⟩ := hrel
    rcases Nat.lt_or_ge k n with hlt | hge
    · have HC := Lib.hid (HE.out k wr hlt (HEV.out.below hb))
      go_wp2_with fail
      refine HC.out.mono ?_
      rintro e w2 ⟨rfl, hb2⟩
      have hB2 := below_then hb2 hb hb.size
      go_wp2
      go_roundw
      case rel => exact ⟨k + 1, by omega, by go_num, hB2⟩
      case measure => simp [intOf]; omega
    · obtain rfl : k = n := by omega
      go_wp2
      go_ret
      exact ⟨rfl, hb⟩
end Go.Proofs.YtlkidhfjkgppoaaDoor
