
/- Rows of structs in memory; the walks of package desk: CheckPolicy, CheckJobs, CheckOutages, boxFault. -/
import Derived.Test.YtlkidhfjkgppoaaDoorO0
import Derived.Test.YtlkidhfjkgppoaaDoorU3
import Derived.Deep.QuietTactic
import Derived.BigQuiet
namespace Go.Proofs.YtlkidhfjkgppoaaDoor
open Go.RowKit Limb
set_option linter.unusedVariables false
set_option linter.unusedSimpArgs false

/-- A row of n structs of k cells each, as it lies in memory. -/
def Rws (w : World) (A : Option Addr) (k n : Nat) (f : Nat → Nat → Value) : Prop :=
  0 < n → ∃ b off, A = some ⟨b, off, none⟩ ∧ b < w.heap.size ∧ ∀ j, j < n → ∀ i, i < k → w.cell? ⟨b, off + j * k + i, none⟩ = some (f j i)
theorem Rws.below {w w' : World} {A : Option Addr} {k n : Nat} {f : Nat → Nat → Value} (h : Rws w A k n f) (hb : Below w.heap.size w w') : Rws w' A k n f := fun hn => by
  obtain ⟨b, off, e, hl, hc⟩ := h hn
  exact ⟨b, off, e, Nat.lt_of_lt_of_le hl hb.size, fun j hj i hi => (hb.cell (p := ⟨b, off + j * k + i, none⟩) hl).trans (hc j hj i hi)⟩
theorem Rws.get {w : World} {A : Option Addr} {k n : Nat} {f : Nat → Nat → Value} (h : Rws w A k n f) {j : Nat} (hj : j < n) : ∃ b off, A = some ⟨b, off, none⟩ ∧ b < w.heap.size ∧ ∀ i, i < k → w.cell? ⟨b, off + j * k + i, none⟩ = some (f j i) := by
  obtain ⟨b, off, e, hl, hc⟩ := h (by omega)
  exact ⟨b, off, e, hl, hc j hj⟩

/-- What the walk wants of blocks of three and of five cells of the call's own. -/
theorem obox3 {w : World} {g : Nat} {x y z : Value} {T : TypeId} (h : w.heap[g]? = some (.cells #[x, y, z] T (0, 0))) :
    (w.cell? ⟨g, 0, none⟩ = some x ∧ w.cell? ⟨g, 1, none⟩ = some y ∧ w.cell? ⟨g, 2, none⟩ = some z) ∧ (w.frozen? ⟨g, 0, none⟩ = false ∧ w.frozen? ⟨g, 1, none⟩ = false ∧ w.frozen? ⟨g, 2, none⟩ = false) ∧ g < w.heap.size :=
  ⟨⟨cell_of_row w g 0 _ _ _ h, cell_of_row w g 1 _ _ _ h, cell_of_row w g 2 _ _ _ h⟩, ⟨by simp [World.frozen?, h], by simp [World.frozen?, h], by simp [World.frozen?, h]⟩, lt_heap h⟩
def jA (js : List Jb) (j : Nat) : Jb := js.getD j ⟨⟨#[]⟩, 0⟩
def oA (os : List Otg) (j : Nat) : Otg := os.getD j ⟨⟨#[]⟩, 0, 0⟩
theorem jA_get {js : List Jb} {j : Nat} (h : j < js.length) : js[j] = jA js j := by simp [jA, List.getD_eq_getElem?_getD, h]
theorem oA_get {os : List Otg} {j : Nat} (h : j < os.length) : os[j] = oA os j := by simp [oA, List.getD_eq_getElem?_getD, h]
def jobV (js : List Jb) (j i : Nat) : Value := match i with | 0 => .string (jA js j).lane | _ => .int .i64 (jA js j).at_
def otgV (os : List Otg) (j i : Nat) : Value := match i with | 0 => .string (oA os j).lane | 1 => .int .i64 (oA os j).fr | _ => .int .i64 (oA os j).to
def Jobs (w : World) (A : Option Addr) (js : List Jb) : Prop := (∀ j ∈ js, j.lane.size ≤ 9223372036854775807) ∧ Rws w A 2 js.length (jobV js)
def Outs (w : World) (A : Option Addr) (os : List Otg) : Prop := (∀ o ∈ os, o.lane.size ≤ 9223372036854775807) ∧ Rws w A 3 os.length (otgV os)
theorem Jobs.below {w w' : World} {A : Option Addr} {js : List Jb} (h : Jobs w A js) (hb : Below w.heap.size w w') : Jobs w' A js := ⟨h.1, h.2.below hb⟩
theorem Outs.below {w w' : World} {A : Option Addr} {os : List Otg} (h : Outs w A os) (hb : Below w.heap.size w w') : Outs w' A os := ⟨h.1, h.2.below hb⟩

/-! ### What is right -/
structure Pol where
  first : Int
  factor : Int
  most : Int
  tries : Int
  io : Bool
def polV (p : Pol) : Value := .agg #[.int .i64 p.first, .int .i64 p.factor, .int .i64 p.most, .int .i64 p.tries, .bool p.io]
def PolOk (p : Pol) : Prop := (1 ≤ p.first ∧ p.first ≤ 1000000) ∧ (1 ≤ p.factor ∧ p.factor ≤ 10) ∧ (p.first ≤ p.most ∧ p.most ≤ 1000000) ∧ (1 ≤ p.tries ∧ p.tries ≤ 20)
def JobOk (js : List Jb) (i : Nat) : Prop := nameB (jA js i).lane.data.toList = true ∧ (0 ≤ (jA js i).at_ ∧ (jA js i).at_ ≤ 1000000000000000) ∧ (0 < i → (jA js (i - 1)).at_ ≤ (jA js i).at_)
def JobsOk (js : List Jb) : Prop := js.length ≤ 1000 ∧ ∀ i, i < js.length → JobOk js i
def OutOk (o : Otg) : Prop := nameB o.lane.data.toList = true ∧ (0 ≤ o.fr ∧ o.fr ≤ 1000000000000000) ∧ (0 ≤ o.to ∧ o.to ≤ 2000000000000000) ∧ o.fr < o.to
def OutsOk (os : List Otg) : Prop := os.length ≤ 500 ∧ ∀ i, i < os.length → OutOk (oA os i)
/-- A fault that is 0 just if all is right. -/
def RetF (P : Prop) (w : World) (e : Ending) (w' : World) : Prop := ∃ f, e = .returned (.int .i64 f) ∧ (f = 0 ↔ P) ∧ Below w.heap.size w w'
theorem RetF.no {P : Prop} {w w' : World} {f : Int} (hf : f ≠ 0) (h : ¬ P) (hb : Below w.heap.size w w') : RetF P w (.returned (.int .i64 f)) w' := ⟨f, rfl, ⟨fun e => absurd e hf, fun p => absurd p h⟩, hb⟩
theorem RetF.yes {P : Prop} {w w' : World} (h : P) (hb : Below w.heap.size w w') : RetF P w (.returned (.int .i64 0)) w' := ⟨0, rfl, ⟨fun _ => h, fun _ => rfl⟩, hb⟩

set_option maxHeartbeats 1000000 in
set_option maxRecDepth 100000 in
theorem pol_c (p : Pol) (w : World) : Calls Tryd.prog 23 #[polV p] w (RetF (PolOk p) w) := by
  obtain ⟨a, b, c, d, io⟩ := p
  unfold polV
  simp only
  by_cases h1 : 1 ≤ a ∧ a ≤ 1000000
  case neg =>
    have hn := Lib.hid (show ¬ PolOk ⟨a, b, c, d, io⟩ from fun h => h1 h.1)
    have ho := out_yes a 1 1000000
    have HO := Lib.hid (fun w => ho w h1)
    clear h1 ho
    go_enter Tryd.func23, Tryd.ntmps23
    go_wp2_with (go_at_call 21; refine (HO.out _).mono ?_; rintro e w1 ⟨rfl, rfl⟩)
    go_ret
    exact RetF.no (by decide) hn.out (by go_grown)
  have h1' := out_no a 1 1000000
  by_cases h2 : 1 ≤ b ∧ b ≤ 10
  case neg =>
    have hn := Lib.hid (show ¬ PolOk ⟨a, b, c, d, io⟩ from fun h => h2 h.2.1)
    have HO1 := Lib.hid (fun w => out_no a 1 1000000 w h1)
    have HO2 := Lib.hid (fun w => out_yes b 1 10 w h2)
    clear h1 h2 h1'
    go_enter Tryd.func23, Tryd.ntmps23
    go_wp2_with fail
    refine (HO1.out _).mono ?_
    rintro e w1 ⟨rfl, rfl⟩
    go_wp2_with fail
    refine (HO2.out _).mono ?_
    rintro e w1 ⟨rfl, rfl⟩
    go_wp2
    go_ret
    exact RetF.no (by decide) hn.out (by go_grown)
  by_cases h3 : a ≤ c ∧ c ≤ 1000000
  case neg =>
    have hn := Lib.hid (show ¬ PolOk ⟨a, b, c, d, io⟩ from fun h => h3 h.2.2.1)
    have HO1 := Lib.hid (fun w => out_no a 1 1000000 w h1)
    have HO2 := Lib.hid (fun w => out_no b 1 10 w h2)
    have HO3 := Lib.hid (fun w => out_yes c a 1000000 w h3)
    clear h1 h2 h3 h1'
    go_enter Tryd.func23, Tryd.ntmps23
    go_wp2_with fail
    refine (HO1.out _).mono ?_
    rintro e w1 ⟨rfl, rfl⟩
    go_wp2_with fail
    refine (HO2.out _).mono ?_
    rintro e w1 ⟨rfl, rfl⟩
    go_wp2_with fail
    refine (HO3.out _).mono ?_
    rintro e w1 ⟨rfl, rfl⟩
    go_wp2
    go_ret
    exact RetF.no (by decide) hn.out (by go_grown)
  have HO1 := Lib.hid (fun w => out_no a 1 1000000 w h1)
  have HO2 := Lib.hid (fun w => out_no b 1 10 w h2)
  have HO3 := Lib.hid (fun w => out_no c a 1000000 w h3)
  by_cases h4 : 1 ≤ d ∧ d ≤ 20
  case neg =>
    have hn := Lib.hid (show ¬ PolOk ⟨a, b, c, d, io⟩ from fun h => h4 h.2.2.2)
    have HO4 := Lib.hid (fun w => out_yes d 1 20 w h4)
    clear h1 h2 h3 h1' h4
    go_enter Tryd.func23, Tryd.ntmps23
    go_wp2_with fail
    refine (HO1.out _).mono ?_
    rintro e w1 ⟨rfl, rfl⟩
    go_wp2_with fail
    refine (HO2.out _).mono ?_
    rintro e w1 ⟨rfl, rfl⟩
    go_wp2_with fail
    refine (HO3.out _).mono ?_
    rintro e w1 ⟨rfl, rfl⟩
    go_wp2_with fail
    refine (HO4.out _).mono ?_
    rintro e w1 ⟨rfl, rfl⟩
    go_wp2
    go_ret
    exact RetF.no (by decide) hn.out (by go_grown)
  have hn := Lib.hid (show PolOk ⟨a, b, c, d, io⟩ from ⟨h1, h2, h3, h4⟩)
  have HO4 := Lib.hid (fun w => out_no d 1 20 w h4)
  clear h1 h2 h3 h1' h4
  go_enter Tryd.func23, Tryd.ntmps23
  go_wp2_with fail
  refine (HO1.out _).mono ?_
  rintro e w1 ⟨rfl, rfl⟩
  go_wp2_with fail
  refine (HO2.out _).mono ?_
  rintro e w1 ⟨rfl, rfl⟩
  go_wp2_with fail
  refine (HO3.out _).mono ?_
  rintro e w1 ⟨rfl, rfl⟩
  go_wp2_with fail
  refine (HO4.out _).mono ?_
  rintro e w1 ⟨rfl, rfl⟩
  go_wp2
  go_ret
  exact RetF.yes hn.out (by go_grown)
theorem mom_c (n : Int) (w : World) : Calls Tryd.prog 18 #[.int .i64 n] w fun e w' => w = w' ∧ e = .returned (.bool (decide (0 ≤ n ∧ n ≤ 1000000000000000))) := by
  by_cases h : 0 ≤ n ∧ n ≤ 1000000000000000
  · have HO := Lib.hid (fun w => out_no n 0 1000000000000000 w h)
    rw [decide_eq_true h]
    clear h
    go_enter Tryd.func18, Tryd.ntmps18
    go_wp2_with fail
    refine (HO.out _).mono ?_
    rintro e w1 ⟨rfl, rfl⟩
    go_wp2
    go_ret
    exact ⟨rfl, rfl⟩
  · have HO := Lib.hid (fun w => out_yes n 0 1000000000000000 w h)
    rw [decide_eq_false h]
    clear h
    go_enter Tryd.func18, Tryd.ntmps18
    go_wp2_with fail
    refine (HO.out _).mono ?_
    rintro e w1 ⟨rfl, rfl⟩
    go_wp2
    go_ret
    exact ⟨rfl, rfl⟩

set_option maxHeartbeats 2000000 in
set_option maxRecDepth 100000 in
theorem jobs_c (A : Option Addr) (c : Nat) (js : List Jb) (w : World) (hn : js.length ≤ 9223372036854775807) (hj : Jobs w A js) :
    Calls Tryd.prog 24 #[.slice A js.length c] w (RetF (JobsOk js) w) := by
  obtain ⟨n, hnn⟩ : ∃ n, js.length = n := ⟨_, rfl⟩
  have HNN := Lib.hid hnn
  by_cases h1 : 1000 < js.length
  · have hno := Lib.hid (show ¬ JobsOk js from fun h => by have := h.1; omega)
    have h1' : (1000 : Int) < (n : Int) := by omega
    rw [hnn]
    clear h1 hn hnn
    go_enter Tryd.func24, Tryd.ntmps24
    go_wp2
    go_ret
    exact RetF.no (by decide) hno.out (Below.refl _ _)
  have h1' : ¬ (1000 : Int) < (n : Int) := by omega
  have hn2 : n ≤ 1000 := by omega
  have HJ := Lib.hid hj
  rw [hnn]
  clear h1 hn hnn hj
  go_enter Tryd.func24, Tryd.ntmps24
  go_wp2
  go_loopw [10] (fun i wr => ∃ k : Nat, k ≤ n ∧ i = .int .i64 k ∧ Below w.heap.size w wr ∧ Hid (∀ i, i < k → JobOk js i)) (fun i _ => n - (intOf i).toNat)
  case atStart => exact ⟨0, Nat.zero_le _, rfl, Below.refl _ _, Lib.hid (fun i h => absurd h (Nat.not_lt_zero _))⟩
  case round =>
    obtain ⟨k, hk, rfl, hb, HK⟩ := hrel
    have hz := hb.size
    rcases Nat.lt_or_ge k n with hlt | hge
    · have hltj : k < js.length := by rw [HNN.out]; exact hlt
      obtain ⟨b, off, rfl, hbw, hc⟩ := (HJ.out.below hb).2.get hltj
      have hs := HJ.out.1 js[k] (List.getElem_mem hltj)
      rw [jA_get hltj] at hs
      have c0 : wr.cell? ⟨b, off + k * 2, none⟩ = some (.string (jA js k).lane) := hc 0 (by decide)
      have c1 : wr.cell? ⟨b, off + k * 2 + 1, none⟩ = some (.int .i64 (jA js k).at_) := hc 1 (by decide)
      have hpre : 0 < k → wr.cell? ⟨b, off + (k - 1) * 2 + 1, none⟩ = some (.int .i64 (jA js (k - 1)).at_) := fun h => by
        obtain ⟨b', off', e, _, hc'⟩ := (HJ.out.below hb).2.get (j := k - 1) (by omega)
        cases e
        exact hc' 1 (by decide)
      have HPRE := Lib.hid hpre
      obtain ⟨x, hx⟩ : ∃ x, jA js k = x := ⟨_, rfl⟩
      have HX := Lib.hid hx
      rw [hx] at hs c0 c1
      have HIS := Lib.hid (fun w => isname_c x.lane w hs)
      have HMO := Lib.hid (fun w => mom_c x.at_ w)
      obtain ⟨y, hy⟩ : ∃ y, (jA js (k - 1)).at_ = y := ⟨_, rfl⟩
      rw [hy] at hpre
      have HPRE := Lib.hid hpre
      have HY := Lib.hid hy
      clear hc hx hpre hy
      cases hnb : nameB x.lane.data.toList with
      | false =>
        rw [hnb] at HIS
        have hno := Lib.hid (show ¬ JobsOk js from fun h => by have := (h.2 k hltj).1; rw [HX.out, hnb] at this; cases this)
        clear hnb hltj
        go_wp2_with fail
        refine (HIS.out _).mono ?_
        rintro e w2 ⟨rfl, hb2⟩
        go_wp2
        go_ret
        exact RetF.no (by decide) hno.out (below_then hb2 (by go_grown) (by simp; omega))
      | true =>
      rw [hnb] at HIS
      have HNB := Lib.hid hnb
      clear hnb
      go_wp2_with fail
      have hX := heap_new wr (.cells #[.string x.lane, .int .i64 x.at_] 39) rfl
      have hb1 : Below w.heap.size w (wr.alloc (.cells #[.string x.lane, .int .i64 x.at_] 39)) := by go_grown
      generalize wr.alloc (.cells #[.string x.lane, .int .i64 x.at_] 39) = w1 at hX hb1 ⊢
      refine (HIS.out _).mono ?_
      rintro e w2 ⟨rfl, hb2⟩
      have hX2 := heap_below hX hb2
      have hB2 := below_then hb2 hb1 hb1.size
      obtain ⟨g0, g1, -, -, -⟩ := box2 hX2
      have hbn : b < w.heap.size ∨ w.heap.size ≤ b := by omega
      have HPR2 := Lib.hid (show 0 < k → w2.cell? ⟨b, off + (k - 1) * 2 + 1, none⟩ = some (.int .i64 y) from fun h => by
        obtain ⟨b', off', e, _, hc'⟩ := (HJ.out.below hB2).2.get (j := k - 1) (by omega)
        cases e
        rw [← HY.out]
        exact hc' 1 (by decide))
      clear hX hb1 hb2 HPRE c0 c1 hbn
      by_cases hm : 0 ≤ x.at_ ∧ x.at_ ≤ 1000000000000000
      case neg =>
        rw [decide_eq_false hm] at HMO
        have hno := Lib.hid (show ¬ JobsOk js from fun h => hm (by have := (h.2 k hltj).2.1; rw [HX.out] at this; exact this))
        clear hm hltj
        go_wp2_with fail
        refine (HMO.out _).mono ?_
        rintro e w3 ⟨rfl, rfl⟩
        go_wp2
        go_ret
        exact RetF.no (by decide) hno.out hB2
      rw [decide_eq_true hm] at HMO
      have HM := Lib.hid hm
      clear hm
      rcases Nat.eq_zero_or_pos k with h0 | h0
      · subst h0
        have HK2 := Lib.hid (show ∀ i, i < 1 → JobOk js i from fun i hi => by
          obtain rfl : i = 0 := by omega
          exact ⟨by rw [HX.out]; exact HNB.out, by rw [HX.out]; exact HM.out, fun h => absurd h (Nat.lt_irrefl _)⟩)
        clear hltj
        go_wp2_with fail
        refine (HMO.out _).mono ?_
        rintro e w3 ⟨rfl, rfl⟩
        go_wp2
        go_quiet (fail)
        go_wp2
        go_roundw
        case rel => exact ⟨1, by omega, by go_num, below_drewN hB2 _, HK2⟩
        case measure => simp [intOf]; omega
      · have c9 := HPR2.out h0
        have k0 : (0 : Int) < (k : Int) := by omega
        obtain ⟨m, rfl⟩ : ∃ m, k = m + 1 := ⟨k - 1, by omega⟩
        rw [Nat.add_sub_cancel] at c9 HY
        by_cases hlt2 : x.at_ < y
        · have hno := Lib.hid (show ¬ JobsOk js from fun h => by have := (h.2 (m + 1) hltj).2.2 (by omega); rw [HX.out, Nat.add_sub_cancel, HY.out] at this; omega)
          clear hltj h0
          go_wp2_with fail
          refine (HMO.out _).mono ?_
          rintro e w3 ⟨rfl, rfl⟩
          go_wp2
          go_quiet (fail)
          go_wp2
          go_ret
          exact RetF.no (by decide) hno.out (below_drewN hB2 _)
        · have HK2 := Lib.hid (show ∀ i, i < m + 1 + 1 → JobOk js i from fun i hi => by
            rcases Nat.lt_or_ge i (m + 1) with h | h
            · exact HK.out i h
            · obtain rfl : i = m + 1 := by omega
              exact ⟨by rw [HX.out]; exact HNB.out, by rw [HX.out]; exact HM.out, fun h => by rw [HX.out, Nat.add_sub_cancel, HY.out]; omega⟩)
          clear hltj h0
          go_wp2_with fail
          refine (HMO.out _).mono ?_
          rintro e w3 ⟨rfl, rfl⟩
          go_wp2
          go_quiet (fail)
          go_wp2
          go_roundw
          case rel => exact ⟨m + 1 + 1, by omega, by go_num, below_drewN hB2 _, HK2⟩
          case measure => simp [intOf]; omega
    · obtain rfl : k = n := by omega
      have hyes := Lib.hid (show JobsOk js from ⟨by rw [HNN.out]; exact hn2, fun i hi => HK.out i (by rw [← HNN.out]; exact hi)⟩)
      go_wp2
      go_ret
      exact RetF.yes hyes.out hb
theorem out_b (n lo hi : Int) (w : World) : Calls Tryd.prog 21 #[.int .i64 n, .int .i64 lo, .int .i64 hi] w fun e w' => w = w' ∧ e = .returned (.bool (!decide (lo ≤ n ∧ n ≤ hi))) := by
  by_cases h : lo ≤ n ∧ n ≤ hi
  · rw [decide_eq_true h]; exact out_no n lo hi w h
  · rw [decide_eq_false h]; exact out_yes n lo hi w h

set_option maxHeartbeats 2000000 in
set_option maxRecDepth 100000 in
theorem outs_c (A : Option Addr) (c : Nat) (os : List Otg) (w : World) (hn : os.length ≤ 9223372036854775807) (hj : Outs w A os) :
    Calls Tryd.prog 25 #[.slice A os.length c] w (RetF (OutsOk os) w) := by
  obtain ⟨n, hnn⟩ : ∃ n, os.length = n := ⟨_, rfl⟩
  have HNN := Lib.hid hnn
  by_cases h1 : 500 < os.length
  · have hno := Lib.hid (show ¬ OutsOk os from fun h => by have := h.1; omega)
    have h1' : (500 : Int) < (n : Int) := by omega
    rw [hnn]
    clear h1 hn hnn
    go_enter Tryd.func25, Tryd.ntmps25
    go_wp2
    go_ret
    exact RetF.no (by decide) hno.out (Below.refl _ _)
  have h1' : ¬ (500 : Int) < (n : Int) := by omega
  have hn2 : n ≤ 500 := by omega
  have HJ := Lib.hid hj
  rw [hnn]
  clear h1 hn hnn hj
  go_enter Tryd.func25, Tryd.ntmps25
  go_wp2
  go_loopw [10] (fun i wr => ∃ k : Nat, k ≤ n ∧ i = .int .i64 k ∧ Below w.heap.size w wr ∧ Hid (∀ i, i < k → OutOk (oA os i))) (fun i _ => n - (intOf i).toNat)
  case atStart => exact ⟨0, Nat.zero_le _, rfl, Below.refl _ _, Lib.hid (fun i h => absurd h (Nat.not_lt_zero _))⟩
  case round =>
    obtain ⟨k, hk, rfl, hb, HK⟩ := hrel
    have hz := hb.size
    rcases Nat.lt_or_ge k n with hlt | hge
    · have hltj : k < os.length := by rw [HNN.out]; exact hlt
      obtain ⟨b, off, rfl, hbw, hc⟩ := (HJ.out.below hb).2.get hltj
      have hs := HJ.out.1 os[k] (List.getElem_mem hltj)
      rw [oA_get hltj] at hs
      have c0 : wr.cell? ⟨b, off + k * 3, none⟩ = some (.string (oA os k).lane) := hc 0 (by decide)
      have c1 : wr.cell? ⟨b, off + k * 3 + 1, none⟩ = some (.int .i64 (oA os k).fr) := hc 1 (by decide)
      have c2 : wr.cell? ⟨b, off + k * 3 + 2, none⟩ = some (.int .i64 (oA os k).to) := hc 2 (by decide)
      obtain ⟨x, hx⟩ : ∃ x, oA os k = x := ⟨_, rfl⟩
      have HX := Lib.hid hx
      rw [hx] at hs c0 c1 c2
      have HIS := Lib.hid (fun w => isname_c x.lane w hs)
      have HMO := Lib.hid (fun w => mom_c x.fr w)
      have HOU := Lib.hid (fun w => out_b x.to 0 2000000000000000 w)
      clear hc hx
      cases hnb : nameB x.lane.data.toList with
      | false =>
        rw [hnb] at HIS
        have hno := Lib.hid (show ¬ OutsOk os from fun h => by have := (h.2 k hltj).1; rw [HX.out, hnb] at this; cases this)
        clear hnb hltj
        go_wp2_with fail
        refine (HIS.out _).mono ?_
        rintro e w2 ⟨rfl, hb2⟩
        go_wp2
        go_ret
        exact RetF.no (by decide) hno.out (below_then hb2 (by go_grown) (by simp; omega))
      | true =>
      rw [hnb] at HIS
      have HNB := Lib.hid hnb
      clear hnb
      go_wp2_with fail
      have hX := heap_new wr (.cells #[.string x.lane, .int .i64 x.fr, .int .i64 x.to] 87) rfl
      have hb1 : Below w.heap.size w (wr.alloc (.cells #[.string x.lane, .int .i64 x.fr, .int .i64 x.to] 87)) := by go_grown
      generalize wr.alloc (.cells #[.string x.lane, .int .i64 x.fr, .int .i64 x.to] 87) = w1 at hX hb1 ⊢
      refine (HIS.out _).mono ?_
      rintro e w2 ⟨rfl, hb2⟩
      have hX2 := heap_below hX hb2
      have hB2 := below_then hb2 hb1 hb1.size
      obtain ⟨⟨g0, g1, g2⟩, -, -⟩ := obox3 hX2
      clear hX hb1 hb2 c0 c1 c2
      by_cases hm : 0 ≤ x.fr ∧ x.fr ≤ 1000000000000000
      case neg =>
        rw [decide_eq_false hm] at HMO
        have hno := Lib.hid (show ¬ OutsOk os from fun h => hm (by have := (h.2 k hltj).2.1; rw [HX.out] at this; exact this))
        clear hm hltj
        go_wp2_with fail
        refine (HMO.out _).mono ?_
        rintro e w3 ⟨rfl, rfl⟩
        go_wp2
        go_ret
        exact RetF.no (by decide) hno.out hB2
      rw [decide_eq_true hm] at HMO
      have HM := Lib.hid hm
      clear hm
      by_cases hm2 : 0 ≤ x.to ∧ x.to ≤ 2000000000000000
      case neg =>
        rw [decide_eq_false hm2] at HOU
        have hno := Lib.hid (show ¬ OutsOk os from fun h => hm2 (by have := (h.2 k hltj).2.2.1; rw [HX.out] at this; exact this))
        clear hm2 hltj
        go_wp2_with fail
        refine (HMO.out _).mono ?_
        rintro e w3 ⟨rfl, rfl⟩
        go_wp2_with fail
        refine (HOU.out _).mono ?_
        rintro e w3 ⟨rfl, rfl⟩
        go_wp2
        go_ret
        exact RetF.no (by decide) hno.out hB2
      rw [decide_eq_true hm2] at HOU
      have HM2 := Lib.hid hm2
      clear hm2
      by_cases hlt2 : x.to ≤ x.fr
      · have hno := Lib.hid (show ¬ OutsOk os from fun h => by have := (h.2 k hltj).2.2.2; rw [HX.out] at this; omega)
        clear hltj
        go_wp2_with fail
        refine (HMO.out _).mono ?_
        rintro e w3 ⟨rfl, rfl⟩
        go_wp2_with fail
        refine (HOU.out _).mono ?_
        rintro e w3 ⟨rfl, rfl⟩
        go_wp2
        go_ret
        exact RetF.no (by decide) hno.out hB2
      · have HK2 := Lib.hid (show ∀ i, i < k + 1 → OutOk (oA os i) from fun i hi => by
          rcases Nat.lt_or_ge i k with h | h
          · exact HK.out i h
          · obtain rfl : i = k := by omega
            rw [HX.out]
            exact ⟨HNB.out, HM.out, HM2.out, by omega⟩)
        clear hltj
        go_wp2_with fail
        refine (HMO.out _).mono ?_
        rintro e w3 ⟨rfl, rfl⟩
        go_wp2_with fail
        refine (HOU.out _).mono ?_
        rintro e w3 ⟨rfl, rfl⟩
        go_wp2
        go_roundw
        case rel => exact ⟨k + 1, by omega, by go_num, hB2, HK2⟩
        case measure => simp [intOf]; omega
    · obtain rfl : k = n := by omega
      have hyes := Lib.hid (show OutsOk os from ⟨by rw [HNN.out]; exact hn2, fun i hi => HK.out i (by rw [← HNN.out]; exact hi)⟩)
      go_wp2
      go_ret
      exact RetF.yes hyes.out hb

set_option maxHeartbeats 1000000 in
set_option maxRecDepth 100000 in
theorem boxf_c (p : Pol) (A B : Option Addr) (c d : Nat) (js : List Jb) (os : List Otg) (w : World) (hn : js.length ≤ 9223372036854775807) (hm : os.length ≤ 9223372036854775807) (hj : Jobs w A js) (ho : Outs w B os) :
    Calls Tryd.prog 11 #[polV p, .slice A js.length c, .slice B os.length d] w (RetF (PolOk p ∧ JobsOk js ∧ OutsOk os) w) := by
  have HP := Lib.hid (fun w => pol_c p w)
  have HJ := Lib.hid (fun w hj => jobs_c A c js w hn hj)
  have HO := Lib.hid (fun w hj => outs_c B d os w hm hj)
  have Hj := Lib.hid hj; have Ho := Lib.hid ho
  clear hj ho
  go_enter Tryd.func11, Tryd.ntmps11
  unfold polV
  go_wp2_with fail
  refine (HP.out _).mono ?_
  rintro e w1 ⟨f1, rfl, hf1, hb1⟩
  have hB1 := below_then hb1 (by go_grown : Below w.heap.size w _) (by simp)
  clear hb1
  by_cases h1 : f1 = 0
  case neg =>
    have h1' : (f1 != 0) = true := by simpa using h1
    have hno := Lib.hid (show ¬ (PolOk p ∧ JobsOk js ∧ OutsOk os) from fun h => h1 (hf1.2 h.1))
    have H1 := Lib.hid h1
    clear hf1 h1
    go_wp2
    go_ret
    exact RetF.no H1.out hno.out hB1
  subst h1
  have hp := Lib.hid (hf1.1 rfl)
  clear hf1
  go_wp2_with fail
  refine (HJ.out _ (Hj.out.below hB1)).mono ?_
  rintro e w2 ⟨f2, rfl, hf2, hb2⟩
  have hB2 := below_then hb2 hB1 hB1.size
  clear hb2 hB1
  by_cases h1 : f2 = 0
  case neg =>
    have h1' : (f2 != 0) = true := by simpa using h1
    have hno := Lib.hid (show ¬ (PolOk p ∧ JobsOk js ∧ OutsOk os) from fun h => h1 (hf2.2 h.2.1))
    have H1 := Lib.hid h1
    clear hf2 h1
    go_wp2
    go_ret
    exact RetF.no H1.out hno.out hB2
  subst h1
  have hq := Lib.hid (hf2.1 rfl)
  clear hf2
  go_wp2_with fail
  refine (HO.out _ (Ho.out.below hB2)).mono ?_
  rintro e w3 ⟨f3, rfl, hf3, hb3⟩
  have hB3 := below_then hb3 hB2 hB2.size
  have HF := Lib.hid (show f3 = 0 ↔ (PolOk p ∧ JobsOk js ∧ OutsOk os) from ⟨fun h => ⟨hp.out, hq.out, hf3.1 h⟩, fun h => hf3.2 h.2.2⟩)
  clear hf3 hb3 hB2
  go_wp2
  go_ret
  exact ⟨f3, rfl, HF.out, hB3⟩
end Go.Proofs.YtlkidhfjkgppoaaDoor
