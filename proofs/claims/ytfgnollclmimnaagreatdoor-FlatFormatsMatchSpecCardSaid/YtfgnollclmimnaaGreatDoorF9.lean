/- The walks of package amount's numbers: isBank, isTax, isNumber, IsNumber, Widened. The walks of days and dates: the program's. The walks of days and dates: the program's dayOf, DayOf, dateOf, DateOf, weekOf. The walks of package amount's days: numbers out of digits, parts, the day of a week. The walks of package flat's words, and of kit's Number, Undash. -/
import Derived.Test.YtfgnollclmimnaaGreatDoorK3
import Derived.Test.YtfgnollclmimnaaGreatDoorJ3
import Derived.Test.YtfgnollclmimnaaGreatDoorF6
import Derived.Deep.QuietTactic
import Derived.BigQuiet
import Derived.IntWalk
import Derived.Test.YtfgnollclmimnaaGreatDoorShelf2
import Derived.Lib.AtoiErrMem
import Derived.Test.YtfgnollclmimnaaGreatDoorF8
-- merged: K4 E1 E2 M1 F9

namespace Go.Proofs.YtfgnollclmimnaaGreatDoor
open Go.RowKit Limb Nmb
set_option linter.unusedVariables false
set_option linter.unusedSimpArgs false

/-! ### Two digits -/
theorem two_fin : ∀ x y : Fin 10, Op.bytesLess [UInt8.ofNat (48 + x.val), UInt8.ofNat (48 + y.val)] [48, 50] = decide (10 * x.val + y.val < 2) ∧ Op.bytesLess [UInt8.ofNat (48 + x.val), UInt8.ofNat (48 + y.val)] [57, 56] = decide (10 * x.val + y.val < 98) ∧ ([UInt8.ofNat (48 + x.val), UInt8.ofNat (48 + y.val)] == [57, 56]) = decide (10 * x.val + y.val = 98) := by decide +kernel
theorem two_cmp {l : List UInt8} (hl : l.length = 2) (hd : inL l 48 57 = true) : Op.bytesLess l [48, 50] = decide (10 * dgt l 0 + dgt l 1 < 2) ∧ Op.bytesLess l [57, 56] = decide (10 * dgt l 0 + dgt l 1 < 98) ∧ (l == [57, 56]) = decide (10 * dgt l 0 + dgt l 1 = 98) := by
  match l, hl with
  | [a, b], _ =>
    have h0 := inL_yes hd (i := 0) (by simp)
    have h1 := inL_yes hd (i := 1) (by simp)
    have e0 : byA [a, b] 0 = (a.toNat : Int) := rfl
    have e1 : byA [a, b] 1 = (b.toNat : Int) := rfl
    rw [e0] at h0; rw [e1] at h1
    have := two_fin ⟨a.toNat - 48, by omega⟩ ⟨b.toNat - 48, by omega⟩
    have ea : UInt8.ofNat (48 + (a.toNat - 48)) = a := by rw [show 48 + (a.toNat - 48) = a.toNat by omega]; exact UInt8.ofNat_toNat
    have eb : UInt8.ofNat (48 + (b.toNat - 48)) = b := by rw [show 48 + (b.toNat - 48) = b.toNat by omega]; exact UInt8.ofNat_toNat
    simp only [ea, eb] at this
    rw [this.1, this.2.1, this.2.2]
    unfold dgt
    rw [e0, e1]
    refine ⟨?_, ?_, ?_⟩
    · apply decide_eq_decide.2; omega
    · apply decide_eq_decide.2; omega
    · apply decide_eq_decide.2; omega
theorem chk_two {l : List UInt8} (h : 4 ≤ l.length) : 10 * dgt ((l.drop 2).take 2) 0 + dgt ((l.drop 2).take 2) 1 = bankC l := by
  unfold bankC dgt
  rw [byA_take (by decide), byA_take (by decide), byA_drop, byA_drop]
theorem digs_two {l : List UInt8} (h : 4 ≤ l.length) : digs ((l.drop 2).take 2) = inL ((l.drop 2).take 2) 48 57 := by
  unfold digs
  have : ((l.drop 2).take 2).isEmpty = false := by
    rw [Bool.eq_false_iff]
    intro h2
    rw [List.isEmpty_iff] at h2
    have := congrArg List.length h2
    simp at this
    omega
  rw [this]; simp
theorem isdigs_c (s : ByteArray) (w : World) (hs : s.size ≤ 9223372036854775807) :
    Calls Tryz.prog 79 #[.string s] w fun e w' => w = w' ∧ e = .returned (.bool (digs s.data.toList)) := by
  rw [← digB_digs]; exact isdig_c s w hs

theorem form_len {l : List UInt8} (h : ¬ (15 ≤ l.length ∧ l.length ≤ 34)) : bankForm l = false := by unfold bankForm; rw [decide_eq_false h]; rfl
theorem form_in {l : List UInt8} (h : 15 ≤ l.length ∧ l.length ≤ 34) : bankForm l = (inL (l.take 2) 65 90 && (inL ((l.drop 2).take 2) 48 57 && tagL (l.drop 4))) := by unfold bankForm; rw [decide_eq_true h]; rfl
theorem bank_no {l : List UInt8} (h : bankForm l = false) : bankB l = false := by unfold bankB; rw [h]; rfl
theorem bank_is {l : List UInt8} (h : bankForm l = true) : bankB l = decide (bankR l = 1 ∧ 2 ≤ bankC l ∧ bankC l ≤ 98) := by unfold bankB; rw [h]; rfl
theorem form_tag {l : List UInt8} (h : bankForm l = true) : tagL l = true := by
  have hl : 15 ≤ l.length ∧ l.length ≤ 34 := by
    rcases Classical.em (15 ≤ l.length ∧ l.length ≤ 34) with h1 | h1
    · exact h1
    · rw [form_len h1] at h; cases h
  rw [form_in hl] at h
  simp only [Bool.and_eq_true] at h
  obtain ⟨h1, h2, h3⟩ := h
  have e1 : tagL (l.take 2) = true := tag_letters h1
  have e2 : tagL ((l.drop 2).take 2) = true := by
    unfold tagL
    rw [List.all_eq_true]
    intro c hc
    obtain ⟨i, hi, rfl⟩ := List.getElem_of_mem hc
    have := inL_yes h2 hi
    rw [byA_get hi] at this
    exact decide_eq_true (.inr this)
  have e : l = l.take 2 ++ ((l.drop 2).take 2 ++ l.drop 4) := by
    have : l.drop 4 = (l.drop 2).drop 2 := by rw [List.drop_drop]
    rw [this, List.take_append_drop, List.take_append_drop]
  rw [e, tag_app, tag_app, e1, e2, h3]; rfl

def conS (s : ByteArray) (k : Nat) : Prop := s.size ≤ k
end Go.Proofs.YtfgnollclmimnaaGreatDoor

namespace Go.Proofs.YtfgnollclmimnaaGreatDoor
open Go.RowKit Limb Work
set_option linter.unusedVariables false
set_option linter.unusedSimpArgs false

theorem beqT {a b : Int} (h : a = b) : (a == b) = true := beq_iff_eq.2 h
theorem beqF {a b : Int} (h : ¬ a = b) : (a == b) = false := beq_eq_false_iff_ne.2 h
theorem dim_two {y : Int} : dim y 2 = if leapB y = true then 29 else 28 := rfl
end Go.Proofs.YtfgnollclmimnaaGreatDoor

namespace Go.Proofs.YtfgnollclmimnaaGreatDoor
open Go.RowKit Limb Work
set_option linter.unusedVariables false
set_option linter.unusedSimpArgs false

/-- What dayOf comes to. -/
def dayR (y m d : Int) : Int := if dateB y m d = true then num y m d else 0
theorem dayR_yes {y m d : Int} (h : dateB y m d = true) : dayR y m d = num y m d := if_pos h
theorem dayR_no {y m d : Int} (h : dateB y m d = false) : dayR y m d = 0 := if_neg (by rw [h]; simp)
theorem num_cum {y d : Int} {k : Nat} : num y ((k : Int) + 1) d = bef y + cum y k + d := by
  unfold num; rw [show ((k : Int) + 1 - 1).toNat = k by omega]
theorem cum_bd12 (y : Int) {k : Nat} (h : k ≤ 12) : 0 ≤ cum y k ∧ cum y k ≤ 366 := by
  have a := cum_le y (i := 0) (j := k) (by omega)
  have b := cum_le y (i := k) (j := 12) h
  have c := cum_12_bd y
  rw [cum] at a
  omega

theorem ival {a b : Int} (h : a = b) : Value.int .i64 a = .int .i64 b := by rw [h]
def RetI2 (n : Int) (b : Bool) (w : World) (e : Ending) (w' : World) : Prop := e = .returned (.tuple #[.int .i64 n, .bool b]) ∧ Below w.heap.size w w'
def RetNF (n f : Int) (w : World) (e : Ending) (w' : World) : Prop := e = .returned (.tuple #[.int .i64 n, .int .i64 f]) ∧ Below w.heap.size w w'

def RetD3 (y m d : Int) (w : World) (e : Ending) (w' : World) : Prop := e = .returned (.tuple #[.int .i64 y, .int .i64 m, .int .i64 d]) ∧ Below w.heap.size w w'
theorem Work.DateIs.year_le {day y m d v : Int} (h : DateIs day y m d) (hv : bef v < day) : v ≤ y := by
  have f := h.facts
  rcases Int.lt_or_le y v with k | k
  · have := bef_mono (a := y + 1) (b := v) (by omega); omega
  · exact k
def RetD4 (y m d f : Int) (w : World) (e : Ending) (w' : World) : Prop := e = .returned (.tuple #[.int .i64 y, .int .i64 m, .int .i64 d, .int .i64 f]) ∧ Below w.heap.size w w'
end Go.Proofs.YtfgnollclmimnaaGreatDoor

namespace Go.Proofs.YtfgnollclmimnaaGreatDoor
open Go.RowKit Limb Work Nmb
set_option linter.unusedVariables false
set_option linter.unusedSimpArgs false

theorem atoi_c (s : ByteArray) (w : World) (hs : s.size ≤ 18) (hd : digs s.data.toList = true) :
    Calls Tryz.prog 67 #[.string s] w fun e w' => e = .returned (.tuple #[.int .i64 ((dv s.data.toList : Nat) : Int), .nilIface]) ∧ Below w.heap.size w w' := by
  refine (Tryz.strconv_Atoi s _ hs (atoi_dv hd) w).mono ?_
  rintro e w' ⟨rfl, t, rfl⟩
  exact ⟨rfl, Lib.bytesWorld_below _ _ _⟩

/-! ### Parts -/
def intV (l : List Int) : List Value := l.map (Value.int .i64)
theorem intV_snoc (l : List Int) (x : Int) : intV l ++ [.int .i64 x] = intV (l ++ [x]) := by unfold intV; rw [List.map_append]; rfl
theorem intV_at {l : List Int} {j : Nat} (h : j < l.length) : (intV l)[j]? = some (.int .i64 l[j]) := by simp [intV, h]
def RetPrt (o : Option (List Int)) (w : World) (e : Ending) (w' : World) : Prop := ∃ v, e = .returned (.tuple #[v, .bool o.isSome]) ∧ Below w.heap.size w w' ∧
  ∀ xs, o = some xs → xs ≠ [] → ∃ g c, v = .slice (some ⟨g, 0, none⟩) xs.length c ∧ ∀ j, (h : j < xs.length) → w'.cell? ⟨g, j, none⟩ = some (.int .i64 xs[j])
theorem prt_none {w w' : World} {v : Value} (hb : Below w.heap.size w w') : RetPrt none w (.returned (.tuple #[v, .bool false])) w' := ⟨v, rfl, hb, fun xs h => by cases h⟩
theorem ext_from (t : ByteArray) (n : Nat) : (t.extract n t.size).data.toList = t.data.toList.drop n := by rw [Lib.extract_to_end]
theorem ext_to (t : ByteArray) (n : Nat) : (t.extract 0 n).data.toList = t.data.toList.take n := by rw [Lib.extract_data]; simp
def widths (ws : List Nat) : Prop := ∀ j, (h : j < ws.length) → 1 ≤ ws[j] ∧ ws[j] ≤ 4
/-! ### The day of a week -/
def RetO (o : Option Int) (w : World) (e : Ending) (w' : World) : Prop := ∃ n : Int, e = .returned (.tuple #[.int .i64 n, .bool o.isSome]) ∧ (∀ v, o = some v → n = v) ∧ Below w.heap.size w w'
theorem retO_none {o : Option Int} {n : Int} {w w' : World} (ho : o = none) (hb : Below w.heap.size w w') : RetO o w (.returned (.tuple #[.int .i64 n, .bool false])) w' := by subst ho; exact ⟨n, rfl, (fun v h => by cases h), hb⟩
end Go.Proofs.YtfgnollclmimnaaGreatDoor

namespace Go.Proofs.YtfgnollclmimnaaGreatDoor
open Go.RowKit Limb Nmb Work
set_option linter.unusedVariables false
set_option linter.unusedSimpArgs false

def RetNo (s : ByteArray) (w : World) (e : Ending) (w' : World) : Prop := e = .returned (.tuple #[.int .i64 (nVal s), .bool (nOk s)]) ∧ Below w.heap.size w w'
theorem nOk_no {s : ByteArray} (h : nOk s = false) (w w' : World) (hb : Below w.heap.size w w') : RetNo s w (.returned (.tuple #[.int .i64 0, .bool false])) w' := by
  unfold RetNo nVal
  rw [h]
  exact ⟨rfl, hb⟩
theorem nOk_yes {s : ByteArray} (h : nOk s = true) (w w' : World) (hb : Below w.heap.size w w') : RetNo s w (.returned (.tuple #[.int .i64 ((dv s.data.toList : Nat) : Int), .bool true])) w' := by
  unfold RetNo nVal
  rw [h]
  exact ⟨rfl, hb⟩
set_option maxHeartbeats 1000000 in
set_option maxRecDepth 100000 in
theorem number_c (s : ByteArray) (w : World) (hs : s.size ≤ 9223372036854775807) :
    Calls Tryz.prog 55 #[.string s, .int .i64 4] w (RetNo s w) := by
  have HD := Lib.hid (fun w => isdigs_c s w hs)
  by_cases h1 : s.size ≤ 4
  case neg =>
    have HN := Lib.hid (show nOk s = false by unfold nOk; rw [decide_eq_false h1]; rfl)
    have h2 : (4 : Int) < (s.size : Int) := by omega
    clear h1
    go_enter Tryz.func55, Tryz.ntmps55
    go_wp2
    go_ret2
    exact nOk_no HN.out _ _ (Below.refl _ _)
  have h2 : ¬ (4 : Int) < (s.size : Int) := by omega
  have HE : ∀ d z, digs s.data.toList = d → (decide (1 < s.size) && decide (byA s.data.toList 0 = 48)) = z → nOk s = (d && !z) := by
    intro d z h3 h4
    unfold nOk
    rw [decide_eq_true h1, h3, h4, Bool.true_and]
  have HEE := Lib.hid HE
  cases hd : digs s.data.toList with
  | false =>
    have HN := Lib.hid (show nOk s = false by rw [HE _ _ hd rfl]; rfl)
    rw [hd] at HD
    clear hd HE h1
    go_enter Tryz.func55, Tryz.ntmps55
    go_wp2_with fail
    refine (HD.out _).mono ?_
    rintro e w2 ⟨rfl, rfl⟩
    go_wp2
    go_ret2
    exact nOk_no HN.out _ _ (Below.refl _ _)
  | true =>
    rw [hd] at HD
    have HA := Lib.hid (fun w => atoi_c s w (by omega) hd)
    have h0 := (digs_yes hd).1
    have hl : s.data.toList.length = s.size := by simp
    have hz : 0 < s.size := by omega
    have hb0 : byA s.data.toList 0 = (s[0].toNat : Int) := by rw [byA_get h0]; rfl
    by_cases h5 : 1 < s.size ∧ s[0].toNat = 48
    · have HN := Lib.hid (show nOk s = false by
        rw [HE _ _ hd rfl, hb0, decide_eq_true h5.1, decide_eq_true (show (s[0].toNat : Int) = 48 by omega)]; rfl)
      obtain ⟨h5, h6⟩ := h5
      have g1 : (1 : Int) < (s.size : Int) := by omega
      have g2 : ((s[0].toNat : Int) == 48) = true := by rw [h6]; rfl
      clear hd HE h1 hb0 hl h0 h5 h6
      go_enter Tryz.func55, Tryz.ntmps55
      go_wp2_with fail
      refine (HD.out _).mono ?_
      rintro e w2 ⟨rfl, rfl⟩
      go_wp2
      go_ret2
      exact nOk_no HN.out _ _ (Below.refl _ _)
    have HN := Lib.hid (show nOk s = true by
      rw [HE _ _ hd rfl, hb0]
      by_cases h6 : 1 < s.size
      · rw [decide_eq_true h6, decide_eq_false (show ¬ (s[0].toNat : Int) = 48 from fun e => h5 ⟨h6, by omega⟩)]; rfl
      · rw [decide_eq_false h6]; rfl)
    by_cases h6 : 1 < s.size
    · have g1 : (1 : Int) < (s.size : Int) := by omega
      have g2 : ((s[0].toNat : Int) == 48) = false := by
        have : ¬ (s[0].toNat : Int) = 48 := fun e => h5 ⟨h6, by omega⟩
        simpa using this
      clear hd HE h1 hb0 hl h0 h5 h6
      go_enter Tryz.func55, Tryz.ntmps55
      go_wp2_with fail
      refine (HD.out _).mono ?_
      rintro e w2 ⟨rfl, rfl⟩
      go_wp2_with fail
      refine (HA.out _).mono ?_
      rintro e w3 ⟨rfl, hb3⟩
      go_wp2
      go_quiet (fail)
      go_wp2
      go_ret2
      exact nOk_yes HN.out _ _ (below_drewN hb3 _)
    · have g1 : ¬ (1 : Int) < (s.size : Int) := by omega
      clear hd HE h1 hb0 hl h0 h5 h6
      go_enter Tryz.func55, Tryz.ntmps55
      go_wp2_with fail
      refine (HD.out _).mono ?_
      rintro e w2 ⟨rfl, rfl⟩
      go_wp2_with fail
      refine (HA.out _).mono ?_
      rintro e w3 ⟨rfl, hb3⟩
      go_wp2
      go_quiet (fail)
      go_wp2
      go_ret2
      exact nOk_yes HN.out _ _ (below_drewN hb3 _)

theorem lit_dec (s : ByteArray) (l : List UInt8) : (s.toList == l) = decide (s = bs l) := by
  rw [Lib.toList_data, Bool.eq_iff_iff, decide_eq_true_iff, beq_iff_eq]
  exact ⟨fun h => by rw [← h, bs_self], fun h => by rw [h, bs_toList]⟩
set_option maxRecDepth 100000 in
theorem undash_c (s : ByteArray) (w : World) : Calls Tryz.prog 33 #[.string s] w fun e w' => w = w' ∧ e = .returned (.string (undS s)) := by
  have hd : (s.toList == [45]) = decide (s = ⟨#[45]⟩) := lit_dec s [45]
  by_cases h : s = ⟨#[45]⟩
  · have HU := Lib.hid (show undS s = ⟨#[]⟩ by unfold undS; rw [if_pos h]; rfl)
    rw [decide_eq_true h] at hd
    clear h
    go_enter Tryz.func33, Tryz.ntmps33
    go_wp2
    go_ret
    exact ⟨rfl, by rw [HU.out]; rfl⟩
  · have HU := Lib.hid (show undS s = s by unfold undS; rw [if_neg h])
    rw [decide_eq_false h] at hd
    clear h
    go_enter Tryz.func33, Tryz.ntmps33
    go_wp2
    go_ret
    exact ⟨rfl, by rw [HU.out]; rfl⟩

/-! ### The words -/
/-- A row of strings in memory, in a block of strings. -/
def Sts (w : World) (A : Option Addr) (L : List ByteArray) : Prop :=
  0 < L.length → ∃ (b off : Nat) (cs : Array Value) (f : Nat × Nat), A = some ⟨b, off, none⟩ ∧ w.heap[b]? = some (.cells cs 9 f) ∧ ∀ j, j < L.length → cs[off + j]? = some (.string (wd L j))
theorem Sts.keep {w w' : World} {A : Option Addr} {L : List ByteArray} (h : Sts w A L) (hk : ∀ (g : Nat) (cs : Array Value) (f : Nat × Nat), w.heap[g]? = some (.cells cs 9 f) → w'.heap[g]? = some (.cells cs 9 f)) : Sts w' A L := fun hn => by
  obtain ⟨b, off, cs, f, e, hh, hc⟩ := h hn
  exact ⟨b, off, cs, f, e, hk _ _ _ hh, hc⟩
theorem Sts.below {w w' : World} {A : Option Addr} {L : List ByteArray} (h : Sts w A L) (hb : Below w.heap.size w w') : Sts w' A L := h.keep fun _ _ _ hh => heap_below hh hb
theorem Sts.far {w : World} {A : Option Addr} {L : List ByteArray} {b i : Nat} {cs : Array Value} {T : TypeId} {f : Nat × Nat} (h : Sts w A L) (hr : w.heap[b]? = some (.cells cs T f)) (hT : 9 ≠ T) (u : Value) : Sts (w.setCell ⟨b, i, none⟩ u) A L :=
  h.keep fun _ _ _ hh => heap_far hh (heap_ne hh hr hT) u
theorem Sts.cells {w : World} {A : Option Addr} {L : List ByteArray} (h : Sts w A L) (hn : 0 < L.length) : ∃ b off, A = some ⟨b, off, none⟩ ∧ b < w.heap.size ∧ ∀ j, j < L.length → w.cell? ⟨b, off + j, none⟩ = some (.string (wd L j)) := by
  obtain ⟨b, off, cs, f, e, hh, hc⟩ := h hn
  exact ⟨b, off, e, lt_heap hh, fun j hj => (cell_of_row w b (off + j) cs 9 f hh).trans (hc j hj)⟩
/-- All blocks but one are as they were. -/
theorem grown_tr {a b c : World} {row : Option Nat} (h : a.grownBy b row) (k : b.grownBy c row) : a.grownBy c row :=
  ⟨k.os.trans h.os, k.tape.trans h.tape, k.output.trans h.output, Nat.le_trans h.size k.size, fun i hi hne => (k.block i (Nat.lt_of_lt_of_le hi h.size) hne).trans (h.block i hi hne)⟩
theorem grown_of {w w' : World} (h : Below w.heap.size w w') (row : Option Nat) : w.grownBy w' row := ⟨h.os, h.tape, h.output, h.size, fun k hk _ => h.block k hk⟩
theorem grown_set (w : World) (b i : Nat) (u : Value) : w.grownBy (w.setCell ⟨b, i, none⟩ u) (some b) :=
  ⟨rfl, rfl, rfl, by simp, fun k _ hne => Below.heap_setCell w _ u k (fun e => hne (by rw [e]))⟩
theorem grown_cell {w w' : World} {b g i : Nat} {v : Value} (h : w.grownBy w' (some b)) (hg : g < w.heap.size) (hne : g ≠ b) (hc : w.cell? ⟨g, i, none⟩ = some v) : w'.cell? ⟨g, i, none⟩ = some v := by
  have := h.block g hg (fun e => hne (by injection e))
  rw [← hc]
  simp only [World.cell?, this]
theorem grown_block {w w' : World} {b g : Nat} {o : Obj} (h : w.grownBy w' (some b)) (hne : g ≠ b) (hc : w.heap[g]? = some o) : w'.heap[g]? = some o :=
  (h.block g (lt_heap hc) (fun e => hne (by injection e))).trans hc
/-- A reader of words: those that are left, and whether something was wrong. -/
def wdO (A : Option Addr) (n c : Nat) (bad : Bool) : Obj := .cells #[.slice A n c, .bool bad] 72
def Wds (w : World) (b : Nat) (L : List ByteArray) (bad : Bool) : Prop :=
  ∃ A c, w.heap[b]? = some (.cells #[.slice A L.length c, .bool bad] 72 (0, 0)) ∧ L.length ≤ c ∧ c ≤ 9223372036854775807 ∧ Sts w A L
theorem wd_tail {L : List ByteArray} (j : Nat) : wd L.tail j = wd L (j + 1) := by
  cases L with
  | nil => rfl
  | cons a L => rfl
theorem sts_tail {w : World} {g off : Nat} {a : ByteArray} {L : List ByteArray} (h : Sts w (some ⟨g, off, none⟩) (a :: L)) : Sts w (some ⟨g, off + 1, none⟩) L := fun hn => by
  obtain ⟨b, o, cs, f, e, hh, hc⟩ := h (by simp)
  injection e with e
  injection e with e1 e2
  subst e1; subst e2
  exact ⟨_, _, cs, f, rfl, hh, fun j hj => by
    have := hc (j + 1) (by simpa using hj)
    rw [show off + 1 + j = off + (j + 1) by omega, this]
    rfl⟩
def RetNx (b : Nat) (L : List ByteArray) (bad : Bool) (v : Value) (w : World) (e : Ending) (w' : World) : Prop := e = .returned v ∧ Wds w' b L.tail bad ∧ w.grownBy w' (some b)
set_option maxRecDepth 100000 in
theorem next_c (b : Nat) (L : List ByteArray) (bad : Bool) (w : World) (h : Wds w b L bad) :
    Calls Tryz.prog 31 #[.pointer (some ⟨b, 0, none⟩)] w (RetNx b L (bad || L.isEmpty) (.string (wd L 0)) w) := by
  obtain ⟨A, c, hh, hc, hm, hs⟩ := h
  obtain ⟨g0, g1, g2, g3, g4⟩ := box2 hh
  cases L with
  | nil =>
    have HH := Lib.hid hh
    clear hh hs
    go_enter Tryz.func31, Tryz.ntmps31
    go_wp2
    go_ret
    refine ⟨rfl, ⟨A, c, ?_, hc, hm, fun hn => absurd hn (by simp)⟩, grown_set _ _ _ _⟩
    have := heap_set HH.out 1 (.bool true)
    simpa using this
  | cons a L =>
    have HST := Lib.hid hs
    obtain ⟨g, off, rfl, hg, hcs⟩ := hs.cells (by simp)
    have h0 : w.cell? ⟨g, off, none⟩ = some (.string a) := hcs 0 (by simp)
    have HH := Lib.hid hh
    have hlen : (a :: L).length = L.length + 1 := rfl
    rw [hlen] at g0 hc
    have g0' : w.cell? ⟨b, 0, none⟩ = some (.slice (some ⟨g, off, none⟩) (L.length + 1) c) := g0
    obtain ⟨n, hn⟩ : ∃ n, L.length = n := ⟨_, rfl⟩
    have HN := Lib.hid hn
    rw [hn] at g0' hc
    have i1 : (0 : Int) < ((n + 1 : Nat) : Int) := by omega
    have i2 : (((n + 1 : Nat) : Int) == 0) = false := by
      have : ¬ ((n + 1 : Nat) : Int) = 0 := by omega
      simpa using this
    clear hh hcs g0 hn hlen
    by_cases hcc : c = 1
    · subst hcc
      go_enter Tryz.func31, Tryz.ntmps31
      go_wp2
      go_ret
      obtain rfl : n = 0 := by omega
      refine ⟨rfl, ⟨some ⟨g, off, none⟩, 0, ?_, by rw [List.tail_cons, HN.out]; exact Nat.le_refl 0, by omega, fun hn => absurd hn (by rw [List.tail_cons, HN.out]; omega)⟩, grown_set _ _ _ _⟩
      have := heap_set HH.out 0 (.slice (some ⟨g, off, none⟩) 0 0)
      rw [List.tail_cons, HN.out]
      simpa using this
    · go_enter Tryz.func31, Tryz.ntmps31
      go_wp2
      go_ret
      refine ⟨rfl, ⟨some ⟨g, off + 1, none⟩, c - 1, ?_, by rw [List.tail_cons, HN.out]; omega, by omega, Sts.far (sts_tail HST.out) HH.out (by decide) _⟩, grown_set _ _ _ _⟩
      have := heap_set HH.out 0 (.slice (some ⟨g, off + 1, none⟩) n (c - 1))
      rw [List.tail_cons, HN.out]
      simpa using this

set_option maxRecDepth 100000 in
theorem wnum_c (b : Nat) (L : List ByteArray) (bad : Bool) (w : World) (hz : ∀ s ∈ L, s.size ≤ 9223372036854775807) (h : Wds w b L bad) :
    Calls Tryz.prog 32 #[.pointer (some ⟨b, 0, none⟩)] w (RetNx b L (bad || !nOk (wd L 0)) (.int .i64 (nVal (wd L 0))) w) := by
  have HX := Lib.hid (next_c b L bad w h)
  have HS := Lib.hid (number_c (wd L 0) · (wd_sz hz 0))
  have HE := Lib.hid (show (bad || L.isEmpty || !nOk (wd L 0)) = (bad || !nOk (wd L 0)) from by
    cases L with
    | nil => cases bad <;> rfl
    | cons a L => simp)
  have hbb : b < w.heap.size := by obtain ⟨A, c, hh, -⟩ := h; exact lt_heap hh
  clear h hz
  obtain ⟨NV, hNV⟩ : ∃ x, nVal (wd L 0) = x := ⟨_, rfl⟩
  obtain ⟨NO, hNO⟩ : ∃ x, nOk (wd L 0) = x := ⟨_, rfl⟩
  obtain ⟨s, hs⟩ : ∃ x, wd L 0 = x := ⟨_, rfl⟩
  unfold RetNo at HS
  rw [hs] at HX HS hNV hNO HE ⊢
  rw [hNV, hNO] at HS
  rw [hNO] at HE
  rw [hNV, hNO]
  clear hs hNV hNO
  go_enter Tryz.func32, Tryz.ntmps32
  go_wp2_with fail
  refine HX.out.mono ?_
  rintro e w2 ⟨rfl, h2, hg2⟩
  go_wp2_with fail
  refine (HS.out _).mono ?_
  rintro e w3 ⟨rfl, hb3⟩
  obtain ⟨A, c, hh, hc, hm, hst⟩ := h2
  have hh3 := heap_below hh hb3
  have HST := Lib.hid (hst.below hb3)
  have HH := Lib.hid hh3
  have HG := Lib.hid (grown_tr hg2 (grown_of hb3 (some b)))
  obtain ⟨g0, g1, g2, g3, g4⟩ := box2 hh3
  obtain ⟨n, hn⟩ : ∃ n, L.tail.length = n := ⟨_, rfl⟩
  have HN := Lib.hid hn
  rw [hn] at g0 hc
  have HC := Lib.hid hc
  obtain ⟨BB, hBB⟩ : ∃ x, (bad || L.isEmpty) = x := ⟨_, rfl⟩
  rw [hBB] at g1 HE
  clear hh hh3 hst hb3 hg2 hn hBB hc
  have HFin : ∀ x, x = (BB || !NO) → Wds (w3.setCell ⟨b, 1, none⟩ (.bool x)) b L.tail (bad || !NO) := fun x hx => by
    subst hx
    rw [← HE.out]
    refine ⟨A, c, ?_, by rw [HN.out]; exact HC.out, hm, Sts.far HST.out HH.out (by decide) _⟩
    have := heap_set HH.out 1 (.bool (BB || !NO))
    simpa using this
  have HFIN := Lib.hid HFin
  clear HFin
  cases BB with
  | true =>
    go_wp2
    go_ret
    exact ⟨rfl, HFIN.out _ rfl, grown_tr HG.out (grown_set _ _ _ _)⟩
  | false =>
    cases NO with
    | true =>
      go_wp2
      go_ret
      exact ⟨rfl, HFIN.out _ rfl, grown_tr HG.out (grown_set _ _ _ _)⟩
    | false =>
      go_wp2
      go_ret
      exact ⟨rfl, HFIN.out _ rfl, grown_tr HG.out (grown_set _ _ _ _)⟩
set_option maxRecDepth 100000 in
theorem wbyte_c (b : Nat) (L : List ByteArray) (bad : Bool) (w : World) (hz : ∀ s ∈ L, s.size ≤ 9223372036854775807) (h : Wds w b L bad) :
    Calls Tryz.prog 54 #[.pointer (some ⟨b, 0, none⟩)] w (RetNx b L (bad || !yOk (wd L 0)) (.int .u8 (nVal (wd L 0) % 256)) w) := by
  have HX := Lib.hid (wnum_c b L bad w hz h)
  have hbd := nVal_bd (wd L 0)
  have HE := Lib.hid (show ∀ x, decide (255 < nVal (wd L 0)) = x → (bad || !nOk (wd L 0) || x) = (bad || !yOk (wd L 0)) from fun x hx => by
    subst hx
    unfold yOk
    cases bad with
    | true => rfl
    | false =>
      cases nOk (wd L 0) with
      | false => rfl
      | true =>
        by_cases h : 255 < nVal (wd L 0)
        · rw [decide_eq_true h, decide_eq_false (show ¬ nVal (wd L 0) ≤ 255 by omega)]; rfl
        · rw [decide_eq_false h, decide_eq_true (show nVal (wd L 0) ≤ 255 by omega)]; rfl)
  clear h hz
  obtain ⟨YO, hYO⟩ : ∃ x, (bad || !yOk (wd L 0)) = x := ⟨_, rfl⟩
  obtain ⟨BB, hBB⟩ : ∃ x, (bad || !nOk (wd L 0)) = x := ⟨_, rfl⟩
  obtain ⟨NV, hNV⟩ : ∃ x, nVal (wd L 0) = x := ⟨_, rfl⟩
  rw [hNV, hYO, hBB] at HE
  rw [hNV, hBB] at HX
  rw [hNV] at hbd
  rw [hNV, hYO]
  clear hNV hYO hBB
  have hcv : ∀ w, (convert 3 5 (.int .i64 NV)).run Tryz.prog w = .ok (.int .u8 (NV % 256)) w := fun w => by
    rfl
  go_enter Tryz.func54, Tryz.ntmps54
  go_wp2_with fail
  refine HX.out.mono ?_
  rintro e w3 ⟨rfl, h2, hg2⟩
  obtain ⟨A, c, hh3, hc, hm, hst⟩ := h2
  have HST := Lib.hid hst
  have HH := Lib.hid hh3
  have HG := Lib.hid hg2
  obtain ⟨g0, g1, g2, g3, g4⟩ := box2 hh3
  obtain ⟨n, hn⟩ : ∃ n, L.tail.length = n := ⟨_, rfl⟩
  have HN := Lib.hid hn
  rw [hn] at g0 hc
  have HC := Lib.hid hc
  clear hh3 hst hg2 hn hc
  have HFin : ∀ x, (BB || x) = YO → ∀ z, z = (BB || x) → Wds (w3.setCell ⟨b, 1, none⟩ (.bool z)) b L.tail YO := fun x hx z hz => by
    subst hz
    subst hx
    refine ⟨A, c, ?_, by rw [HN.out]; exact HC.out, hm, Sts.far HST.out HH.out (by decide) _⟩
    have := heap_set HH.out 1 (.bool (BB || x))
    simpa using this
  have HFIN := Lib.hid HFin
  clear HFin
  cases BB with
  | true =>
    have HZ := Lib.hid (HE.out _ rfl)
    go_wp2
    go_ret
    exact ⟨rfl, HFIN.out _ HZ.out _ rfl, grown_tr HG.out (grown_set _ _ _ _)⟩
  | false =>
    by_cases h9 : 255 < NV
    · have HZ := Lib.hid (HE.out true (decide_eq_true h9))
      go_wp2
      go_ret
      exact ⟨rfl, HFIN.out _ HZ.out _ rfl, grown_tr HG.out (grown_set _ _ _ _)⟩
    · have HZ := Lib.hid (HE.out false (decide_eq_false h9))
      go_wp2
      go_ret
      exact ⟨rfl, HFIN.out _ HZ.out _ (decide_eq_false (show ¬ 255 < NV by omega)), grown_tr HG.out (grown_set _ _ _ _)⟩
end Go.Proofs.YtfgnollclmimnaaGreatDoor
