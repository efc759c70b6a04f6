/- The walks of package amount's days: numbers out of digits, parts, the day of a week. The walks of package flat's words, and of kit's Number, Undash. -/
import Derived.Test.YtcfhaljkemaefaaGreatDoorM0
import Derived.Test.YtcfhaljkemaefaaGreatDoorE2
import Derived.Test.YtcfhaljkemaefaaGreatDoorShelf2
import Derived.Lib.AtoiErrMem
-- merged: M1 F9

namespace Go.Proofs.YtcfhaljkemaefaaGreatDoor
open Go.RowKit Limb Work Nmb
set_option linter.unusedVariables false
set_option linter.unusedSimpArgs false

theorem atoi_c (s : ByteArray) (w : World) (hs : s.size ≤ 18) (hd : digs s.data.toList = true) :
    Calls Tryz.prog 68 #[.string s] w fun e w' => e = .returned (.tuple #[.int .i64 ((dv s.data.toList : Nat) : Int), .nilIface]) ∧ Below w.heap.size w w' := by
  refine (Tryz.strconv_Atoi s _ hs (atoi_dv hd) w).mono ?_
  rintro e w' ⟨rfl, t, rfl⟩
  exact ⟨rfl, Lib.bytesWorld_below _ _ _⟩

/-! ### Parts -/
def intV (l : List Int) : List Value := l.map (Value.int .i64)
theorem intV_snoc (l : List Int) (x : Int) : intV l ++ [.int .i64 x] = intV (l ++ [x]) := by unfold intV; rw [List.map_append]; rfl
theorem intV_at {l : List Int} {j : Nat} (h : j < l.length) : (intV l)[j]? = some (.int .i64 l[j]) := by simp [intV, h]
def RetPrt (o : Option (List Int)) (w : World) (e : Ending) (w' : World) : Prop := ∃ v, e = .returned (.tuple #[v, .bool o.isSome]) ∧ Below w.heap.size w w' ∧
  ∀ xs, o = some xs → xs ≠ [] → ∃ g c, v = .slice (some ⟨g, 0, none⟩) xs.length c ∧ ∀ j, (h : j < xs.length) → w'.cell? ⟨g, j, none⟩ = some (.int .i64 xs[j])
theorem prt_none {w w' : World} {v : Value} (hb : Below w.heap.size w w') : RetPrt none w (.returned (.tuple #[v, .bool false])) w' := ⟨v, rfl, hb, fun xs h => by cases h⟩
theorem ext_from (t : ByteArray) (n : Nat) : (t.extract n t.size).data.toList = t.data.toList.drop n := by rw [Lib.extract_to_end]
theorem ext_to (t : ByteArray) (n : Nat) : (t.extract 0 n).data.toList = t.data.toList.take n := by rw [Lib.extract_data]; simp
def widths (ws : List Nat) : Prop := ∀ j, (h : j < ws.length) → 1 ≤ ws[j] ∧ ws[j] ≤ 4
/-! ### The day of a week -/
def RetO (o : Option Int) (w : World) (e : Ending) (w' : World) : Prop := ∃ n : Int, e = .returned (.tuple #[.int .i64 n, .bool o.isSome]) ∧ (∀ v, o = some v → n = v) ∧ Below w.heap.size w w'
theorem retO_none {o : Option Int} {n : Int} {w w' : World} (ho : o = none) (hb : Below w.heap.size w w') : RetO o w (.returned (.tuple #[.int .i64 n, .bool false])) w' := by subst ho; exact ⟨n, rfl, (fun v h => by cases h), hb⟩
end Go.Proofs.YtcfhaljkemaefaaGreatDoor

namespace Go.Proofs.YtcfhaljkemaefaaGreatDoor
open Go.RowKit Limb Nmb Work
set_option linter.unusedVariables false
set_option linter.unusedSimpArgs false

def RetNo (s : ByteArray) (w : World) (e : Ending) (w' : World) : Prop := e = .returned (.tuple #[.int .i64 (nVal s), .bool (nOk s)]) ∧ Below w.heap.size w w'
theorem nOk_no {s : ByteArray} (h : nOk s = false) (w w' : World) (hb : Below w.heap.size w w') : RetNo s w (.returned (.tuple #[.int .i64 0, .bool false])) w' := by
  unfold RetNo nVal
  rw [h]
  exact ⟨rfl, hb⟩
theorem nOk_yes {s : ByteArray} (h : nOk s = true) (w w' : World) (hb : Below w.heap.size w w') : RetNo s w (.returned (.tuple #[.int .i64 ((dv s.data.toList : Nat) : Int), .bool true])) w' := by
  unfold RetNo nVal
  rw [h]
  exact ⟨rfl, hb⟩
set_option maxHeartbeats 1000000 in
set_option maxRecDepth 100000 in
theorem number_c (s : ByteArray) (w : World) (hs : s.size ≤ 9223372036854775807) :
    Calls Tryz.prog 40 #[.string s, .int .i64 4] w (RetNo s w) := by
  have HD := Lib.hid (fun w => isdigs_c s w hs)
  by_cases h1 : s.size ≤ 4
  case neg =>
    have HN := Lib.hid (show nOk s = false by unfold nOk; rw [decide_eq_false h1]; rfl)
    have h2 : (4 : Int) < (s.size : Int) := by omega
    clear h1
    go_enter Tryz.func40, Tryz.ntmps40
    go_wp2
    go_ret2
    exact nOk_no HN.out _ _ (Below.refl _ _)
  have h2 : ¬ (4 : Int) < (s.size : Int) := by omega
  have HE : ∀ d z, digs s.data.toList = d → (decide (1 < s.size) && decide (byA s.data.toList 0 = 48)) = z → nOk s = (d && !z) := by
    intro d z h3 h4
    unfold nOk
    rw [decide_eq_true h1, h3, h4, Bool.true_and]
  have HEE := Lib.hid HE
  cases hd : digs s.data.toList with
  | false =>
    have HN := Lib.hid (show nOk s = false by rw [HE _ _ hd rfl]; rfl)
    rw [hd] at HD
    clear hd HE h1
    go_enter Tryz.func40, Tryz.ntmps40
    go_wp2_with fail
    refine (HD.out _).mono ?_
    rintro e w2 ⟨rfl, rfl⟩
    go_wp2
    go_ret2
    exact nOk_no HN.out _ _ (Below.refl _ _)
  | true =>
    rw [hd] at HD
    have HA := Lib.hid (fun w => atoi_c s w (by omega) hd)
    have h0 := (digs_yes hd).1
    have hl : s.data.toList.length = s.size := by simp
    have hz : 0 < s.size := by omega
    have hb0 : byA s.data.toList 0 = (s[0].toNat : Int) := by rw [byA_get h0]; rfl
    by_cases h5 : 1 < s.size ∧ s[0].toNat = 48
    · have HN := Lib.hid (show nOk s = false by
        rw [HE _ _ hd rfl, hb0, decide_eq_true h5.1, decide_eq_true (show (s[0].toNat : Int) = 48 by omega)]; rfl)
      obtain ⟨h5, h6⟩ := h5
      have g1 : (1 : Int) < (s.size : Int) := by omega
      have g2 : ((s[0].toNat : Int) == 48) = true := by rw [h6]; rfl
      clear hd HE h1 hb0 hl h0 h5 h6
      go_enter Tryz.func40, Tryz.ntmps40
      go_wp2_with fail
      refine (HD.out _).mono ?_
      rintro e w2 ⟨rfl, rfl⟩
      go_wp2
      go_ret2
      exact nOk_no HN.out _ _ (Below.refl _ _)
    have HN := Lib.hid (show nOk s = true by
      rw [HE _ _ hd rfl, hb0]
      by_cases h6 : 1 < s.size
      · rw [decide_eq_true h6, decide_eq_false (show ¬ (s[0].toNat : Int) = 48 from fun e => h5 ⟨h6, by omega⟩)]; rfl
      · rw [decide_eq_false h6]; rfl)
    by_cases h6 : 1 < s.size
    · have g1 : (1 : Int) < (s.size : Int) := by omega
      have g2 : ((s[0].toNat : Int) == 48) = false := by
        have : ¬ (s[0].toNat : Int) = 48 := fun e => h5 ⟨h6, by omega⟩
        simpa using this
      clear hd HE h1 hb0 hl h0 h5 h6
      go_enter Tryz.func40, Tryz.ntmps40
      go_wp2_with fail
      refine (HD.out _).mono ?_
      rintro e w2 ⟨rfl, rfl⟩
      go_wp2_with fail
      refine (HA.out _).mono ?_
      rintro e w3 ⟨rfl, hb3⟩
      go_wp2
      go_quiet (fail)
      go_wp2
      go_ret2
      exact nOk_yes HN.out _ _ (below_drewN hb3 _)
    · have g1 : ¬ (1 : Int) < (s.size : Int) := by omega
      clear hd HE h1 hb0 hl h0 h5 h6
      go_enter Tryz.func40, Tryz.ntmps40
      go_wp2_with fail
      refine (HD.out _).mono ?_
      rintro e w2 ⟨rfl, rfl⟩
      go_wp2_with fail
      refine (HA.out _).mono ?_
      rintro e w3 ⟨rfl, hb3⟩
      go_wp2
      go_quiet (fail)
      go_wp2
      go_ret2
      exact nOk_yes HN.out _ _ (below_drewN hb3 _)

theorem lit_dec (s : ByteArray) (l : List UInt8) : (s.toList == l) = decide (s = bs l) := by
  rw [Lib.toList_data, Bool.eq_iff_iff, decide_eq_true_iff, beq_iff_eq]
  exact ⟨fun h => by rw [← h, bs_self], fun h => by rw [h, bs_toList]⟩
/-! ### The words -/
/-- A row of strings in memory, in a block of strings. -/
def Sts (w : World) (A : Option Addr) (L : List ByteArray) : Prop :=
  0 < L.length → ∃ (b off : Nat) (cs : Array Value) (f : Nat × Nat), A = some ⟨b, off, none⟩ ∧ w.heap[b]? = some (.cells cs 9 f) ∧ ∀ j, j < L.length → cs[off + j]? = some (.string (wd L j))
theorem Sts.keep {w w' : World} {A : Option Addr} {L : List ByteArray} (h : Sts w A L) (hk : ∀ (g : Nat) (cs : Array Value) (f : Nat × Nat), w.heap[g]? = some (.cells cs 9 f) → w'.heap[g]? = some (.cells cs 9 f)) : Sts w' A L := fun hn => by
  obtain ⟨b, off, cs, f, e, hh, hc⟩ := h hn
  exact ⟨b, off, cs, f, e, hk _ _ _ hh, hc⟩
theorem Sts.below {w w' : World} {A : Option Addr} {L : List ByteArray} (h : Sts w A L) (hb : Below w.heap.size w w') : Sts w' A L := h.keep fun _ _ _ hh => heap_below hh hb
theorem Sts.far {w : World} {A : Option Addr} {L : List ByteArray} {b i : Nat} {cs : Array Value} {T : TypeId} {f : Nat × Nat} (h : Sts w A L) (hr : w.heap[b]? = some (.cells cs T f)) (hT : 9 ≠ T) (u : Value) : Sts (w.setCell ⟨b, i, none⟩ u) A L :=
  h.keep fun _ _ _ hh => heap_far hh (heap_ne hh hr hT) u
theorem Sts.cells {w : World} {A : Option Addr} {L : List ByteArray} (h : Sts w A L) (hn : 0 < L.length) : ∃ b off, A = some ⟨b, off, none⟩ ∧ b < w.heap.size ∧ ∀ j, j < L.length → w.cell? ⟨b, off + j, none⟩ = some (.string (wd L j)) := by
  obtain ⟨b, off, cs, f, e, hh, hc⟩ := h hn
  exact ⟨b, off, e, lt_heap hh, fun j hj => (cell_of_row w b (off + j) cs 9 f hh).trans (hc j hj)⟩
/-- All blocks but one are as they were. -/
theorem grown_tr {a b c : World} {row : Option Nat} (h : a.grownBy b row) (k : b.grownBy c row) : a.grownBy c row :=
  ⟨k.os.trans h.os, k.tape.trans h.tape, k.output.trans h.output, Nat.le_trans h.size k.size, fun i hi hne => (k.block i (Nat.lt_of_lt_of_le hi h.size) hne).trans (h.block i hi hne)⟩
theorem grown_of {w w' : World} (h : Below w.heap.size w w') (row : Option Nat) : w.grownBy w' row := ⟨h.os, h.tape, h.output, h.size, fun k hk _ => h.block k hk⟩
theorem grown_set (w : World) (b i : Nat) (u : Value) : w.grownBy (w.setCell ⟨b, i, none⟩ u) (some b) :=
  ⟨rfl, rfl, rfl, by simp, fun k _ hne => Below.heap_setCell w _ u k (fun e => hne (by rw [e]))⟩
theorem grown_cell {w w' : World} {b g i : Nat} {v : Value} (h : w.grownBy w' (some b)) (hg : g < w.heap.size) (hne : g ≠ b) (hc : w.cell? ⟨g, i, none⟩ = some v) : w'.cell? ⟨g, i, none⟩ = some v := by
  have := h.block g hg (fun e => hne (by injection e))
  rw [← hc]
  simp only [World.cell?, this]
theorem grown_block {w w' : World} {b g : Nat} {o : Obj} (h : w.grownBy w' (some b)) (hne : g ≠ b) (hc : w.heap[g]? = some o) : w'.heap[g]? = some o :=
  (h.block g (lt_heap hc) (fun e => hne (by injection e))).trans hc
theorem wd_tail {L : List ByteArray} (j : Nat) : wd L.tail j = wd L (j + 1) := by
  cases L with
  | nil => rfl
  | cons a L => rfl
theorem sts_tail {w : World} {g off : Nat} {a : ByteArray} {L : List ByteArray} (h : Sts w (some ⟨g, off, none⟩) (a :: L)) : Sts w (some ⟨g, off + 1, none⟩) L := fun hn => by
  obtain ⟨b, o, cs, f, e, hh, hc⟩ := h (by simp)
  injection e with e
  injection e with e1 e2
  subst e1; subst e2
  exact ⟨_, _, cs, f, rfl, hh, fun j hj => by
    have := hc (j + 1) (by simpa using hj)
    rw [show off + 1 + j = off + (j + 1) by omega, this]
    rfl⟩
end Go.Proofs.YtcfhaljkemaefaaGreatDoor
