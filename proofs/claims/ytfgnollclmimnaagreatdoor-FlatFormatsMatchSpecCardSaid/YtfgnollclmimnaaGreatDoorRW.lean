/- Units in memory, and the walks of package amount: IsName, unitAt, unitFault. Rows of structs in memory; blocks of three cells. -/
import Derived.Test.YtfgnollclmimnaaGreatDoorU2
import Derived.Test.YtfgnollclmimnaaGreatDoorShelf
import Derived.Test.YtfgnollclmimnaaGreatDoorA7
import Derived.WalkLawsBesides
import Derived.Test.YtfgnollclmimnaaGreatDoorMem
-- merged: U3 RW

namespace Go.Proofs.YtfgnollclmimnaaGreatDoor
open Go.RowKit Limb
set_option linter.unusedVariables false
set_option linter.unusedSimpArgs false

/-- A slice of units as it lies in memory. -/
def Uns (w : World) (A : Option Addr) (n : Nat) (us : List Unt) : Prop :=
  us.length = n ∧ (∀ u ∈ us, (-9223372036854775808 ≤ u.num ∧ u.num ≤ 9223372036854775807) ∧ (-9223372036854775808 ≤ u.den ∧ u.den ≤ 9223372036854775807) ∧ u.name.size ≤ 9223372036854775807 ∧ u.of.size ≤ 9223372036854775807) ∧
    (0 < n → ∃ b off, A = some ⟨b, off, none⟩ ∧ b < w.heap.size ∧ ∀ j, j < n → w.cell? ⟨b, off + j * 4, none⟩ = some (.string (uA us j).name) ∧ w.cell? ⟨b, off + j * 4 + 1, none⟩ = some (.string (uA us j).of) ∧ w.cell? ⟨b, off + j * 4 + 2, none⟩ = some (.int .i64 (uA us j).num) ∧ w.cell? ⟨b, off + j * 4 + 3, none⟩ = some (.int .i64 (uA us j).den))
theorem Uns.below {w w' : World} {A : Option Addr} {n : Nat} {us : List Unt} (h : Uns w A n us) (hb : Below w.heap.size w w') : Uns w' A n us :=
  ⟨h.1, h.2.1, fun hn => by
    obtain ⟨b, off, e, hl, hc⟩ := h.2.2 hn
    exact ⟨b, off, e, Nat.lt_of_lt_of_le hl hb.size, fun j hj => ⟨(hb.cell (p := ⟨b, off + j * 4, none⟩) hl).trans (hc j hj).1, (hb.cell (p := ⟨b, off + j * 4 + 1, none⟩) hl).trans (hc j hj).2.1, (hb.cell (p := ⟨b, off + j * 4 + 2, none⟩) hl).trans (hc j hj).2.2.1, (hb.cell (p := ⟨b, off + j * 4 + 3, none⟩) hl).trans (hc j hj).2.2.2⟩⟩⟩
theorem Uns.alloc {w : World} {A : Option Addr} {n : Nat} {us : List Unt} (h : Uns w A n us) (o : Obj) : Uns (w.alloc o) A n us := h.below ((Below.refl _ _).alloc (Nat.le_refl _) o)
theorem Uns.drew {w : World} {A : Option Addr} {n : Nat} {us : List Unt} (h : Uns w A n us) : Uns w.drew A n us := h
theorem Uns.rng {w : World} {A : Option Addr} {n : Nat} {us : List Unt} (h : Uns w A n us) {j : Nat} (hj : j < n) : (-9223372036854775808 ≤ (uA us j).num ∧ (uA us j).num ≤ 9223372036854775807) ∧ (-9223372036854775808 ≤ (uA us j).den ∧ (uA us j).den ≤ 9223372036854775807) ∧ (uA us j).name.size ≤ 9223372036854775807 ∧ (uA us j).of.size ≤ 9223372036854775807 := by
  have hl : j < us.length := by rw [h.1]; exact hj
  have := h.2.1 us[j] (List.getElem_mem hl)
  rw [uA_get hl] at this
  exact this
/-- The four cells of the unit at a place. -/
theorem Uns.at_ {w : World} {A : Option Addr} {n : Nat} {us : List Unt} (h : Uns w A n us) {j : Nat} (hj : j < n) : ∃ b off, A = some ⟨b, off, none⟩ ∧ b < w.heap.size ∧ w.cell? ⟨b, off + j * 4, none⟩ = some (.string (uA us j).name) ∧ w.cell? ⟨b, off + j * 4 + 1, none⟩ = some (.string (uA us j).of) ∧ w.cell? ⟨b, off + j * 4 + 2, none⟩ = some (.int .i64 (uA us j).num) ∧ w.cell? ⟨b, off + j * 4 + 3, none⟩ = some (.int .i64 (uA us j).den) := by
  obtain ⟨b, off, e, hl, hc⟩ := h.2.2 (by omega)
  exact ⟨b, off, e, hl, hc j hj⟩

/-! ### Names -/
def nameSet : ByteArray := ⟨#[97, 98, 99, 100, 101, 102, 103, 104, 105, 106, 107, 108, 109, 110, 111, 112, 113, 114, 115, 116, 117, 118, 119, 120, 121, 122, 48, 49, 50, 51, 52, 53, 54, 55, 56, 57, 45]⟩
theorem nameSet_fin : ∀ i : Fin 256, nameSet.data.toList.contains (UInt8.ofNat i.val) = nameC (UInt8.ofNat i.val) := by decide +kernel
theorem nameSet_c (c : UInt8) : nameSet.data.toList.contains c = nameC c := by
  have := nameSet_fin ⟨c.toNat, c.toNat_lt⟩
  simp only [UInt8.ofNat_toNat] at this
  exact this
theorem dropW_nil {α : Type} (p : α → Bool) : ∀ l : List α, l.dropWhile p = [] ↔ ∀ x ∈ l, p x = true
  | [] => by simp
  | a :: l => by
    rw [List.dropWhile_cons]
    cases h : p a with
    | true => simp [h, dropW_nil p l]
    | false => simp [h]
theorem trimS_nil (l cs : List UInt8) : (Lib.trimS l cs).isEmpty = l.all (cs.contains ·) := by
  have e : Lib.trimS l cs = (l.reverse.dropWhile (cs.contains ·)).reverse.dropWhile (cs.contains ·) := rfl
  rw [e]
  cases h : l.reverse.dropWhile (cs.contains ·) with
  | nil =>
    rw [dropW_nil] at h
    have : l.all (cs.contains ·) = true := List.all_eq_true.2 fun x hx => h x (by simpa using hx)
    rw [this]; rfl
  | cons a m =>
    have h1 : cs.contains a = false := by
      have := List.head?_dropWhile_not (cs.contains ·) l.reverse
      rw [h] at this
      simpa using this
    have h2 : a ∈ l := by
      have : a ∈ l.reverse.dropWhile (cs.contains ·) := by rw [h]; simp
      have := (List.dropWhile_sublist (cs.contains ·)).subset this
      simpa using this
    have h3 : l.all (cs.contains ·) = false := by
      rw [Bool.eq_false_iff]
      intro h4
      have := List.all_eq_true.1 h4 a h2
      rw [h1] at this; cases this
    rw [h3]
    rw [Bool.eq_false_iff]
    intro h4
    rw [List.isEmpty_iff, dropW_nil] at h4
    have := h4 a (by simp)
    rw [h1] at this; cases this
theorem trim_name (l : List UInt8) : (Lib.trimS l nameSet.data.toList).isEmpty = l.all nameC := by
  rw [trimS_nil]
  congr 1
  funext c
  exact nameSet_c c
theorem head_at {s : ByteArray} (h : 0 < s.size) : s.data.toList.headD 0 = s[0] := by
  have := head_get h
  cases hl : s.data.toList with
  | nil => rw [hl] at this; cases this
  | cons a m => rw [hl] at this; injection this

def RetB (b : Bool) (w : World) (e : Ending) (w' : World) : Prop := e = .returned (.bool b) ∧ Below w.heap.size w w'
set_option maxHeartbeats 1000000 in
set_option maxRecDepth 100000 in
theorem isname_c (s : ByteArray) (w : World) (hs : s.size ≤ 9223372036854775807) :
    Calls Tryz.prog 82 #[.string s] w (RetB (nameB s.data.toList) w) := by
  have hlen : s.data.toList.length = s.size := by simp
  by_cases h1 : 1 ≤ s.size ∧ s.size ≤ 40
  · obtain ⟨h1, h2⟩ := h1
    have hh := head_at (s := s) (by omega)
    have en : nameB s.data.toList = (lowB s[0] && s.data.toList.all nameC) := by
      unfold nameB; rw [hlen, hh, decide_eq_true ⟨h1, h2⟩, Bool.true_and]
    by_cases h3 : 97 ≤ s[0].toNat ∧ s[0].toNat ≤ 122
    · have en2 : nameB s.data.toList = (Lib.trimS s.data.toList nameSet.data.toList).isEmpty := by
        rw [en, trim_name]; unfold lowB; rw [decide_eq_true h3, Bool.true_and]
      rw [en2]
      obtain ⟨h3, h4⟩ := h3
      have hcon := Tryz.strings_Trim_laid s nameSet w hs (by decide) (ascii_of_all (by decide))
      obtain ⟨r, hr⟩ : ∃ r : ByteArray, (⟨(Lib.trimS s.data.toList nameSet.data.toList).toArray⟩ : ByteArray) = r := ⟨_, rfl⟩
      have er : (Lib.trimS s.data.toList nameSet.data.toList).isEmpty = r.toList.isEmpty := by rw [← hr, Lib.toList_data]
      rw [hr] at hcon
      unfold nameSet at hcon
      rw [er]
      clear hr er en en2 hh hlen
      have h3' : ¬ (s[0].toNat : Int) < 97 := by omega
      have h4' : ¬ (122 : Int) < (s[0].toNat : Int) := by omega
      cases hb : r.toList.isEmpty with
      | true =>
        go_enter Tryz.func82, Tryz.ntmps82
        go_wp2_with (go_at_call 66; refine hcon.mono ?_; rintro e w1 ⟨rfl, hb1⟩)
        go_ret
        exact ⟨rfl, hb1⟩
      | false =>
        go_enter Tryz.func82, Tryz.ntmps82
        go_wp2_with (go_at_call 66; refine hcon.mono ?_; rintro e w1 ⟨rfl, hb1⟩)
        go_ret
        exact ⟨rfl, hb1⟩
    · have en2 : nameB s.data.toList = false := by rw [en]; unfold lowB; rw [decide_eq_false h3]; rfl
      rw [en2]
      clear en en2 hh hlen
      by_cases h4 : s[0].toNat < 97
      · have h4' : (s[0].toNat : Int) < 97 := by omega
        clear h3
        go_enter Tryz.func82, Tryz.ntmps82
        go_wp2
        go_ret
        exact ⟨rfl, Below.refl _ _⟩
      · have h4' : ¬ (s[0].toNat : Int) < 97 := by omega
        have h5' : (122 : Int) < (s[0].toNat : Int) := by omega
        clear h3 h4
        go_enter Tryz.func82, Tryz.ntmps82
        go_wp2
        go_ret
        exact ⟨rfl, Below.refl _ _⟩
  · have en : nameB s.data.toList = false := by unfold nameB; rw [hlen, decide_eq_false h1]; rfl
    rw [en]
    clear en hlen
    by_cases h2 : s.size < 1
    · clear h1
      go_enter Tryz.func82, Tryz.ntmps82
      go_wp2
      go_ret
      exact ⟨rfl, Below.refl _ _⟩
    · have h3 : 40 < s.size := by omega
      clear h1
      go_enter Tryz.func82, Tryz.ntmps82
      go_wp2
      go_ret
      exact ⟨rfl, Below.refl _ _⟩

/-! ### The search -/
def Unt.val (u : Unt) : Value := .agg #[.string u.name, .string u.of, .int .i64 u.num, .int .i64 u.den]
/-- The first i units are before a name, and those from j on are not. -/
def SplitU (us : List Unt) (x : List UInt8) (i j : Nat) : Prop := (∀ p, p < i → Lib.compareBytes (nmU us p) x < 0) ∧ (∀ p, j ≤ p → p < us.length → ¬ Lib.compareBytes (nmU us p) x < 0)
theorem SplitU.up {us : List Unt} {x : List UInt8} {i j m : Nat} (hs : SortU us) (h : SplitU us x i j) (hm : m < us.length) (hd : Lib.compareBytes (nmU us m) x < 0) : SplitU us x (m + 1) j := by
  refine ⟨fun p hp => ?_, h.2⟩
  rcases Nat.lt_or_ge p m with h1 | h1
  · exact cb_trans (hs p m h1 hm) hd
  · rw [show p = m by omega]; exact hd
theorem SplitU.down {us : List Unt} {x : List UInt8} {i j m : Nat} (hs : SortU us) (h : SplitU us x i j) (hd : ¬ Lib.compareBytes (nmU us m) x < 0) : SplitU us x i m := by
  refine ⟨h.1, fun p hp hpn => ?_⟩
  rcases Nat.eq_or_lt_of_le hp with h1 | h1
  · rw [← h1]; exact hd
  · intro h2
    exact hd (cb_trans (hs m p h1 hpn) h2)
/-- What the search comes to: where the name stands, and whether it does. -/
def foundU (us : List Unt) (x : List UInt8) : Bool := (idxU us x).isSome
theorem SplitU.end_ {us : List Unt} {x : List UInt8} {i : Nat} (hs : SortU us) (h : SplitU us x i i) :
    foundU us x = decide (i < us.length ∧ Lib.compareBytes (nmU us i) x = 0) ∧ (foundU us x = true → idxU us x = some i) := by
  have key : foundU us x = true → i < us.length ∧ nmU us i = x ∧ idxU us x = some i := by
    intro hf
    unfold foundU at hf
    obtain ⟨k, hk⟩ := Option.isSome_iff_exists.1 hf
    obtain ⟨h1, h2⟩ := idxU_some hk
    rcases Nat.lt_trichotomy k i with h3 | h3 | h3
    · have := h.1 k h3; rw [h2, cb_self] at this; omega
    · subst h3; exact ⟨h1, h2, hk⟩
    · have h4 := h.2 i (Nat.le_refl _) (by omega)
      have h5 := hs i k h3 h1
      rw [h2] at h5
      exact absurd h5 h4
  constructor
  · rw [Bool.eq_iff_iff, decide_eq_true_iff]
    constructor
    · intro hf
      obtain ⟨h1, h2, _⟩ := key hf
      exact ⟨h1, by rw [h2]; exact cb_self x⟩
    · rintro ⟨h1, h2⟩
      unfold foundU
      rw [idxU_of hs h1 (cb_eq h2)]; rfl
  · intro hf
    exact (key hf).2.2

/-- What unitAt comes to. -/
def AtU (us : List Unt) (x : List UInt8) (n : Nat) (w : World) (e : Ending) (w' : World) : Prop :=
  Below w.heap.size w w' ∧ ∃ i : Nat, i ≤ n ∧ e = .returned (.tuple #[.int .i64 (i : Int), .bool (foundU us x)]) ∧ (foundU us x = true → idxU us x = some i)
end Go.Proofs.YtfgnollclmimnaaGreatDoor

namespace Go.Proofs.YtfgnollclmimnaaGreatDoor
open Go.RowKit Limb
set_option linter.unusedVariables false

/-- A row of n structs of k cells each, as it lies in memory. -/
def Rws (w : World) (A : Option Addr) (k n : Nat) (f : Nat → Nat → Value) : Prop :=
  0 < n → ∃ b off, A = some ⟨b, off, none⟩ ∧ b < w.heap.size ∧ ∀ j, j < n → ∀ i, i < k → w.cell? ⟨b, off + j * k + i, none⟩ = some (f j i)
theorem Rws.below {w w' : World} {A : Option Addr} {k n : Nat} {f : Nat → Nat → Value} (h : Rws w A k n f) (hb : Below w.heap.size w w') : Rws w' A k n f := fun hn => by
  obtain ⟨b, off, e, hl, hc⟩ := h hn
  exact ⟨b, off, e, Nat.lt_of_lt_of_le hl hb.size, fun j hj i hi => (hb.cell (p := ⟨b, off + j * k + i, none⟩) hl).trans (hc j hj i hi)⟩
theorem Rws.get {w : World} {A : Option Addr} {k n : Nat} {f : Nat → Nat → Value} (h : Rws w A k n f) {j : Nat} (hj : j < n) : ∃ b off, A = some ⟨b, off, none⟩ ∧ b < w.heap.size ∧ ∀ i, i < k → w.cell? ⟨b, off + j * k + i, none⟩ = some (f j i) := by
  obtain ⟨b, off, e, hl, hc⟩ := h (by omega)
  exact ⟨b, off, e, hl, hc j hj⟩

/-- What the walk wants of blocks of three and of five cells of the call's own. -/
theorem obox3 {w : World} {g : Nat} {x y z : Value} {T : TypeId} (h : w.heap[g]? = some (.cells #[x, y, z] T (0, 0))) :
    (w.cell? ⟨g, 0, none⟩ = some x ∧ w.cell? ⟨g, 1, none⟩ = some y ∧ w.cell? ⟨g, 2, none⟩ = some z) ∧ (w.frozen? ⟨g, 0, none⟩ = false ∧ w.frozen? ⟨g, 1, none⟩ = false ∧ w.frozen? ⟨g, 2, none⟩ = false) ∧ g < w.heap.size :=
  ⟨⟨cell_of_row w g 0 _ _ _ h, cell_of_row w g 1 _ _ _ h, cell_of_row w g 2 _ _ _ h⟩, ⟨by simp [World.frozen?, h], by simp [World.frozen?, h], by simp [World.frozen?, h]⟩, lt_heap h⟩
end Go.Proofs.YtfgnollclmimnaaGreatDoor
