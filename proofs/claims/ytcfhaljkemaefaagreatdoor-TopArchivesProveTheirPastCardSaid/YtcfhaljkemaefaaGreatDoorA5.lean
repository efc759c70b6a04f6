/- What the amounts' functions compute, in plain numbers. No program in sight. The walks of package amount: CheckDecimal, CheckDecimals. The walks of package amount: Value, Made, Compare, Sum. The walk of package amount: Sum. The walk of awake: ReadText at one text. The walks of Cut at one byte, isWhole, read, ReadText. -/
import Derived.Test.YtcfhaljkemaefaaGreatDoorMem
import Derived.Test.YtcfhaljkemaefaaGreatDoorW9
import Derived.Deep.RegionWith
import Derived.Lib.Strings
import Derived.Lib.IndexBytes
import Derived.Lib.Bytealg
import Derived.Lib.IndexLaws
-- merged: Spec A1 A2 A3 A4 A5

namespace Go.Proofs.YtcfhaljkemaefaaGreatDoor
open Go.RowKit Limb

/-- A right decimal. -/
def decB (u p : Int) : Bool := decide (-1000000000000000 ≤ u ∧ u ≤ 1000000000000000 ∧ 0 ≤ p ∧ p ≤ 9)
theorem decB_mk {u p : Int} (h : -1000000000000000 ≤ u ∧ u ≤ 1000000000000000 ∧ 0 ≤ p ∧ p ≤ 9) : decB u p = true := decide_eq_true h
theorem decB_out {u p : Int} (h : decB u p = true) : -1000000000000000 ≤ u ∧ u ≤ 1000000000000000 ∧ 0 ≤ p ∧ p ≤ 9 := of_decide_eq_true h
theorem decB_not {u p : Int} (h : decB u p = false) : ¬ (-1000000000000000 ≤ u ∧ u ≤ 1000000000000000 ∧ 0 ≤ p ∧ p ≤ 9) := of_decide_eq_false h

/-- The units of a decimal with more places. -/
def scaled (u p : Int) (q : Nat) : Int := u * ((10 ^ (q - p.toNat) : Nat) : Int)

theorem scaled_bound {u p : Int} {q : Nat} (hu : -1000000000000000 ≤ u ∧ u ≤ 1000000000000000) (hq : q ≤ 9) : -1000000000000000000000000 ≤ scaled u p q ∧ scaled u p q ≤ 1000000000000000000000000 := by
  unfold scaled
  have h1 : 10 ^ (q - p.toNat) ≤ 10 ^ 9 := Nat.pow_le_pow_right (by omega) (by omega)
  have h0 : 0 < 10 ^ (q - p.toNat) := Nat.pow_pos (by omega)
  generalize 10 ^ (q - p.toNat) = k at *
  have h2 : u * (k : Int) ≤ 1000000000000000 * k := Int.mul_le_mul_of_nonneg_right hu.2 (by omega)
  have h3 : -1000000000000000 * (k : Int) ≤ u * k := Int.mul_le_mul_of_nonneg_right hu.1 (by omega)
  omega

def dU (ds : List (Int × Int)) (j : Nat) : Int := (ds.getD j (0, 0)).1
def dP (ds : List (Int × Int)) (j : Nat) : Int := (ds.getD j (0, 0)).2

/-- A slice of decimals as it lies in memory. -/
def Decs (w : World) (A : Option Addr) (n : Nat) (ds : List (Int × Int)) : Prop :=
  ds.length = n ∧ (∀ d ∈ ds, (-9223372036854775808 ≤ d.1 ∧ d.1 ≤ 9223372036854775807) ∧ (-9223372036854775808 ≤ d.2 ∧ d.2 ≤ 9223372036854775807)) ∧
    (0 < n → ∃ b off, A = some ⟨b, off, none⟩ ∧ b < w.heap.size ∧ ∀ j, j < n → w.cell? ⟨b, off + j * 2, none⟩ = some (.int .i64 (dU ds j)) ∧ w.cell? ⟨b, off + j * 2 + 1, none⟩ = some (.int .i64 (dP ds j)))
theorem Decs.below {w w' : World} {A : Option Addr} {n : Nat} {ds : List (Int × Int)} (h : Decs w A n ds) (hb : Below w.heap.size w w') : Decs w' A n ds :=
  ⟨h.1, h.2.1, fun hn => by
    obtain ⟨b, off, e, hl, hc⟩ := h.2.2 hn
    exact ⟨b, off, e, Nat.lt_of_lt_of_le hl hb.size, fun j hj => ⟨(hb.cell (p := ⟨b, off + j * 2, none⟩) hl).trans (hc j hj).1, (hb.cell (p := ⟨b, off + j * 2 + 1, none⟩) hl).trans (hc j hj).2⟩⟩⟩
theorem Decs.alloc {w : World} {A : Option Addr} {n : Nat} {ds : List (Int × Int)} (h : Decs w A n ds) (o : Obj) : Decs (w.alloc o) A n ds := h.below ((Below.refl _ _).alloc (Nat.le_refl _) o)
theorem dec_get {ds : List (Int × Int)} {j : Nat} (h : j < ds.length) : ds[j] = (dU ds j, dP ds j) := by
  unfold dU dP
  rw [List.getD_eq_getElem?_getD, List.getElem?_eq_getElem h]
  rfl
theorem Decs.rng {w : World} {A : Option Addr} {n : Nat} {ds : List (Int × Int)} (h : Decs w A n ds) {j : Nat} (hj : j < n) : (-9223372036854775808 ≤ dU ds j ∧ dU ds j ≤ 9223372036854775807) ∧ (-9223372036854775808 ≤ dP ds j ∧ dP ds j ≤ 9223372036854775807) := by
  have hl : j < ds.length := by rw [h.1]; exact hj
  have := h.2.1 ds[j] (List.getElem_mem hl)
  rw [dec_get hl] at this
  exact this

/-- All are right. -/
def allB (ds : List (Int × Int)) : Bool := ds.all fun d => decB d.1 d.2
theorem allB_at {ds : List (Int × Int)} (h : allB ds = true) {j : Nat} (hj : j < ds.length) : decB (dU ds j) (dP ds j) = true := by
  have := List.all_eq_true.1 h ds[j] (List.getElem_mem hj)
  rw [dec_get hj] at this
  exact this
theorem allB_bad {ds : List (Int × Int)} (h : allB ds = false) : ∃ j, j < ds.length ∧ decB (dU ds j) (dP ds j) = false ∧ ∀ i, i < j → decB (dU ds i) (dP ds i) = true := by
  induction ds with
  | nil => simp [allB] at h
  | cons d ds ih =>
    by_cases hd : decB d.1 d.2 = true
    · have h2 : allB ds = false := by simpa [allB, hd] using h
      obtain ⟨j, hj, h3, h4⟩ := ih h2
      refine ⟨j + 1, by simpa using hj, ?_, ?_⟩
      · simpa [dU, dP, List.getD_eq_getElem?_getD] using h3
      · intro i hi
        cases i with
        | zero => simpa [dU, dP, List.getD_eq_getElem?_getD] using hd
        | succ i => simpa [dU, dP, List.getD_eq_getElem?_getD] using h4 i (by omega)
    · exact ⟨0, by simp, by simpa [dU, dP, List.getD_eq_getElem?_getD] using hd, fun i hi => by omega⟩

/-- The decimal with so many units and places: units, places, fault. -/
def made (z p : Int) : Int × Int × Int := if z.natAbs ≤ 1000000000000000 then (z, p, 0) else (0, 0, 1)
/-- What a function that returns a decimal and a fault comes to. -/
def RetD (r : Int × Int × Int) (w : World) (e : Ending) (w' : World) : Prop :=
  e = .returned (.tuple #[.agg #[.int .i64 r.1, .int .i64 r.2.1], .int .i64 r.2.2]) ∧ Below w.heap.size w w'

/-- The exact sum of decimals. -/
def maxP (ds : List (Int × Int)) : Int := ds.foldl (fun m d => max m d.2) 0
def sumZ (ds : List (Int × Int)) (q : Nat) : Int := ds.foldl (fun z d => z + scaled d.1 d.2 q) 0
def sumR (ds : List (Int × Int)) : Int × Int × Int :=
  if 1000 < ds.length then (0, 0, 2) else if allB ds then made (sumZ ds (maxP ds).toNat) (maxP ds) else (0, 0, 1)

theorem foldl_snoc {α β : Type} (f : β → α → β) (b : β) (l : List α) (k : Nat) (h : k < l.length) : (l.take (k + 1)).foldl f b = f ((l.take k).foldl f b) l[k] := by
  rw [List.take_succ_eq_append_getElem h, List.foldl_append]; rfl
theorem maxP_step {ds : List (Int × Int)} {j : Nat} (h : j < ds.length) : maxP (ds.take (j + 1)) = max (maxP (ds.take j)) (dP ds j) := by
  unfold maxP; rw [foldl_snoc _ _ _ _ h, dec_get h]
theorem sumZ_step {ds : List (Int × Int)} {q j : Nat} (h : j < ds.length) : sumZ (ds.take (j + 1)) q = sumZ (ds.take j) q + scaled (dU ds j) (dP ds j) q := by
  unfold sumZ; rw [foldl_snoc _ _ _ _ h, dec_get h]
theorem maxP_bound {ds : List (Int × Int)} (h : allB ds = true) : ∀ j, j ≤ ds.length → 0 ≤ maxP (ds.take j) ∧ maxP (ds.take j) ≤ 9 := by
  intro j
  induction j with
  | zero => intro _; simp [maxP]
  | succ j ih =>
    intro hj
    rw [maxP_step (by omega)]
    have := ih (by omega)
    have h2 := decB_out (allB_at h (j := j) (by omega))
    omega
theorem maxP_ge {ds : List (Int × Int)} : ∀ k j, j < k → k ≤ ds.length → dP ds j ≤ maxP (ds.take k) := by
  intro k
  induction k with
  | zero => intro j h; omega
  | succ k ih =>
    intro j hj hk
    rw [maxP_step (by omega)]
    rcases Nat.lt_or_ge j k with h | h
    · have := ih j h (by omega); omega
    · have : j = k := by omega
      subst this; omega
theorem sumZ_bound {ds : List (Int × Int)} {q : Nat} (h : allB ds = true) (hq : q ≤ 9) : ∀ j : Nat, j ≤ ds.length → -1000000000000000000000000 * (j : Int) ≤ sumZ (ds.take j) q ∧ sumZ (ds.take j) q ≤ 1000000000000000000000000 * (j : Int) := by
  intro j
  induction j with
  | zero => intro _; simp [sumZ]
  | succ j ih =>
    intro hj
    rw [sumZ_step (by omega)]
    have := ih (by omega)
    have h2 := decB_out (allB_at h (j := j) (by omega))
    have h3 := scaled_bound (u := dU ds j) (p := dP ds j) (q := q) (by omega) hq
    omega

theorem decs_two (w : World) {u p v q : Int} {g : Nat} (t : TypeId) (hg : g = w.heap.size) (hu : -9223372036854775808 ≤ u ∧ u ≤ 9223372036854775807) (hp : -9223372036854775808 ≤ p ∧ p ≤ 9223372036854775807) (hv : -9223372036854775808 ≤ v ∧ v ≤ 9223372036854775807) (hq : -9223372036854775808 ≤ q ∧ q ≤ 9223372036854775807) :
    Decs (w.alloc (.cells #[.int .i64 u, .int .i64 p, .int .i64 v, .int .i64 q] t)) (some ⟨g, 0, none⟩) 2 [(u, p), (v, q)] := by
  subst hg
  refine ⟨rfl, fun d hd => ?_, fun _ => ⟨w.heap.size, 0, rfl, by simp, fun j hj => ?_⟩⟩
  · simp at hd
    rcases hd with rfl | rfl
    · exact ⟨hu, hp⟩
    · exact ⟨hv, hq⟩
  · have hB := heap_new w (.cells #[.int .i64 u, .int .i64 p, .int .i64 v, .int .i64 q] t) rfl
    match j, hj with
    | 0, _ => exact ⟨cell_of_row _ _ 0 _ _ _ hB, cell_of_row _ _ 1 _ _ _ hB⟩
    | 1, _ => exact ⟨cell_of_row _ _ 2 _ _ _ hB, cell_of_row _ _ 3 _ _ _ hB⟩
theorem allB_two {u p v q : Int} : allB [(u, p), (v, q)] = (decB u p && decB v q) := by simp [allB]
theorem scaled_small {u p : Int} {q : Nat} (h : decB u p = true) (hq : q ≤ 9) : Small (scaled u p q) := by
  have h := decB_out h
  have := scaled_bound (p := p) (u := u) (by omega) hq
  unfold Small
  have : 1000000000000000000000000 < 10 ^ 200 := by decide
  omega

end Go.Proofs.YtcfhaljkemaefaaGreatDoor

namespace Go.Proofs.YtcfhaljkemaefaaGreatDoor
open Go.RowKit Limb

theorem out_no (n lo hi : Int) (w : World) (h : lo ≤ n ∧ n ≤ hi) : Calls Tryz.prog 12 #[.int .i64 n, .int .i64 lo, .int .i64 hi] w fun e w' => w = w' ∧ e = .returned (.bool false) := by
  have h1 : ¬ n < lo := by omega
  have h2 : ¬ hi < n := by omega
  go_enter Tryz.func12, Tryz.ntmps12
  go_wp2
  go_ret
  exact ⟨rfl, rfl⟩
theorem out_yes (n lo hi : Int) (w : World) (h : ¬ (lo ≤ n ∧ n ≤ hi)) : Calls Tryz.prog 12 #[.int .i64 n, .int .i64 lo, .int .i64 hi] w fun e w' => w = w' ∧ e = .returned (.bool true) := by
  by_cases h1 : n < lo
  · go_enter Tryz.func12, Tryz.ntmps12
    go_wp2
    go_ret
    exact ⟨rfl, rfl⟩
  · have h2 : hi < n := by omega
    go_enter Tryz.func12, Tryz.ntmps12
    go_wp2
    go_ret
    exact ⟨rfl, rfl⟩

theorem small_mul9 {u : Int} (hu : -1000000000000000 ≤ u ∧ u ≤ 1000000000000000) : Small u := small_of_le (by omega) (by omega)

end Go.Proofs.YtcfhaljkemaefaaGreatDoor

namespace Go.Proofs.YtcfhaljkemaefaaGreatDoor
open Go.RowKit Limb

theorem made_fit (z p : Int) (h : z.natAbs ≤ 1000000000000000) : made z p = (z, p, 0) ∧ fitV z 1000000000000000 = z ∧ fitB z 1000000000000000 = true := by
  unfold made fitV fitB; simp [h]
theorem made_not (z p : Int) (h : ¬ z.natAbs ≤ 1000000000000000) : made z p = (0, 0, 1) ∧ fitV z 1000000000000000 = 0 ∧ fitB z 1000000000000000 = false := by
  unfold made fitV fitB; simp [h]

set_option maxHeartbeats 1000000 in
theorem mk_c (w : World) {s : Bool} {A : Option Addr} {n c : Nat} {z : Int} (p : Int) (h : Big .u32 110 B32 w s A n c z) :
    Calls Tryz.prog 53 #[.agg #[.bool s, .slice A n c], .int .i64 p] w (RetD (made z p) w) := by
  by_cases hz : z.natAbs ≤ 1000000000000000
  · obtain ⟨e1, e2, e3⟩ := made_fit z p hz
    rw [e1]
    have E2 := Lib.hid e2; have E3 := Lib.hid e3; clear e1 e2 e3
    go_enter Tryz.func53, Tryz.ntmps53
    go_wp2_with fail
    refine (int_c _ 1000000000000000 ((h.alloc _).alloc _) (by omega)).mono ?_
    rintro e w1 ⟨rfl, hb⟩
    rw [E2.out, E3.out]
    have hB := heap_below (heap_new (w.alloc _) _ rfl) hb
    simp only [World.size_alloc] at hB
    obtain ⟨g0, g1, g2, g3, g4⟩ := box2 hB
    go_wp2
    refine bodyPost_ret (v := .tuple #[.agg #[.int .i64 z, .int .i64 p], .int .i64 0]) (by simp [results, Tryz.results53, go_sem, g0, g1]) rfl ⟨rfl, ?_⟩
    go_grown
    exact below_then hb (by go_grown) (by simp only [World.size_alloc]; omega)
  · obtain ⟨e1, e2, e3⟩ := made_not z p hz
    rw [e1]
    have E2 := Lib.hid e2; have E3 := Lib.hid e3; clear e1 e2 e3
    go_enter Tryz.func53, Tryz.ntmps53
    go_wp2_with fail
    refine (int_c _ 1000000000000000 ((h.alloc _).alloc _) (by omega)).mono ?_
    rintro e w1 ⟨rfl, hb⟩
    rw [E2.out, E3.out]
    have hB := heap_below (heap_new (w.alloc _) _ rfl) hb
    simp only [World.size_alloc] at hB
    obtain ⟨g0, g1, g2, g3, g4⟩ := box2 hB
    go_wp2
    refine bodyPost_ret (v := .tuple #[.agg #[.int .i64 0, .int .i64 0], .int .i64 1]) (by simp [results, Tryz.results53, go_sem, g0, g1]) rfl ⟨rfl, ?_⟩
    go_grown
    exact below_then hb (by go_grown) (by simp only [World.size_alloc]; omega)

def RetIF (n f : Int) (w : World) (e : Ending) (w' : World) : Prop := e = .returned (.tuple #[.int .i64 n, .int .i64 f]) ∧ Below w.heap.size w w'

end Go.Proofs.YtcfhaljkemaefaaGreatDoor

namespace Go.Proofs.YtcfhaljkemaefaaGreatDoor
open Go.RowKit Limb

theorem sumR_big {ds : List (Int × Int)} (h : 1000 < ds.length) : sumR ds = (0, 0, 2) := by unfold sumR; rw [if_pos h]
theorem sumR_bad {ds : List (Int × Int)} (h : ¬ 1000 < ds.length) (h2 : allB ds = false) : sumR ds = (0, 0, 1) := by unfold sumR; rw [if_neg h, h2]; rfl
theorem sumR_ok {ds : List (Int × Int)} (h : ¬ 1000 < ds.length) (h2 : allB ds = true) : sumR ds = made (sumZ ds (maxP ds).toNat) (maxP ds) := by unfold sumR; rw [if_neg h, h2]; rfl

end Go.Proofs.YtcfhaljkemaefaaGreatDoor

namespace Go.Proofs.YtcfhaljkemaefaaGreatDoor
open Go.RowKit Limb

/-! ### A string without one byte ahead -/
def hasB (s : ByteArray) (c : UInt8) : Bool := s.data.toList.head? == some c
theorem hasB_ext {s : ByteArray} {c : UInt8} (h : 0 < s.size) : ((s.extract 0 1).toList == [c]) = hasB s c := by
  rw [Lib.extract_toList]
  unfold hasB
  have hl : 0 < s.data.toList.length := by simpa using h
  cases hd : s.data.toList with
  | nil => rw [hd] at hl; simp at hl
  | cons x xs => simp
theorem hasB_empty {s : ByteArray} {c : UInt8} (h : s.size = 0) : hasB s c = false := by
  unfold hasB
  have hl : s.data.toList = [] := List.length_eq_zero_iff.1 (by simpa using h)
  rw [hl]; rfl

set_option maxRecDepth 100000 in
theorem hasp_yes (s : ByteArray) (c : UInt8) (w : World) (h : hasB s c = true) (hs : s.size ≤ 9223372036854775807) :
    Calls Tryz.prog 73 #[.string s, .string ⟨#[c]⟩] w fun e w' => w = w' ∧ e = .returned (.bool true) := by
  have h0 : 0 < s.size := by
    rcases Nat.eq_zero_or_pos s.size with h1 | h1
    · rw [hasB_empty h1] at h; cases h
    · exact h1
  have he := hasB_ext (c := c) h0
  rw [h] at he
  clear h
  have h1 : 1 ≤ s.size := h0
  go_enter Tryz.func73, Tryz.ntmps73
  go_wp2
  go_ret
  exact ⟨rfl, by simp⟩
set_option maxRecDepth 100000 in
theorem hasp_no (s : ByteArray) (c : UInt8) (w : World) (h : hasB s c = false) (hs : s.size ≤ 9223372036854775807) :
    Calls Tryz.prog 73 #[.string s, .string ⟨#[c]⟩] w fun e w' => w = w' ∧ e = .returned (.bool false) := by
  rcases Nat.eq_zero_or_pos s.size with h0 | h0
  · clear h
    go_enter Tryz.func73, Tryz.ntmps73
    go_wp2
    go_ret
    exact ⟨rfl, by simp⟩
  · have he := hasB_ext (c := c) h0
    rw [h] at he
    clear h
    have h1 : 1 ≤ s.size := h0
    go_enter Tryz.func73, Tryz.ntmps73
    go_wp2
    go_ret
    exact ⟨rfl, by simp⟩

/-- What CutPrefix comes to. -/
def CutP (s : ByteArray) (c : UInt8) (w : World) (e : Ending) (w' : World) : Prop :=
  w = w' ∧ ∃ t : ByteArray, e = .returned (.tuple #[.string t, .bool (hasB s c)]) ∧ t.data.toList = (if hasB s c then s.data.toList.tail else s.data.toList)

set_option maxRecDepth 100000 in
theorem lcutp_c (s : ByteArray) (c : UInt8) (w : World) (hs : s.size ≤ 9223372036854775807) :
    Calls Tryz.prog 46 #[.string s, .string ⟨#[c]⟩] w (CutP s c w) := by
  by_cases h : hasB s c = true
  · have h0 : 0 < s.size := by
      rcases Nat.eq_zero_or_pos s.size with h1 | h1
      · rw [hasB_empty h1] at h; cases h
      · exact h1
    have h1 : 1 ≤ s.size := h0
    have H := Lib.hid h; clear h
    go_enter Tryz.func46, Tryz.ntmps46
    go_wp2_with (go_at_call 73; refine (hasp_yes s c _ H.out hs).mono ?_; rintro e w1 ⟨rfl, rfl⟩)
    go_ret2
    refine ⟨rfl, s.extract 1 s.size, ?_, ?_⟩
    · rw [H.out]; simp
    · rw [H.out, Lib.extract_to_end]; simp
  · have h : hasB s c = false := by simpa using h
    have H := Lib.hid h; clear h
    go_enter Tryz.func46, Tryz.ntmps46
    go_wp2_with (go_at_call 73; refine (hasp_no s c _ H.out hs).mono ?_; rintro e w1 ⟨rfl, rfl⟩)
    go_ret2
    refine ⟨rfl, s, ?_, ?_⟩
    · rw [H.out]; simp
    · rw [H.out]; simp
set_option maxRecDepth 100000 in
theorem cutp_c (s : ByteArray) (c : UInt8) (w : World) (hs : s.size ≤ 9223372036854775807) :
    Calls Tryz.prog 26 #[.string s, .string ⟨#[c]⟩] w (CutP s c w) := by
  go_enter Tryz.func26, Tryz.ntmps26
  go_wp2_with fail
  refine (lcutp_c s c _ hs).mono ?_
  rintro e w1 ⟨rfl, t, rfl, ht⟩
  have HT := Lib.hid ht; clear ht
  go_wp2
  go_ret2
  exact ⟨rfl, t, by simp, HT.out⟩

theorem ix150 (w : World) : (callFunc 119 #[.string ⟨#[49, 46, 53, 48]⟩, .int .u8 46]).run Tryz.prog w = .ok (.value (.int .i64 1)) w := by kernel_rfl

theorem index150 (w : World) : Calls Tryz.prog 76 #[.string ⟨#[49, 46, 53, 48]⟩, .string ⟨#[46]⟩] w fun e w' => w = w' ∧ e = .returned (.int .i64 1) := by
  have h94 := ix150
  have e46 : ((((⟨#[46]⟩ : ByteArray)[0]'(by decide)).toNat : Nat) : Int) = 46 := rfl
  go_enter Tryz.func76, Tryz.ntmps76
  go_wp2
  go_ret
  exact ⟨rfl, by simp⟩

set_option maxRecDepth 100000 in
theorem lcut150 (w : World) : Calls Tryz.prog 47 #[.string ⟨#[49, 46, 53, 48]⟩, .string ⟨#[46]⟩] w fun e w' => e = .returned (.tuple #[.string ⟨#[49]⟩, .string ⟨#[53, 48]⟩, .bool true]) ∧ ∃ n, w' = w.drewN n := by
  go_enter Tryz.func47, Tryz.ntmps47
  go_wp2_with (go_at_call 76; refine (index150 _).mono ?_; rintro e w1 ⟨rfl, rfl⟩)
  go_quiet (fail)
  go_wp2
  go_ret3
  exact ⟨rfl, _, rfl⟩

theorem cut150 (w : World) : Calls Tryz.prog 27 #[.string ⟨#[49, 46, 53, 48]⟩, .string ⟨#[46]⟩] w fun e w' => e = .returned (.tuple #[.string ⟨#[49]⟩, .string ⟨#[53, 48]⟩, .bool true]) ∧ ∃ n, w' = w.drewN n := by
  go_enter Tryz.func27, Tryz.ntmps27
  go_wp2_with (go_at_call 47; refine (lcut150 _).mono ?_; rintro e w1 ⟨rfl, n, rfl⟩)
  go_ret3
  exact ⟨rfl, _, rfl⟩


/-! ### Digits -/
def inB (l : List UInt8) (lo hi : Nat) : Bool := l.all fun c => decide (lo ≤ c.toNat ∧ c.toNat ≤ hi)
theorem data_get (s : ByteArray) (j : Nat) (h : j < s.size) : s.data.toList[j]'(by simpa using h) = s[j] := rfl
theorem inB_at {s : ByteArray} {lo hi : Nat} (h : inB s.data.toList lo hi = true) (j : Nat) (hj : j < s.size) : lo ≤ s[j].toNat ∧ s[j].toNat ≤ hi := by
  have := List.all_eq_true.1 h _ (List.getElem_mem (l := s.data.toList) (n := j) (by simpa using hj))
  rw [data_get s j hj] at this
  exact of_decide_eq_true this
theorem inB_bad {l : List UInt8} {lo hi : Nat} (h : inB l lo hi = false) : ∃ j, ∃ hj : j < l.length, ¬ (lo ≤ l[j].toNat ∧ l[j].toNat ≤ hi) ∧ ∀ i, ∀ hi' : i < j, lo ≤ (l[i]'(by omega)).toNat ∧ (l[i]'(by omega)).toNat ≤ hi := by
  induction l with
  | nil => simp [inB] at h
  | cons c l ih =>
    by_cases hc : lo ≤ c.toNat ∧ c.toNat ≤ hi
    · have h2 : inB l lo hi = false := by
        unfold inB at h ⊢
        rw [List.all_cons, decide_eq_true hc] at h
        simpa using h
      obtain ⟨j, hj, h3, h4⟩ := ih h2
      refine ⟨j + 1, by simpa using hj, by simpa using h3, fun i hi' => ?_⟩
      cases i with
      | zero => simpa using hc
      | succ i => simpa using h4 i (by omega)
    · exact ⟨0, by simp, by simpa using hc, fun i hi' => by omega⟩

set_option maxHeartbeats 400000 in
set_option maxRecDepth 100000 in
theorem inb_yes (s : ByteArray) (lo hi : Nat) (w : World) (h : inB s.data.toList lo hi = true) (hs : s.size ≤ 9223372036854775807) :
    Calls Tryz.prog 39 #[.string s, .int .u8 (lo : Int), .int .u8 (hi : Int)] w fun e w' => w = w' ∧ e = .returned (.bool true) := by
  go_enter Tryz.func39, Tryz.ntmps39
  go_wp2
  go_loop [10] (fun i => ∃ j : Nat, j ≤ s.size ∧ i = .int .i64 j) (fun i => s.size - (intOf i).toNat)
  case atStart => exact ⟨0, Nat.zero_le _, rfl⟩
  case round =>
    obtain ⟨j, hj, rfl⟩ := hrel
    rcases Nat.lt_or_ge j s.size with hjn | hjn
    · have hb := inB_at h j hjn
      have h1 : (lo : Int) ≤ (s[j].toNat : Int) := by omega
      have h2 : (s[j].toNat : Int) ≤ (hi : Int) := by omega
      clear hb
      go_wp2
      go_round
      case rel => exact ⟨j + 1, by omega, by go_num⟩
      case measure => simp [intOf]; omega
    · go_wp2
      go_ret
      exact ⟨rfl, rfl⟩

set_option maxHeartbeats 400000 in
set_option maxRecDepth 100000 in
theorem inb_no (s : ByteArray) (lo hi : Nat) (w : World) (h : inB s.data.toList lo hi = false) (hs : s.size ≤ 9223372036854775807) :
    Calls Tryz.prog 39 #[.string s, .int .u8 (lo : Int), .int .u8 (hi : Int)] w fun e w' => w = w' ∧ e = .returned (.bool false) := by
  obtain ⟨m, hm, hbad, hgood⟩ := inB_bad h
  have hm' : m < s.size := by simpa using hm
  clear h
  go_enter Tryz.func39, Tryz.ntmps39
  go_wp2
  go_loop [10] (fun i => ∃ j : Nat, j ≤ m ∧ i = .int .i64 j) (fun i => s.size - (intOf i).toNat)
  case atStart => exact ⟨0, Nat.zero_le _, rfl⟩
  case round =>
    obtain ⟨j, hj, rfl⟩ := hrel
    have hjn : j < s.size := by omega
    rcases Nat.lt_or_ge j m with hjm | hjm
    · have hb := hgood j hjm
      rw [data_get s j hjn] at hb
      have h1 : (lo : Int) ≤ (s[j].toNat : Int) := by omega
      have h2 : (s[j].toNat : Int) ≤ (hi : Int) := by omega
      clear hb hbad hgood
      go_wp2
      go_round
      case rel => exact ⟨j + 1, by omega, by go_num⟩
      case measure => simp [intOf]; omega
    · obtain rfl : j = m := by omega
      have hb := hbad
      rw [data_get s j hjn] at hb
      clear hbad hgood
      by_cases h1 : (s[j].toNat : Int) < (lo : Int)
      · clear hb
        go_wp2
        go_ret
        exact ⟨rfl, rfl⟩
      · have h2 : (hi : Int) < (s[j].toNat : Int) := by omega
        clear hb
        go_wp2
        go_ret
        exact ⟨rfl, rfl⟩

/-- Digits, at least one. -/
def digB (l : List UInt8) : Bool := !l.isEmpty && inB l 48 57
theorem isdig_c (s : ByteArray) (w : World) (hs : s.size ≤ 9223372036854775807) :
    Calls Tryz.prog 29 #[.string s] w fun e w' => w = w' ∧ e = .returned (.bool (digB s.data.toList)) := by
  by_cases h0 : s.data.toList.isEmpty = true
  · have e : digB s.data.toList = false := by unfold digB; rw [h0]; rfl
    rw [e]; clear e
    have hn : s.toList.isEmpty = true := by rw [Lib.toList_data]; exact h0
    clear h0
    go_enter Tryz.func29, Tryz.ntmps29
    go_wp2
    go_ret
    exact ⟨rfl, by simp⟩
  · have h0 : s.data.toList.isEmpty = false := by simpa using h0
    have hn : s.toList.isEmpty = false := by rw [Lib.toList_data]; exact h0
    by_cases hb : inB s.data.toList 48 57 = true
    · have e : digB s.data.toList = true := by unfold digB; rw [h0, hb]; rfl
      rw [e]
      have HB := Lib.hid hb; clear e hb h0
      go_enter Tryz.func29, Tryz.ntmps29
      go_wp2_with (go_at_call 39; refine (inb_yes s 48 57 _ HB.out hs).mono ?_; rintro e w1 ⟨rfl, rfl⟩)
      go_ret
      exact ⟨rfl, by simp⟩
    · have hb : inB s.data.toList 48 57 = false := by simpa using hb
      have e : digB s.data.toList = false := by unfold digB; rw [h0, hb]; rfl
      rw [e]
      have HB := Lib.hid hb; clear e hb h0
      go_enter Tryz.func29, Tryz.ntmps29
      go_wp2_with (go_at_call 39; refine (inb_no s 48 57 _ HB.out hs).mono ?_; rintro e w1 ⟨rfl, rfl⟩)
      go_ret
      exact ⟨rfl, by simp⟩

end Go.Proofs.YtcfhaljkemaefaaGreatDoor

namespace Go.Proofs.YtcfhaljkemaefaaGreatDoor
open Go.RowKit Limb

/-- What lies ahead of the first such byte, what lies behind it, whether there is one. -/
def cutL : List UInt8 → UInt8 → List UInt8 × List UInt8 × Bool
  | [], _ => ([], [], false)
  | x :: l, c => if x == c then ([], l, true) else (x :: (cutL l c).1, (cutL l c).2.1, (cutL l c).2.2)

theorem cutL_index (l : List UInt8) (c : UInt8) : (Lib.indexByte l c = -1 ∧ cutL l c = (l, [], false)) ∨ ∃ o : Nat, o < l.length ∧ Lib.indexByte l c = o ∧ cutL l c = (l.take o, l.drop (o + 1), true) := by
  induction l with
  | nil => exact .inl ⟨rfl, rfl⟩
  | cons x l ih =>
    unfold Lib.indexByte cutL
    by_cases h : (x == c) = true
    · rw [if_pos h, if_pos h]
      exact .inr ⟨0, by simp, rfl, by simp⟩
    · rw [if_neg h, if_neg h]
      rcases ih with ⟨h1, h2⟩ | ⟨o, ho, h1, h2⟩
      · rw [h1, h2]
        exact .inl ⟨rfl, rfl⟩
      · rw [h1, h2]
        refine .inr ⟨o + 1, by simpa using ho, ?_, by simp⟩
        rw [if_neg (by simp)]
        simp

theorem ixb (s : ByteArray) (c : UInt8) (w : World) : (callFunc 119 #[.string s, .int .u8 (c.toNat : Int)]).run Tryz.prog w = .ok (.value (.int .i64 (Lib.indexByte s.data.toList c))) w := by
  rw [run_callFunc_extern Tryz.func119 (by kernel_rfl) (by kernel_rfl) (by kernel_rfl) (e := Extern.BytealgIndexByte.indexByte) (by kernel_rfl), Lib.run_indexByteString]
  simp [Result.andThen]

set_option maxRecDepth 100000 in
theorem index1_c (s : ByteArray) (c : UInt8) (w : World) : Calls Tryz.prog 76 #[.string s, .string ⟨#[c]⟩] w fun e w' => w = w' ∧ e = .returned (.int .i64 (Lib.indexByte s.data.toList c)) := by
  have h94 := ixb s c
  have e46 : (⟨#[c]⟩ : ByteArray)[0]'(by show 0 < 1; decide) = c := rfl
  by_cases hq : ([c] == s.toList) = true
  · have e : Lib.indexByte s.data.toList c = 0 := by
      have : s.data.toList = [c] := by rw [← Lib.toList_data]; exact (beq_iff_eq.1 hq).symm
      rw [this]; simp [Lib.indexByte]
    have E := Lib.hid e; clear e
    go_enter Tryz.func76, Tryz.ntmps76
    go_wp2
    all_goals
      go_ret
      exact ⟨rfl, by rw [E.out]; simp⟩
  · have hq : ([c] == s.toList) = false := by simpa using hq
    go_enter Tryz.func76, Tryz.ntmps76
    go_wp2
    go_ret
    exact ⟨rfl, by simp⟩

/-- What Cut at one byte comes to. -/
def Cut1 (s : ByteArray) (c : UInt8) (w : World) (e : Ending) (w' : World) : Prop :=
  (∃ n, w' = w.drewN n) ∧ ∃ t u : ByteArray, e = .returned (.tuple #[.string t, .string u, .bool (cutL s.data.toList c).2.2]) ∧ t.data.toList = (cutL s.data.toList c).1 ∧ u.data.toList = (cutL s.data.toList c).2.1

set_option maxHeartbeats 1000000 in
set_option maxRecDepth 100000 in
theorem lcut_c (s : ByteArray) (c : UInt8) (w : World) (hs : s.size ≤ 9223372036854775807) : Calls Tryz.prog 47 #[.string s, .string ⟨#[c]⟩] w (Cut1 s c w) := by
  rcases cutL_index s.data.toList c with ⟨h1, h2⟩ | ⟨o, ho, h1, h2⟩
  · have H1 := Lib.hid h1; have H2 := Lib.hid h2; clear h1 h2
    go_enter Tryz.func47, Tryz.ntmps47
    go_wp2_with (go_at_call 76; refine (index1_c s c _).mono ?_; rintro e w1 ⟨rfl, rfl⟩; rw [H1.out])
    go_ret3
    refine ⟨⟨0, rfl⟩, s, ⟨#[]⟩, ?_, ?_, ?_⟩
    · rw [H2.out]; simp
    · rw [H2.out]
    · rw [H2.out]
  · have ho' : o < s.size := by simpa using ho
    have H1 := Lib.hid h1; have H2 := Lib.hid h2; clear h1 h2
    have i1 : (0 : Int) ≤ (o : Int) := by omega
    have i2 : (o : Int) + 1 ≤ (s.size : Int) := by omega
    have i3 : (o : Int) ≤ (s.size : Int) := by omega
    have e1 : IntKind.i64.wrap ((o : Int) + 1) = (o : Int) + 1 := IntWalk.i64_in _ (by omega)
    have e2 : (0 : Int) ≤ (o : Int) + 1 := by omega
    have e3 : ((o : Int) + 1).toNat = o + 1 := by omega
    have E1 := Lib.hid e1; have E2 := Lib.hid e2; have E3 := Lib.hid e3; clear e1 e2 e3
    go_enter Tryz.func47, Tryz.ntmps47
    go_wp2_with (go_at_call 76; refine (index1_c s c _).mono ?_; rintro e w1 ⟨rfl, rfl⟩; rw [H1.out])
    have e1 := E1.out; have e2 := E2.out; have e3 := E3.out
    go_quiet (fail)
    clear e1 e2 e3
    go_wp2
    go_ret3
    refine ⟨⟨_, rfl⟩, s.extract 0 o, s.extract (o + 1) s.size, ?_, ?_, ?_⟩
    · rw [H2.out]; simp
    · rw [H2.out, Lib.extract_data]; simp
    · rw [H2.out, Lib.extract_to_end]
set_option maxRecDepth 100000 in
theorem cut_c (s : ByteArray) (c : UInt8) (w : World) (hs : s.size ≤ 9223372036854775807) : Calls Tryz.prog 27 #[.string s, .string ⟨#[c]⟩] w (Cut1 s c w) := by
  go_enter Tryz.func27, Tryz.ntmps27
  go_wp2_with fail
  refine (lcut_c s c _ hs).mono ?_
  rintro e w1 ⟨⟨n, rfl⟩, t, u, rfl, ht, hu⟩
  have HT := Lib.hid ht; have HU := Lib.hid hu; clear ht hu
  go_wp2
  go_ret3
  exact ⟨⟨_, rfl⟩, t, u, by simp, HT.out, HU.out⟩

/-- Digits without a needless 0. -/
def wholeB (l : List UInt8) : Bool := digB l && (l.length == 1 || !(l.head? == some 48))
theorem head_get {s : ByteArray} (h : 0 < s.size) : s.data.toList.head? = some s[0] := by
  rw [List.head?_eq_getElem?, List.getElem?_eq_getElem (by simpa using h)]
  rfl
theorem dig_size {s : ByteArray} (h : digB s.data.toList = true) : 0 < s.size := by
  unfold digB at h
  rcases Nat.eq_zero_or_pos s.size with h0 | h0
  · have hl : s.data.toList = [] := List.length_eq_zero_iff.1 (by simpa using h0)
    rw [hl] at h; simp at h
  · exact h0
set_option maxRecDepth 100000 in
theorem iswhole_c (s : ByteArray) (w : World) (hs : s.size ≤ 9223372036854775807) :
    Calls Tryz.prog 28 #[.string s] w fun e w' => w = w' ∧ e = .returned (.bool (wholeB s.data.toList)) := by
  by_cases hd : digB s.data.toList = true
  · have h0 := dig_size hd
    have hlen : s.data.toList.length = s.size := by simp
    have hw : wholeB s.data.toList = (s.size == 1 || !(s[0] == 48)) := by
      unfold wholeB; rw [hd, head_get h0, hlen]; simp
    rw [hw]
    have HD := Lib.hid hd; clear hw hd hlen
    by_cases h1 : s.size = 1
    · have h1' : ((s.size : Int) == 1) = true := by simp; omega
      have e1 : (s.size == 1 || !(s[0] == 48)) = true := by simp [h1]
      rw [e1]
      clear h1 e1
      go_enter Tryz.func28, Tryz.ntmps28
      go_wp2_with (go_at_call 29; refine (isdig_c s _ hs).mono ?_; rintro e w1 ⟨rfl, rfl⟩; rw [HD.out])
      go_ret
      exact ⟨rfl, by simp⟩
    · have h1' : ((s.size : Int) == 1) = false := by simp; omega
      have e1 : (s.size == 1 || !(s[0] == 48)) = ((s[0].toNat : Int) != 48) := by
        have e2 : s[0] = 48 ↔ s[0].toNat = 48 := ⟨fun h => by rw [h]; rfl, fun h => UInt8.toNat_inj.1 (by rw [h]; rfl)⟩
        have e3 : (s[0] == 48) = (s[0].toNat == 48) := by rw [Bool.eq_iff_iff]; simpa using e2
        rw [e3, Bool.eq_iff_iff]
        simp [h1]
        omega
      rw [e1]
      clear h1 e1
      go_enter Tryz.func28, Tryz.ntmps28
      go_wp2_with (go_at_call 29; refine (isdig_c s _ hs).mono ?_; rintro e w1 ⟨rfl, rfl⟩; rw [HD.out])
      go_ret
      exact ⟨rfl, by simp⟩
  · have hd : digB s.data.toList = false := by simpa using hd
    have hw : wholeB s.data.toList = false := by unfold wholeB; rw [hd]; rfl
    rw [hw]
    have HD := Lib.hid hd; clear hw hd
    go_enter Tryz.func28, Tryz.ntmps28
    go_wp2_with (go_at_call 29; refine (isdig_c s _ hs).mono ?_; rintro e w1 ⟨rfl, rfl⟩; rw [HD.out])
    go_ret
    exact ⟨rfl, by simp⟩

end Go.Proofs.YtcfhaljkemaefaaGreatDoor
