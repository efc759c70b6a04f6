/- Archive's walks: the digest of bytes. Builds in the seat of row 14. Archive's walks: a record's body. Builds in the seat of row 14. Rows of structs in memory; blocks of three cells. Archive's walks: the head of records. Builds in the seat of row 14. -/
import Derived.Test.YtcfhaljkemaefaaGreatDoorAR5
import Derived.Test.YtcfhaljkemaefaaGreatDoorShelf
import Derived.Handy
import Derived.Lib.AppendIntMem
import Derived.Lib.ItoaLen
import Derived.Deep.QuietTactic
import Derived.BigQuiet
import Derived.Deep.RegionWith
import Derived.Deep.RegionHeld3
import Derived.Test.YtcfhaljkemaefaaGreatDoorMem
-- merged: AR6 AR7 RW AR8

namespace Go.Proofs.YtcfhaljkemaefaaGreatDoor
open Go.RowKit Limb Nmb Work
set_option linter.unusedVariables false
set_option linter.unusedSimpArgs false

theorem rep_oneA (c : UInt8) : ∀ n, Lib.repeatL [c] n = List.replicate n c := by
  intro n
  induction n with
  | zero => rfl
  | succ n ih => show [c] ++ Lib.repeatL [c] n = _; rw [ih]; rfl
def byV (l : List UInt8) (j : Nat) : UInt8 := l.getD j 0
def dgsB (l : List UInt8) : ByteArray := ⟨(dgsL l).toArray⟩
theorem fnv_take {l : List UInt8} {j : Nat} (h : j < l.length) (u : Nat) : fnvN u (l.take (j + 1)) = fstp (fnvN u (l.take j)) (byV l j) := by
  rw [List.take_add_one, List.getElem?_eq_getElem h, show byV l j = l[j] from by simp [byV, List.getD_eq_getElem?_getD, h]]
  exact fnvN_snoc _ _ _
set_option maxHeartbeats 2000000 in
set_option maxRecDepth 100000 in
theorem digest_c (g : Nat) (c : Nat) (l : List UInt8) (w : World) (hc : ∀ j, j < l.length → w.cell? ⟨g, j, none⟩ = some (.int .u8 ((byV l j).toNat : Int))) (hl : l.length ≤ 9223372036854775807)
    (hcell : w.cell? ⟨7, 15, none⟩ = some (.int .u8 4)) :
    Calls Tryz.prog 25 #[.slice (some ⟨g, 0, none⟩) l.length c] w fun e w' => e = .returned (.string (dgsB l)) ∧ Below w.heap.size w w' := by
  have HFU := Lib.hid (fun w' (hb : Below w.heap.size w w') => fuint_c (fnvL l) (fnvN_lt _ _ (by decide)) w' ((hb.cell (cell_lt hcell)).trans hcell))
  obtain ⟨n, hn⟩ : ∃ n, l.length = n := ⟨_, rfl⟩
  have HL := Lib.hid hn
  obtain ⟨H, hH⟩ : ∃ H : Nat → Nat, ∀ j, H j = fnvN 14695981039346656037 (l.take j) := ⟨fun j => fnvN 14695981039346656037 (l.take j), fun _ => rfl⟩
  have H0 : H 0 = 14695981039346656037 := by rw [hH]; rfl
  have HS := Lib.hid (show ∀ j, j < n → H (j + 1) = fstp (H j) (byV l j) from fun j hj => by rw [hH, hH]; exact fnv_take (by omega) _)
  have HB := Lib.hid (show ∀ j, H j < 18446744073709551616 from fun j => by rw [hH]; exact fnvN_lt _ _ (by decide))
  have HE := Lib.hid (show H n = fnvL l by rw [hH, ← hn, List.take_length]; rfl)
  have HC := Lib.hid hc
  rw [hn]
  rw [hn] at hl
  clear hH hc hcell hn
  go_enter Tryz.func25, Tryz.ntmps25
  go_wp2
  go_loopw [9, 3] (fun i h wr => ∃ j : Nat, i = .int .i64 (j : Int) ∧ h = .int .u64 (H j : Int) ∧ j ≤ n ∧ Below w.heap.size w wr) (fun i _ _ => n - (intOf i).toNat)
  case atStart => exact ⟨0, rfl, by rw [H0]; rfl, Nat.zero_le _, by first | exact Below.refl _ _ | exact (Below.refl _ _).drew⟩
  case round =>
    obtain ⟨j, rfl, rfl, hj, hb⟩ := hrel
    by_cases h : (j : Int) < (n : Int)
    · have hjn : j < n := by omega
      have hcj : wr.cell? ⟨g, j, none⟩ = some (.int .u8 ((byV l j).toNat : Int)) := by
        have h1 := HC.out j (by rw [HL.out]; exact hjn)
        exact (hb.cell (cell_lt h1)).trans h1
      have hE := fstp_int (byV l j) (HB.out j)
      rw [← HS.out j hjn] at hE
      have hx := (byV l j).toNat_lt
      obtain ⟨x, hxx⟩ : ∃ x : Nat, (byV l j).toNat = x := ⟨_, rfl⟩
      rw [hxx] at hcj hE hx
      have HBe := Lib.hid hb
      clear hb hxx
      go_wp2_with (simp only [hE])
      go_roundw
      case rel => exact ⟨j + 1, by first | rfl | (congr 1), rfl, hjn, by first | exact HBe.out | exact HBe.out.drew⟩
      case measure =>
        show n - ((j : Int) + 1).toNat < n - (j : Int).toNat
        omega
    · have hj' : j = n := by omega
      subst hj'
      have HBe := Lib.hid hb
      rw [HE.out]
      have HFF := Lib.hid (HFU.out _ hb)
      obtain ⟨s, hs⟩ : ∃ s : ByteArray, (⟨(hexL (fnvL l)).toArray⟩ : ByteArray) = s := ⟨_, rfl⟩
      rw [hs] at HFF
      have hs2 : s.data.toList = hexL (fnvL l) := by rw [← hs]
      have hsl : s.size = (hexL (fnvL l)).length := by rw [← hs2]; simp
      have hs16 : s.size ≤ 16 := by
        rw [hsl]
        have := hexF_len 16 (fnvL l) []
        exact this
      have HP := Lib.hid (show dgsB l = (⟨(Lib.repeatL [48] (16 - s.size)).toArray⟩ : ByteArray) ++ s by
        unfold dgsB dgsL
        rw [← hsl, rep_oneA, ← hs2]
        apply ByteArray.ext
        rw [ByteArray.data_append]
        simp)
      have E1 := Lib.hid (show (16 : Int) - (s.size : Int) = ((16 - s.size : Nat) : Int) by omega)
      have HREP := Lib.hid (Tryz.strings_Repeat ⟨#[48]⟩ (16 - s.size))
      clear hs hs2 hsl hb h
      go_wp2_with fail
      refine HFF.out.mono ?_
      rintro e w1 ⟨rfl, hb1⟩
      go_wp2_with fail
      rw [E1.out]
      obtain ⟨r, hr⟩ : ∃ r : ByteArray, (⟨(Lib.repeatL [48] (16 - s.size)).toArray⟩ : ByteArray) = r := ⟨_, rfl⟩
      have hrs : r.size ≤ 16 := by rw [← hr, rep_oneA]; show (List.replicate (16 - s.size) (48 : UInt8)).toArray.size ≤ 16; simp
      have HR := Lib.hid hr
      have hcond : ¬ 9223372036854775807 < r.size + s.size := by omega
      refine (HREP.out _ (by omega) (by show 1 * (16 - s.size) ≤ _; omega)).mono ?_
      rintro e w2 ⟨rfl, hb2⟩
      rw [show (⟨(Lib.repeatL (⟨#[48]⟩ : ByteArray).data.toList (16 - s.size)).toArray⟩ : ByteArray) = r from hr]
      clear hr
      go_wp2
      go_ret
      exact ⟨congrArg (fun x => Ending.returned (.string x)) (show r ++ s = dgsB l by rw [HP.out, HR.out]), below_then hb2 (below_then hb1 HBe.out HBe.out.size) (Nat.le_trans HBe.out.size hb1.size)⟩
end Go.Proofs.YtcfhaljkemaefaaGreatDoor

namespace Go.Proofs.YtcfhaljkemaefaaGreatDoor
open Go.RowKit Limb Nmb Work
set_option linter.unusedVariables false
set_option linter.unusedSimpArgs false

def TabA (w : World) : Prop := Lib.TabIs Tryz.prog w "internal/strconv.uint64pow10" .u64 Lib.pow10Tab
def recG (r : Rec) : Value := .agg #[.int .i64 r.time, .string r.kind, .string r.key, .string r.dig, .bool r.drop, .string r.text]
theorem word_seenA {t : Int} (h : 0 ≤ t ∧ t ≤ 1000000000000000) : (⟨(Lib.itoa t).toArray⟩ : ByteArray).size ≤ 16 := by
  show (Lib.itoa t).toArray.size ≤ 16
  rw [itoa_dec h.1]
  simpa using adec_len (k := 15) (n := t.toNat) (by omega)
theorem recSz {r : Rec} (h : RecK r) : r.kind.size ≤ 40 ∧ r.key.size ≤ 40 ∧ r.dig.size ≤ 16 ∧ r.text.size ≤ 2000 ∧ -9223372036854775808 ≤ r.time ∧ r.time ≤ 9223372036854775807 := by
  have e : ∀ x : ByteArray, x.data.toList.length = x.size := fun x => by simp
  have hk := h.kind
  unfold nameB at hk
  simp only [Bool.and_eq_true, decide_eq_true_eq] at hk
  have hd := h.dig
  unfold isDigB at hd
  simp only [Bool.and_eq_true, decide_eq_true_eq] at hd
  have h1 := h.key.2.1
  have h2 := h.text.1
  have h3 := h.time
  have h4 := hk.1.1.2
  have h5 := hd.1
  rw [e] at h1 h2 h4 h5
  omega
def bodyB (r : Rec) : ByteArray := ⟨(bodyA r).toArray⟩
set_option maxHeartbeats 2000000 in
set_option maxRecDepth 100000 in
theorem body_c (r : Rec) (w : World) (hr : RecK r) (ht : TabA w) :
    Calls Tryz.prog 18 #[recG r] w fun e w' => e = .returned (.string (bodyB r)) ∧ Below w.heap.size w w' := by
  have HI := Lib.hid (Tryz.strconv_Itoa r.time (by have := hr.time; omega) (by have := hr.time; omega) w ht)
  obtain ⟨t, kd, ky, dg, dp, tx⟩ := r
  obtain ⟨h1, h2, h3, h4, h5, h6⟩ := recSz hr
  obtain ⟨I, hI⟩ : ∃ I : ByteArray, (⟨(Lib.itoa t).toArray⟩ : ByteArray) = I := ⟨_, rfl⟩
  have HB := Lib.hid (show bodyB ⟨t, kd, ky, dg, dp, tx⟩ = I ++ ⟨#[32]⟩ ++ kd ++ ⟨#[32]⟩ ++ ky ++ ⟨#[32]⟩ ++ dg by
    rw [← hI]
    apply ByteArray.ext
    simp [bodyB, bodyA])
  have hIs : I.size ≤ 16 := by
    have := (word_seenA hr.time)
    rw [← hI]
    exact this
  dsimp only at h1 h2 h3 h4 h5 h6
  have HI2 := Lib.hid (show ∀ w', Below w.heap.size w w' → Calls Tryz.prog 33 #[.int .i64 t] w' fun e w'' => e = .returned (.string I) ∧ Below w'.heap.size w' w'' from fun w' hb => by
    refine (Tryz.strconv_Itoa t h5 h6 w' (Lib.tabBelow_of_tabIs ht w' hb)).mono ?_
    rintro e w'' ⟨rfl, k, os, rfl⟩
    exact ⟨by rw [hI], Lib.below_grow _ w' (Nat.le_refl _) k os⟩)
  clear HI hI hr ht h5 h6
  unfold recG
  go_enter Tryz.func18, Tryz.ntmps18
  go_wp2_with fail
  have r0 : ∀ j v, (#[Value.int .i64 t, .string kd, .string ky, .string dg, .bool dp, .string tx] : Array Value)[j]? = some v → (w.alloc (.cells #[.int .i64 t, .string kd, .string ky, .string dg, .bool dp, .string tx] 45)).cell? ⟨w.heap.size, j, none⟩ = some v := fun j v h => by
    rw [World.cell?_alloc_new]; exact h
  have q0 := r0 0 _ rfl
  have q1 := r0 1 _ rfl
  have q2 := r0 2 _ rfl
  have q3 := r0 3 _ rfl
  have hbel := (Below.refl w.heap.size w).alloc (Nat.le_refl _) (.cells #[.int .i64 t, .string kd, .string ky, .string dg, .bool dp, .string tx] 45)
  have hsz : w.heap.size < (w.alloc (.cells #[.int .i64 t, .string kd, .string ky, .string dg, .bool dp, .string tx] 45)).heap.size := by simp
  clear r0
  generalize w.alloc (.cells #[.int .i64 t, .string kd, .string ky, .string dg, .bool dp, .string tx] 45) = w3 at *
  have hc1 : ¬ 9223372036854775807 < I.size + 1 := by omega
  have hc2 : ¬ 9223372036854775807 < I.size + 1 + kd.size := by omega
  have hc3 : ¬ 9223372036854775807 < I.size + 1 + kd.size + 1 := by omega
  have hc4 : ¬ 9223372036854775807 < I.size + 1 + kd.size + 1 + ky.size := by omega
  have hc5 : ¬ 9223372036854775807 < I.size + 1 + kd.size + 1 + ky.size + 1 := by omega
  have hc6 : ¬ 9223372036854775807 < I.size + 1 + kd.size + 1 + ky.size + 1 + dg.size := by omega
  go_region_held3 (fun w' => w'.cell? ⟨w.heap.size, 0, none⟩ = some (.int .i64 t) ∧ w'.cell? ⟨w.heap.size, 1, none⟩ = some (.string kd) ∧ w'.cell? ⟨w.heap.size, 2, none⟩ = some (.string ky) ∧ w'.cell? ⟨w.heap.size, 3, none⟩ = some (.string dg))
    (first | (with_reducible exact ⟨q0, q1, q2, q3⟩) | (exact ⟨(hb4.cell (by exact hsz)).trans q0, (hb4.cell (by exact hsz)).trans q1, (hb4.cell (by exact hsz)).trans q2, (hb4.cell (by exact hsz)).trans q3⟩) | (go_keep; done))
    (first
      | (go_at_call 33; refine (HI2.out _ (by first | exact hbel | exact hbel.drew)).mono ?_; rintro e w4 ⟨rfl, hb4⟩))
  go_wp2
  go_ret
  refine ⟨congrArg (fun x => Ending.returned (.string x)) HB.out.symm, ?_⟩
  first | exact below_then hb4 hbel hbel.size | exact below_then hb4 hbel.drew hbel.size | go_grown
end Go.Proofs.YtcfhaljkemaefaaGreatDoor

namespace Go.Proofs.YtcfhaljkemaefaaGreatDoor
open Go.RowKit Limb
set_option linter.unusedVariables false

/-- A row of n structs of k cells each, as it lies in memory. -/
def Rws (w : World) (A : Option Addr) (k n : Nat) (f : Nat → Nat → Value) : Prop :=
  0 < n → ∃ b off, A = some ⟨b, off, none⟩ ∧ b < w.heap.size ∧ ∀ j, j < n → ∀ i, i < k → w.cell? ⟨b, off + j * k + i, none⟩ = some (f j i)
theorem Rws.below {w w' : World} {A : Option Addr} {k n : Nat} {f : Nat → Nat → Value} (h : Rws w A k n f) (hb : Below w.heap.size w w') : Rws w' A k n f := fun hn => by
  obtain ⟨b, off, e, hl, hc⟩ := h hn
  exact ⟨b, off, e, Nat.lt_of_lt_of_le hl hb.size, fun j hj i hi => (hb.cell (p := ⟨b, off + j * k + i, none⟩) hl).trans (hc j hj i hi)⟩
theorem Rws.get {w : World} {A : Option Addr} {k n : Nat} {f : Nat → Nat → Value} (h : Rws w A k n f) {j : Nat} (hj : j < n) : ∃ b off, A = some ⟨b, off, none⟩ ∧ b < w.heap.size ∧ ∀ i, i < k → w.cell? ⟨b, off + j * k + i, none⟩ = some (f j i) := by
  obtain ⟨b, off, e, hl, hc⟩ := h (by omega)
  exact ⟨b, off, e, hl, hc j hj⟩

/-- What the walk wants of blocks of three and of five cells of the call's own. -/
theorem obox3 {w : World} {g : Nat} {x y z : Value} {T : TypeId} (h : w.heap[g]? = some (.cells #[x, y, z] T (0, 0))) :
    (w.cell? ⟨g, 0, none⟩ = some x ∧ w.cell? ⟨g, 1, none⟩ = some y ∧ w.cell? ⟨g, 2, none⟩ = some z) ∧ (w.frozen? ⟨g, 0, none⟩ = false ∧ w.frozen? ⟨g, 1, none⟩ = false ∧ w.frozen? ⟨g, 2, none⟩ = false) ∧ g < w.heap.size :=
  ⟨⟨cell_of_row w g 0 _ _ _ h, cell_of_row w g 1 _ _ _ h, cell_of_row w g 2 _ _ _ h⟩, ⟨by simp [World.frozen?, h], by simp [World.frozen?, h], by simp [World.frozen?, h]⟩, lt_heap h⟩
end Go.Proofs.YtcfhaljkemaefaaGreatDoor

namespace Go.Proofs.YtcfhaljkemaefaaGreatDoor
open Go.RowKit Limb Nmb Work
set_option linter.unusedVariables false
set_option linter.unusedSimpArgs false

def recV (l : List Rec) (j i : Nat) : Value := match i with | 0 => .int .i64 (arA l j).time | 1 => .string (arA l j).kind | 2 => .string (arA l j).key | 3 => .string (arA l j).dig | 4 => .bool (arA l j).drop | _ => .string (arA l j).text
def Recs (w : World) (A : Option Addr) (l : List Rec) : Prop := Rws w A 6 l.length (recV l)
def headB (l : List Rec) (n : Nat) : ByteArray := ⟨(headA l n).toArray⟩
theorem headB_len (l : List Rec) (n : Nat) : (headB l n).size = 16 := by
  have h := headA_ok l n
  unfold isDigB at h
  simp only [Bool.and_eq_true, decide_eq_true_eq] at h
  exact h.1
theorem bodyB_len {r : Rec} (h : RecK r) : (bodyB r).size ≤ 200 := by
  obtain ⟨h1, h2, h3, -, -, -⟩ := recSz h
  have e : ∀ x : ByteArray, x.data.toList.length = x.size := fun x => by simp
  have h4 := word_seenA h.time
  have h5 : (Lib.itoa r.time).length ≤ 16 := h4
  have h6 : (bodyB r).size = (bodyA r).length := rfl
  rw [h6]
  unfold bodyA
  simp only [List.length_append, List.length_cons, e]
  omega
theorem cell_newF (w : World) (c : Array Value) (t : TypeId) (fr : Nat × Nat) (i : Nat) : (w.alloc (.cells c t fr)).cell? ⟨w.heap.size, i, none⟩ = c[i]? := by
  simp [World.alloc, World.cell?, -World.alloc_eq]
theorem conv_c (s : ByteArray) (w : World) : ∃ cap w', (convert 9 48 (.string s)).run Tryz.prog w = .ok (.slice (some ⟨w.heap.size, 0, none⟩) s.size cap) w' ∧ Below w.heap.size w w' ∧ w.heap.size < w'.heap.size ∧ ∀ j, j < s.data.toList.length → w'.cell? ⟨w.heap.size, j, none⟩ = some (.int .u8 ((byV s.data.toList j).toNat : Int)) := by
  refine ⟨_, _, run_bytes_of_string (P := Tryz.prog) w 9 48 5 s Tryz.underlying9 Tryz.underlying48 Tryz.underlying5, ?_, ?_, fun j hj => ?_⟩
  · exact ((Below.refl w.heap.size w).drew).alloc (Nat.le_refl _) _
  · simp
  · have hs : j < s.size := by simpa using hj
    have h1 : byV s.data.toList j = s.data[j]'hs := by
      unfold byV
      rw [List.getD_eq_getElem?_getD, List.getElem?_eq_getElem hj]
      simp
    rw [h1]
    refine (cell_newF w.drew _ _ _ _).trans ?_
    unfold bytesRow
    rw [Array.getElem?_append_left (by simpa using hs), Array.getElem?_map, Array.getElem?_eq_getElem hs]
    rfl
def ZCell (w : World) : Prop := w.cell? ⟨7, 15, none⟩ = some (.int .u8 4)
theorem ZCell.below {w w' : World} (h : ZCell w) (hb : Below w.heap.size w w') : ZCell w' := (hb.cell (cell_lt h)).trans h
theorem TabA.below {w w' : World} (h : TabA w) (hb : Below w.heap.size w w') : TabA w' := Lib.tabBelow_of_tabIs h w' hb
set_option maxHeartbeats 2000000 in
set_option maxRecDepth 100000 in
theorem headof_c (A : Option Addr) (c : Nat) (l : List Rec) (w : World) (hl : Recs w A l) (hr : ∀ j, j < l.length → RecK (arA l j)) (hn : l.length ≤ 2000) (ht : TabA w) (hz : ZCell w) :
    Calls Tryz.prog 13 #[.slice A l.length c] w fun e w' => e = .returned (.string (headB l l.length)) ∧ Below w.heap.size w w' := by
  have HREP := Lib.hid (Tryz.strings_Repeat ⟨#[48]⟩ 16)
  obtain ⟨n, hnn⟩ : ∃ n, l.length = n := ⟨_, rfl⟩
  have HR := Lib.hid hr
  have HLL := Lib.hid hl
  have HT := Lib.hid ht
  have HZ := Lib.hid hz
  rw [hnn]
  rw [hnn] at hn
  clear hr hl ht hz
  have HN := Lib.hid hnn
  clear hnn
  go_enter Tryz.func13, Tryz.ntmps13
  go_wp2_with fail
  refine (HREP.out _ (by decide) (by decide)).mono ?_
  rintro e w1 ⟨rfl, hb1⟩
  rw [show (⟨(Lib.repeatL (⟨#[48]⟩ : ByteArray).data.toList 16).toArray⟩ : ByteArray) = headB l 0 from rfl]
  have HB1 := Lib.hid hb1
  go_wp2_with fail
  go_loopw [9, 3] (fun i h wr => ∃ j : Nat, i = .int .i64 (j : Int) ∧ h = .string (headB l j) ∧ j ≤ n ∧ Hid (Below w.heap.size w wr)) (fun i _ _ => n - (intOf i).toNat)
  case atStart => exact ⟨0, rfl, rfl, Nat.zero_le _, by first | exact HB1.out | exact HB1.out.drew⟩
  case round =>
    obtain ⟨j, rfl, rfl, hj, HB⟩ := hrel
    by_cases h : (j : Int) < (n : Int)
    · have hjn : j < n := by omega
      obtain ⟨b, off, hA, hlt, hcs⟩ := (Rws.below HLL.out HB.out).get (show j < l.length by rw [HN.out]; exact hjn)
      subst hA
      have k0 := hcs 0 (by decide); have k1 := hcs 1 (by decide); have k2 := hcs 2 (by decide); have k3 := hcs 3 (by decide); have k4 := hcs 4 (by decide); have k5 := hcs 5 (by decide)
      simp only [recV, Nat.add_zero] at k0 k1 k2 k3 k4 k5
      obtain ⟨r, hrr⟩ : ∃ r, arA l j = r := ⟨_, rfl⟩
      rw [hrr] at k0 k1 k2 k3 k4 k5
      have HRR := Lib.hid hrr
      obtain ⟨H, hH⟩ : ∃ H, headB l j = H := ⟨_, rfl⟩
      have HH := Lib.hid hH
      have hH16 : H.size = 16 := by rw [← hH]; exact headB_len l j
      have hc1 : ¬ 9223372036854775807 < H.size + 1 := by omega
      have HRK := Lib.hid (show RecK r by rw [← hrr]; exact HR.out j (by rw [HN.out]; exact hjn))
      obtain ⟨Y, hY⟩ : ∃ Y, bodyB r = Y := ⟨_, rfl⟩
      have hY2 : Y.size ≤ 200 := by rw [← hY]; exact bodyB_len HRK.out
      have hc2 : ¬ 9223372036854775807 < H.size + 1 + Y.size := by omega
      have HBO := Lib.hid (show ∀ w', Below w.heap.size w w' → Calls Tryz.prog 18 #[recG r] w' fun e w'' => e = .returned (.string Y) ∧ Below w'.heap.size w' w'' from fun w' hb => by rw [← hY]; exact body_c r w' HRK.out (HT.out.below hb))
      unfold recG at HBO
      have HY := Lib.hid hY
      rw [hH]
      clear hY
      clear hcs hrr hH
      have hjn2 : (0 : Int) ≤ (j : Int) := by omega
      go_wp2_with fail
      refine (HBO.out _ (by first | exact HB.out.alloc HB.out.size _ | exact HB.out.drew.alloc HB.out.size _)).mono ?_
      rintro e w4 ⟨rfl, hb4⟩
      obtain ⟨S, hS⟩ : ∃ S, H ++ ⟨#[32]⟩ ++ Y = S := ⟨_, rfl⟩
      have HS := Lib.hid hS
      obtain ⟨cap, w5, hcv, hb5, hlt5, hcl⟩ := conv_c S w4
      rw [← hS] at hcv
      have HB4 := Lib.hid (show Below w.heap.size w w4 from below_then hb4 (by first | exact HB.out.alloc HB.out.size _ | exact HB.out.drew.alloc HB.out.size _) (by first | exact (HB.out.alloc HB.out.size _).size | exact (HB.out.drew.alloc HB.out.size _).size))
      have HB5 := Lib.hid (below_then hb5 HB4.out HB4.out.size)
      have HCL := Lib.hid hcl
      clear hcl
      have hSs : S.data.toList.length = 17 + Y.size := by rw [← hS]; simp; omega
      have HDG := Lib.hid (digest_c w4.heap.size cap S.data.toList w5 HCL.out (by omega) (HZ.out.below HB5.out))
      rw [hSs] at HDG
      have HHD := Lib.hid (show dgsB S.data.toList = headB l (j + 1) by
        unfold dgsB headB
        rw [headA, HRR.out, ← hS, ← HH.out, ← HY.out]
        congr 2
        simp [headB, bodyB])
      clear hSs hS
      go_wp2_with fail
      refine HDG.out.mono ?_
      rintro e w6 ⟨rfl, hb6⟩
      rw [HHD.out]
      have HB6 := Lib.hid (below_then hb6 HB5.out HB5.out.size)
      go_wp2
      exact ⟨⟨j + 1, rfl, rfl, hjn, HB6⟩, by show n - ((j : Int) + 1).toNat < n - (j : Int).toNat; omega⟩
    · have hj' : j = n := by omega
      subst hj'
      go_wp2
      go_ret
      exact ⟨rfl, HB.out⟩
end Go.Proofs.YtcfhaljkemaefaaGreatDoor
