/- The walks of package amount's days: numbers out of digits, parts, the day of a week. The walk of strings.ReplaceAll where one byte is taken away; a text of any size. The walks of package amount's days: readDay, ReadDay. The walks of CheckFormat's parts: marks, forms, idle. The walks of CheckFormat's parts: marks, what is idle, columns. (Printed by genF4.py.) -/
import Derived.Test.YtklblmbacnnoeaaGreatDoorF6
import Derived.Test.YtklblmbacnnoeaaGreatDoorK4
import Derived.Test.YtklblmbacnnoeaaGreatDoorE4
import Derived.Test.YtklblmbacnnoeaaGreatDoorShelf2
import Derived.Lib.AtoiErrMem
import Derived.Test.YtklblmbacnnoeaaGreatDoorF0
import Derived.Test.YtklblmbacnnoeaaGreatDoorShelf
import Derived.Lib.IndexLaws
import Derived.Lib.SlicesS
import Derived.Deep.LoopGhost
import Derived.WalkLawsBesides
import Derived.Deep.RegionHeld3
import Derived.Deep.DeepCutAuto
import Derived.Test.YtklblmbacnnoeaaGreatDoorE1
-- merged: M1 M2 M3 F3 F4

namespace Go.Proofs.YtklblmbacnnoeaaGreatDoor
open Go.RowKit Limb Work Nmb
set_option linter.unusedVariables false
set_option linter.unusedSimpArgs false

theorem atoi_c (s : ByteArray) (w : World) (hs : s.size ≤ 18) (hd : digs s.data.toList = true) :
    Calls Tryz.prog 218 #[.string s] w fun e w' => e = .returned (.tuple #[.int .i64 ((dv s.data.toList : Nat) : Int), .nilIface]) ∧ Below w.heap.size w w' := by
  refine (Tryz.strconv_Atoi s _ hs (atoi_dv hd) w).mono ?_
  rintro e w' ⟨rfl, t, rfl⟩
  exact ⟨rfl, Lib.bytesWorld_below _ _ _⟩

/-! ### Parts -/
def intV (l : List Int) : List Value := l.map (Value.int .i64)
theorem intV_snoc (l : List Int) (x : Int) : intV l ++ [.int .i64 x] = intV (l ++ [x]) := by unfold intV; rw [List.map_append]; rfl
theorem intV_at {l : List Int} {j : Nat} (h : j < l.length) : (intV l)[j]? = some (.int .i64 l[j]) := by simp [intV, h]
def RetPrt (o : Option (List Int)) (w : World) (e : Ending) (w' : World) : Prop := ∃ v, e = .returned (.tuple #[v, .bool o.isSome]) ∧ Below w.heap.size w w' ∧
  ∀ xs, o = some xs → xs ≠ [] → ∃ g c, v = .slice (some ⟨g, 0, none⟩) xs.length c ∧ ∀ j, (h : j < xs.length) → w'.cell? ⟨g, j, none⟩ = some (.int .i64 xs[j])
theorem prt_none {w w' : World} {v : Value} (hb : Below w.heap.size w w') : RetPrt none w (.returned (.tuple #[v, .bool false])) w' := ⟨v, rfl, hb, fun xs h => by cases h⟩
theorem ext_from (t : ByteArray) (n : Nat) : (t.extract n t.size).data.toList = t.data.toList.drop n := by rw [Lib.extract_to_end]
theorem ext_to (t : ByteArray) (n : Nat) : (t.extract 0 n).data.toList = t.data.toList.take n := by rw [Lib.extract_data]; simp
def widths (ws : List Nat) : Prop := ∀ j, (h : j < ws.length) → 1 ≤ ws[j] ∧ ws[j] ≤ 4
set_option maxHeartbeats 2000000 in
set_option maxRecDepth 100000 in
theorem parts_c (s : ByteArray) (ws : List Nat) (g0 c0 : Nat) (w : World) (hs : s.size ≤ 9223372036854775807) (hw : widths ws) (hlen : ws.length ≤ 10)
    (hg : g0 < w.heap.size) (hc : ∀ j, (h : j < ws.length) → w.cell? ⟨g0, j, none⟩ = some (.int .i64 ((ws[j] : Nat) : Int))) :
    Calls Tryz.prog 227 #[.string s, .slice (some ⟨g0, 0, none⟩) ws.length c0] w (RetPrt (prt ws s.data.toList) w) := by
  obtain ⟨i0, hi⟩ : ∃ i, Tryz.prog.info? 3 = some i := ⟨_, rfl⟩
  have hz0 : i0.zero = some (.int .i64 0) := by obtain rfl := Option.some.inj (hi.symm.trans rfl); rfl
  have hz1 : i0.size = 1 := by obtain rfl := Option.some.inj (hi.symm.trans rfl); rfl
  have hz2 : i0.bytes = 8 := by obtain rfl := Option.some.inj (hi.symm.trans rfl); rfl
  obtain ⟨O, hO⟩ : ∃ O, prt ws s.data.toList = O := ⟨_, rfl⟩
  have HO := Lib.hid hO
  rw [hO]
  have HW := Lib.hid hw
  have HC := Lib.hid hc
  obtain ⟨N, hN⟩ : ∃ N, ws.length = N := ⟨_, rfl⟩
  have HN := Lib.hid hN
  rw [hN] at hlen ⊢
  clear hO hw hc hN
  go_enter Tryz.func227, Tryz.ntmps227
  go_wp2
  go_loopw [0, 6, 13] (fun x b i wr => ∃ (k m c : Nat) (A : Option Addr) (t : ByteArray) (acc : List Int), k ≤ N ∧ i = .int .i64 k ∧ x = .string t ∧ b = .slice A m c ∧ m = k ∧ Hid (acc.length = m) ∧ t.size ≤ 9223372036854775807 ∧
      wr.ownsRow w.heap.size 3 1 (.slice A m c) m (intV acc) ∧ Below w.heap.size w wr ∧ Hid (O = (prt (ws.drop k) t.data.toList).map (fun r => acc ++ r))) (fun _ _ i _ => N - (intOf i).toNat)
  case atStart => exact ⟨0, 0, 0, none, s, [], Nat.zero_le _, rfl, rfl, rfl, rfl, Lib.hid rfl, hs, World.ownsRow_nil _ _ _ _, Below.refl _ _, Lib.hid (by rw [← HO.out, List.drop_zero]; simp)⟩
  case round =>
    obtain ⟨k, m, c, A, t, acc, hk, rfl, rfl, rfl, hmk, HM, ht, hown, hb, HR⟩ := hrel
    subst hmk
    have hz := hb.size
    rcases Nat.lt_or_ge m N with hlt | hge
    · have hlt' : m < ws.length := by rw [HN.out]; exact hlt
      obtain ⟨n1, n2⟩ := HW.out m hlt'
      have hcell := HC.out m hlt'
      have hdrop : ws.drop m = ws[m] :: ws.drop (m + 1) := (List.getElem_cons_drop hlt').symm
      obtain ⟨n, hn⟩ : ∃ n, ws[m] = n := ⟨_, rfl⟩
      rw [hn] at n1 n2 hcell hdrop
      have hcell := (hb.cell (p := ⟨g0, m, none⟩) hg).trans hcell
      have hR := HR.out
      rw [hdrop] at hR
      clear hn hdrop
      by_cases hsz : t.size < n
      · rw [prt_short (by rw [szL]; exact hsz)] at hR
        have HR2 := Lib.hid (show O = none from hR)
        rw [HR2.out]
        clear hR
        go_wp2
        go_ret2
        exact prt_none hb
      have q : (n : Int) ≤ (t.size : Int) := by omega
      have hd := isdigs_c (t.extract 0 n)
      have HD := Lib.hid (fun w => hd w (by rw [ByteArray.size_extract]; omega))
      clear hd
      rw [ext_to] at HD
      cases hdg : digs (t.data.toList.take n) with
      | false =>
        rw [hdg] at HD
        rw [prt_bad hdg] at hR
        have HR2 := Lib.hid (show O = none from hR)
        rw [HR2.out]
        clear hR hdg
        go_wp2_with fail
        refine (HD.out _).mono ?_
        rintro e w2 ⟨rfl, rfl⟩
        go_wp2
        go_ret2
        exact prt_none hb
      | true =>
        rw [hdg] at HD
        have HA := Lib.hid (fun w => atoi_c (t.extract 0 n) w (by rw [ByteArray.size_extract]; omega) (by rw [ext_to]; exact hdg))
        rw [ext_to] at HA
        have hdv := dv_lt4 hdg (by rw [List.length_take]; omega)
        rw [prt_next (by rw [szL]; omega) hdg] at hR
        obtain ⟨v, hv⟩ : ∃ v, dv (t.data.toList.take n) = v := ⟨_, rfl⟩
        rw [hv] at HA hR hdv
        have HR2 := Lib.hid (show O = (prt (ws.drop (m + 1)) (t.extract n t.size).data.toList).map (fun r => (acc ++ [(v : Int)]) ++ r) by
          rw [hR, ext_from, Option.map_map]
          congr 1
          funext r
          simp)
        have hts : (t.extract n t.size).size ≤ 9223372036854775807 := by rw [ByteArray.size_extract]; omega
        have HTS := Lib.hid hts
        have HOW := Lib.hid hown
        have HM2 := Lib.hid (show (acc ++ [(v : Int)]).length = m + 1 by rw [List.length_append, HM.out]; rfl)
        clear hR hdg hv hown hts
        go_wp2_with fail
        refine (HD.out _).mono ?_
        rintro e w2 ⟨rfl, rfl⟩
        go_wp2_with fail
        refine (HA.out _).mono ?_
        rintro e w2 ⟨rfl, hb2⟩
        have hown2 := own_below HOW.out hb2
        have hbb := below_then hb2 hb hz
        have hz2' := hbb.size
        have HOW2 := Lib.hid hown2
        clear hown2 hb2
        go_wp2_with (at_builtin; (with_reducible refine wpList_push_own rfl _ _ 68 rfl w.heap.size 3 i0 (.int .i64 0) 8 Tryz.underlying68 hi hz0 hz1 hz2 rfl (.slice A m c) m (intV acc) rfl HOW2.out (.int .i64 (v : Int)) rfl rfl (by unfold maxLen; omega) (by omega) hz2' ?_); intro A3 c3 w3 hown3 hg3)
        rw [intV_snoc] at hown3
        have hb3 := hbb.grown hg3 hz2' (fun k hk => (HOW2.out.lt k hk).1)
        have HOW3 := Lib.hid hown3
        clear hown3 hg3
        go_wp2
        go_roundw
        case rel => exact ⟨m + 1, m + 1, c3, A3, _, acc ++ [(v : Int)], by omega, by go_num, rfl, rfl, rfl, HM2, HTS.out, HOW3.out, hb3, HR2⟩
        case measure => simp [intOf]; omega
    · obtain rfl : m = N := by omega
      have hR := HR.out
      rw [List.drop_eq_nil_of_le (by rw [HN.out]; exact Nat.le_refl _)] at hR
      have HOW := Lib.hid hown
      have HB := Lib.hid hb
      clear hown hb
      by_cases he : t.data.toList = []
      · have hR2 := Lib.hid (show O = some acc by rw [hR, he]; simp [prt])
        have ht0 : t = ⟨#[]⟩ := by apply ByteArray.ext; rw [← Array.toList_inj]; exact he
        subst ht0
        clear he hR
        go_wp2
        go_ret2
        rw [hR2.out]
        refine ⟨_, rfl, HB.out, fun xs hxs hne => ?_⟩
        obtain rfl := Option.some.inj hxs
        have hm := HM.out
        have hpos : 0 < acc.length := List.length_pos_iff.2 hne
        obtain ⟨g, rfl⟩ : ∃ g, A = some ⟨g, 0, none⟩ := by
          rcases HOW.out.2 with h1 | ⟨g, cap, cur, hv, -⟩
          · obtain ⟨h2, h3⟩ := h1
            injection h2 with e1 e2 e3
            omega
          · injection hv with e1 e2 e3
            exact ⟨g, e1⟩
        have hcs := HOW.out.cells (g := g) rfl
        refine ⟨g, c, by rw [hm]; rfl, fun j hj => ?_⟩
        have := hcs j _ (intV_at hj)
        by_cases e : j = 0
        · subst e; exact this
        · simpa [Addr.add, e] using this
      · have hR2 := Lib.hid (show O = none by
          rw [hR, prt, if_neg (by rw [List.isEmpty_iff]; exact he)]; rfl)
        have e1 : t.toList.isEmpty = false := by rw [Lib.toList_data, Bool.eq_false_iff]; intro h; rw [List.isEmpty_iff] at h; exact he h
        clear he hR
        go_wp2
        go_ret2
        rw [hR2.out]
        exact prt_none HB.out

/-! ### The day of a week -/
def RetO (o : Option Int) (w : World) (e : Ending) (w' : World) : Prop := ∃ n : Int, e = .returned (.tuple #[.int .i64 n, .bool o.isSome]) ∧ (∀ v, o = some v → n = v) ∧ Below w.heap.size w w'
theorem retO_none {o : Option Int} {n : Int} {w w' : World} (ho : o = none) (hb : Below w.heap.size w w') : RetO o w (.returned (.tuple #[.int .i64 n, .bool false])) w' := by subst ho; exact ⟨n, rfl, (fun v h => by cases h), hb⟩
end Go.Proofs.YtklblmbacnnoeaaGreatDoor

namespace Go.Proofs.YtklblmbacnnoeaaGreatDoor
open Go.RowKit Limb
set_option linter.unusedVariables false
set_option linter.unusedSimpArgs false

/-! ### A builder -/
theorem ext_mid (t : ByteArray) (a b : Nat) : (t.extract a b).data.toList = (t.data.toList.drop a).take (b - a) := by rw [Lib.extract_data]
end Go.Proofs.YtklblmbacnnoeaaGreatDoor

namespace Go.Proofs.YtklblmbacnnoeaaGreatDoor
open Go.RowKit Limb Work Nmb
set_option linter.unusedVariables false
set_option linter.unusedSimpArgs false

/-! ### The form with points -/
theorem readO4_no {pv : Int} {l : List UInt8} (h : pointB l = false) : readO 4 pv l = none := by
  show (if pointB l = true then _ else none) = none
  rw [if_neg (by rw [h]; simp)]
theorem readO4_yes {pv : Int} {l : List UInt8} (h : pointB l = true) : readO 4 pv l = dayO (numF (l.take 4)) (numF ((l.drop 5).take 2)) (numF (l.drop 8)) := by
  show (if pointB l = true then _ else none) = _
  rw [if_pos h]
/-! ### Three numbers -/
theorem prt_three {a b c : Nat} (hc : 0 < c) {l : List UInt8} {xs : List Int} (h : prt [a, b, c] l = some xs) : ∃ x y z, xs = [x, y, z] ∧ (a ≤ 4 → 0 ≤ x ∧ x ≤ 9999) ∧ (b ≤ 4 → 0 ≤ y ∧ y ≤ 9999) ∧ (c ≤ 4 → 0 ≤ z ∧ z ≤ 9999) ∧ (c ≤ 2 → z ≤ 99) ∧ (b ≤ 2 → y ≤ 99) ∧ (c ≤ 1 → z ≤ 9) := by
  rw [prt3 hc] at h
  split at h
  · rename_i hd
    obtain ⟨h0, h1, h2, h3⟩ := hd
    injection h with h
    have a1 := dv_lt h1
    have a2 := dv_lt h2
    have a3 := dv_lt h3
    have l1 : (l.take a).length = a := by simp; omega
    have l2 : ((l.drop a).take b).length = b := by simp; omega
    have l3 : (l.drop (a + b)).length = c := by simp; omega
    rw [l1] at a1; rw [l2] at a2; rw [l3] at a3
    refine ⟨_, _, _, h.symm, fun hk => ?_, fun hk => ?_, fun hk => ?_, fun hk => ?_, fun hk => ?_, fun hk => ?_⟩
    · have : 10 ^ a ≤ 10 ^ 4 := Nat.pow_le_pow_right (by decide) hk
      omega
    · have : 10 ^ b ≤ 10 ^ 4 := Nat.pow_le_pow_right (by decide) hk
      omega
    · have : 10 ^ c ≤ 10 ^ 4 := Nat.pow_le_pow_right (by decide) hk
      omega
    · have : 10 ^ c ≤ 10 ^ 2 := Nat.pow_le_pow_right (by decide) hk
      omega
    · have : 10 ^ b ≤ 10 ^ 2 := Nat.pow_le_pow_right (by decide) hk
      omega
    · have : 10 ^ c ≤ 10 ^ 1 := Nat.pow_le_pow_right (by decide) hk
      omega
  · cases h
theorem readO_1 (pv : Int) (l : List UInt8) : readO 1 pv l = opt3 dayO (prt [4, 2, 2] l) := by
  rw [opt3_prt (by decide) l dayO (fun x y z h => dayO_neg (by omega))]; rfl
theorem dayO_is (y m d : Int) : dayO y m d = if dateB y m d = true then some (dayR y m d) else none := by
  unfold dayO
  cases h : dateB y m d with
  | true => rw [if_pos rfl, if_pos rfl, dayR_yes h]
  | false => rfl
theorem retO_day {y m d : Int} {w w' : World} (hb : Below w.heap.size w w') : RetO (dayO y m d) w (.returned (.tuple #[.int .i64 (dayR y m d), .bool (dateB y m d)])) w' := by
  rw [dayO_is]
  cases h : dateB y m d with
  | true => exact ⟨_, rfl, fun v hv => Option.some.inj hv, hb⟩
  | false => exact ⟨_, rfl, (fun v hv => by cases hv), hb⟩
theorem row3 (w : World) (a b c : Nat) (t : TypeId) : ∀ j, (h : j < [a, b, c].length) → (w.alloc (.cells #[.int .i64 (a : Int), .int .i64 (b : Int), .int .i64 (c : Int)] t)).cell? ⟨w.heap.size, j, none⟩ = some (.int .i64 (([a, b, c][j] : Nat) : Int)) := by
  intro j hj
  refine (cell_of_row _ _ _ _ _ _ (heap_new w _ rfl)).trans ?_
  match j, hj with
  | 0, _ => rfl
  | 1, _ => rfl
  | 2, _ => rfl
theorem widths3 {a b c : Nat} (ha : 1 ≤ a ∧ a ≤ 4) (hb : 1 ≤ b ∧ b ≤ 4) (hc : 1 ≤ c ∧ c ≤ 4) : widths [a, b, c] := by
  intro j hj
  match j, hj with
  | 0, _ => exact ha
  | 1, _ => exact hb
  | 2, _ => exact hc
/-- What ReadDay comes to. -/
def rdN (form pv : Int) (l : List UInt8) : Int := if formB form = true ∧ (1 ≤ pv ∧ pv ≤ 9900) then (readO form pv l).getD 0 else 0
def rdF (form pv : Int) (l : List UInt8) : Int := if formB form = false then 4 else if ¬ (1 ≤ pv ∧ pv ≤ 9900) then 1 else if (readO form pv l).isSome = true then 0 else 10
end Go.Proofs.YtklblmbacnnoeaaGreatDoor

namespace Go.Proofs.YtklblmbacnnoeaaGreatDoor
open Go.RowKit Limb Nmb
set_option linter.unusedVariables false
set_option linter.unusedSimpArgs false

def RetI (v : Int) (w : World) (e : Ending) (w' : World) : Prop := e = .returned (.int .i64 v) ∧ Below w.heap.size w w'
theorem fout_b (n lo hi : Int) (w : World) : Calls Tryz.prog 58 #[.int .i64 n, .int .i64 lo, .int .i64 hi] w fun e w' => w = w' ∧ e = .returned (.bool (!decide (lo ≤ n ∧ n ≤ hi))) := by
  by_cases h : lo ≤ n ∧ n ≤ hi
  · rw [decide_eq_true h]; exact out_no n lo hi w h
  · rw [decide_eq_false h]; exact out_yes n lo hi w h
theorem fenc_fin : ∀ n : Fin 128, Utf8.encode ((n.val : Nat) : Int) = (⟨#[UInt8.ofNat n.val]⟩ : ByteArray) := by decide +kernel
theorem fenc_ascii {g : UInt8} (h : g.toNat < 128) : Utf8.encode ((g.toNat : Nat) : Int) = (⟨#[g]⟩ : ByteArray) := by
  have := fenc_fin ⟨g.toNat, h⟩
  rw [this]
  simp
theorem enc_small {b : Int} (h0 : 0 ≤ b) (h1 : b < 128) : Utf8.encode b = ⟨#[UInt8.ofNat b.toNat]⟩ := by
  have h : Utf8.encode (((UInt8.ofNat b.toNat).toNat : Nat) : Int) = ⟨#[UInt8.ofNat b.toNat]⟩ := fenc_ascii (by simp; omega)
  have e : (((UInt8.ofNat b.toNat).toNat : Nat) : Int) = b := by simp; omega
  rw [e] at h
  exact h
set_option maxHeartbeats 1000000 in
set_option maxRecDepth 100000 in
theorem markf_c (b : Int) (w : World) (hb : 0 ≤ b ∧ b ≤ 255) : Calls Tryz.prog 53 #[.int .u8 b] w (RetB (markF b) w) := by
  obtain ⟨b0, b1⟩ := hb
  have hcv : ∀ w, (convert 5 9 (.int .u8 b)).run Tryz.prog w = .ok (.string (Utf8.encode b)) w := fun w => run_convert_int_string _ _ _ _ _ (by kernel_rfl) (by kernel_rfl)
  by_cases h1 : b < 32
  · rw [show markF b = true by unfold markF; simp [h1]]
    generalize Utf8.encode b = s at hcv
    go_enter Tryz.func53, Tryz.ntmps53
    go_wp2
    go_ret
    exact ⟨rfl, Below.refl _ _⟩
  by_cases h2 : 126 < b
  · rw [show markF b = true by unfold markF; simp [h2]]
    generalize Utf8.encode b = s at hcv
    go_enter Tryz.func53, Tryz.ntmps53
    go_wp2
    go_ret
    exact ⟨rfl, Below.refl _ _⟩
  have hs := enc_small b0 (by omega)
  have e8 : (((UInt8.ofNat b.toNat).toNat : Nat) : Int) = b := by simp; omega
  have ht : tagL (Utf8.encode b).data.toList = tagC b := by
    rw [hs]
    show ([UInt8.ofNat b.toNat].all fun c => tagC (c.toNat : Int)) = _
    simp only [List.all_cons, List.all_nil, Bool.and_true, e8]
  have hl : inL (Utf8.encode b).data.toList 97 122 = decide (97 ≤ b ∧ b ≤ 122) := by
    rw [hs]
    show inL [UInt8.ofNat b.toNat] 97 122 = _
    by_cases h : 97 ≤ b ∧ b ≤ 122
    · rw [decide_eq_true h]
      exact inL_mk (fun i hi => by
        obtain rfl : i = 0 := by simpa using hi
        show 97 ≤ (((UInt8.ofNat b.toNat).toNat : Nat) : Int) ∧ (((UInt8.ofNat b.toNat).toNat : Nat) : Int) ≤ 122
        rw [e8]; exact h)
    · rw [decide_eq_false h]
      exact inL_no (i := 0) (by simp) (fun k => h (by
        have k' : 97 ≤ (((UInt8.ofNat b.toNat).toNat : Nat) : Int) ∧ (((UInt8.ofNat b.toNat).toNat : Nat) : Int) ≤ 122 := k
        rw [e8] at k'; exact k'))
  have hsz : (Utf8.encode b).size = 1 := by rw [hs]; rfl
  generalize Utf8.encode b = s at hcv ht hl hsz
  have HT := Lib.hid (fun w => istag_c s w (by omega))
  have HL : Hid (∀ w, Calls Tryz.prog 107 #[.string s, .int .u8 97, .int .u8 122] w fun e w' => w = w' ∧ e = .returned (.bool (inL s.data.toList 97 122))) := Lib.hid (fun w => inb_c s 97 122 w (by omega))
  rw [ht] at HT
  rw [hl] at HL
  clear hs e8 ht hl hsz
  have hm : markF b = (tagC b || decide (97 ≤ b ∧ b ≤ 122) || decide (b = 45) || decide (b = 46)) := by unfold markF; simp [h1, h2]
  rw [hm]
  clear hm
  cases ht : tagC b with
  | true =>
    rw [ht] at HT
    clear ht
    go_enter Tryz.func53, Tryz.ntmps53
    go_wp2_with fail
    refine (HT.out _).mono ?_
    rintro e w2 ⟨rfl, hb2⟩
    go_wp2
    go_ret
    exact ⟨rfl, hb2⟩
  | false =>
    rw [ht] at HT
    clear ht
    by_cases h3 : 97 ≤ b ∧ b ≤ 122
    · rw [decide_eq_true h3] at HL ⊢
      clear h3
      go_enter Tryz.func53, Tryz.ntmps53
      go_wp2_with fail
      refine (HT.out _).mono ?_
      rintro e w2 ⟨rfl, hb2⟩
      go_wp2_with fail
      refine (HL.out _).mono ?_
      rintro e w3 ⟨rfl, rfl⟩
      go_wp2
      go_ret
      exact ⟨rfl, hb2⟩
    · rw [decide_eq_false h3] at HL ⊢
      clear h3
      go_enter Tryz.func53, Tryz.ntmps53
      go_wp2_with fail
      refine (HT.out _).mono ?_
      rintro e w2 ⟨rfl, hb2⟩
      go_wp2_with fail
      refine (HL.out _).mono ?_
      rintro e w3 ⟨rfl, rfl⟩
      by_cases h4 : b = 45
      · subst h4
        go_wp2
        go_ret
        exact ⟨rfl, hb2⟩
      · have h4' : (b == 45) = false := by simpa using h4
        have H4 := Lib.hid (decide_eq_false h4)
        clear h4
        by_cases h5 : b = 46
        · subst h5
          go_wp2
          go_ret
          exact ⟨rfl, hb2⟩
        · have h5' : (b == 46) = false := by simpa using h5
          have H5 := Lib.hid (decide_eq_false h5)
          clear h5
          go_wp2
          go_ret
          exact ⟨by rw [H4.out, H5.out]; rfl, hb2⟩

theorem formw_c (n : Int) (w : World) : Calls Tryz.prog 111 #[.int .i64 n] w fun e w' => w = w' ∧ e = .returned (.int .i64 (formW n)) := by
  by_cases h1 : n = 1
  · subst h1
    go_enter Tryz.func111, Tryz.ntmps111
    go_wp2
    go_ret
    exact ⟨rfl, rfl⟩
  by_cases h3 : n = 3
  · subst h3
    go_enter Tryz.func111, Tryz.ntmps111
    go_wp2
    go_ret
    exact ⟨rfl, rfl⟩
  by_cases h4 : n = 4
  · subst h4
    go_enter Tryz.func111, Tryz.ntmps111
    go_wp2
    go_ret
    exact ⟨rfl, rfl⟩
  by_cases h5 : n = 5
  · subst h5
    go_enter Tryz.func111, Tryz.ntmps111
    go_wp2
    go_ret
    exact ⟨rfl, rfl⟩
  have e : formW n = 0 := by unfold formW; rw [if_neg (by omega), if_neg h4, if_neg h5]
  rw [e]
  have k1 : (n == 1) = false := by simpa using h1
  have k3 : (n == 3) = false := by simpa using h3
  have k4 : (n == 4) = false := by simpa using h4
  have k5 : (n == 5) = false := by simpa using h5
  clear h1 h3 h4 h5 e
  go_enter Tryz.func111, Tryz.ntmps111
  go_wp2
  go_ret
  exact ⟨rfl, rfl⟩
end Go.Proofs.YtklblmbacnnoeaaGreatDoor

namespace Go.Proofs.YtklblmbacnnoeaaGreatDoor
open Go.RowKit Limb Nmb
set_option linter.unusedVariables false
set_option linter.unusedSimpArgs false

set_option maxHeartbeats 1000000 in
set_option maxRecDepth 100000 in
theorem marks_c (f : Fmt) (A : Option Addr) (c : Nat) (w : World) (hm : 0 ≤ f.mark ∧ f.mark ≤ 255) (hq : 0 ≤ f.quote ∧ f.quote ≤ 255) :
    Calls Tryz.prog 24 #[fmtG f A c] w (RetI (marksF f.mark f.quote) w) := by
  obtain ⟨m, q, ks, hd, tl, ct, sm⟩ := f
  simp only at *
  unfold fmtG
  simp only
  by_cases h0 : m = 0
  · subst h0
    by_cases h1 : q = 0
    · subst h1
      go_enter Tryz.func24, Tryz.ntmps24
      go_wp2
      go_ret
      exact ⟨rfl, by go_grown⟩
    · rw [show marksF 0 q = 3 by unfold marksF; simp [h1]]
      have k1 : (q != 0) = true := by simpa using h1
      clear h1
      go_enter Tryz.func24, Tryz.ntmps24
      go_wp2
      go_ret
      exact ⟨rfl, by go_grown⟩
  have k0 : (m != 0) = true := by simpa using h0
  have k0' : (m == 0) = false := by simpa using h0
  have HM := Lib.hid (fun w => markf_c m w hm)
  have HQ := Lib.hid (fun w => markf_c q w hq)
  have hF := heap_new w (.cells #[.int .u8 m, .int .u8 q, .slice A ks.length c, .string hd, .string tl, .string ct, .string sm] 24) rfl
  have hb0 : Below w.heap.size w (w.alloc (.cells #[.int .u8 m, .int .u8 q, .slice A ks.length c, .string hd, .string tl, .string ct, .string sm] 24)) := by go_grown
  cases e1 : markF m with
  | true =>
    rw [e1] at HM
    rw [show marksF m q = 12 by unfold marksF; simp [h0, e1]]
    clear e1 h0
    go_enter Tryz.func24, Tryz.ntmps24
    go_wp2_with fail
    refine (HM.out _).mono ?_
    rintro e w2 ⟨rfl, hb2⟩
    obtain ⟨⟨f0, f1, f2, f3, f4, f5, f6⟩, f7⟩ := obox7 (heap_below hF hb2)
    have hB2 := below_then hb2 hb0 hb0.size
    go_wp2
    go_ret
    exact ⟨rfl, hB2⟩
  | false =>
    rw [e1] at HM
    by_cases h1 : q = 0
    · subst h1
      rw [show marksF m 0 = 0 by unfold marksF; simp [h0, e1]]
      clear e1 h0
      go_enter Tryz.func24, Tryz.ntmps24
      go_wp2_with fail
      refine (HM.out _).mono ?_
      rintro e w2 ⟨rfl, hb2⟩
      obtain ⟨⟨f0, f1, f2, f3, f4, f5, f6⟩, f7⟩ := obox7 (heap_below hF hb2)
      have hB2 := below_then hb2 hb0 hb0.size
      go_wp2
      go_ret
      exact ⟨rfl, hB2⟩
    · have k1 : (q != 0) = true := by simpa using h1
      cases e2 : markF q with
      | true =>
        rw [e2] at HQ
        rw [show marksF m q = 12 by unfold marksF; simp [h0, e1, h1, e2]]
        clear e1 h0 e2 h1
        go_enter Tryz.func24, Tryz.ntmps24
        go_wp2_with fail
        refine (HM.out _).mono ?_
        rintro e w2 ⟨rfl, hb2⟩
        obtain ⟨⟨f0, f1, f2, f3, f4, f5, f6⟩, f7⟩ := obox7 (heap_below hF hb2)
        have hB2 := below_then hb2 hb0 hb0.size
        go_wp2_with fail
        refine (HQ.out _).mono ?_
        rintro e w3 ⟨rfl, hb3⟩
        have hB3 := below_then hb3 hB2 hB2.size
        obtain ⟨⟨f0, f1, f2, f3, f4, f5, f6⟩, f7⟩ := obox7 (heap_below (heap_below hF hb2) hb3)
        go_wp2
        go_ret
        exact ⟨rfl, hB3⟩
      | false =>
        rw [e2] at HQ
        by_cases h3 : m = q
        · subst h3
          rw [show marksF m m = 12 by unfold marksF; simp [h0]]
          clear e1 h0 e2 h1
          go_enter Tryz.func24, Tryz.ntmps24
          go_wp2_with fail
          refine (HM.out _).mono ?_
          rintro e w2 ⟨rfl, hb2⟩
          obtain ⟨⟨f0, f1, f2, f3, f4, f5, f6⟩, f7⟩ := obox7 (heap_below hF hb2)
          have hB2 := below_then hb2 hb0 hb0.size
          go_wp2_with fail
          refine (HQ.out _).mono ?_
          rintro e w3 ⟨rfl, hb3⟩
          have hB3 := below_then hb3 hB2 hB2.size
          obtain ⟨⟨f0, f1, f2, f3, f4, f5, f6⟩, f7⟩ := obox7 (heap_below (heap_below hF hb2) hb3)
          go_wp2
          go_ret
          exact ⟨rfl, hB3⟩
        · have k3 : (m == q) = false := by simpa using h3
          rw [show marksF m q = 0 by unfold marksF; simp [h0, e1, h1, e2, h3]]
          clear e1 h0 e2 h1 h3
          go_enter Tryz.func24, Tryz.ntmps24
          go_wp2_with fail
          refine (HM.out _).mono ?_
          rintro e w2 ⟨rfl, hb2⟩
          obtain ⟨⟨f0, f1, f2, f3, f4, f5, f6⟩, f7⟩ := obox7 (heap_below hF hb2)
          have hB2 := below_then hb2 hb0 hb0.size
          go_wp2_with fail
          refine (HQ.out _).mono ?_
          rintro e w3 ⟨rfl, hb3⟩
          have hB3 := below_then hb3 hB2 hB2.size
          obtain ⟨⟨f0, f1, f2, f3, f4, f5, f6⟩, f7⟩ := obox7 (heap_below (heap_below hF hb2) hb3)
          go_wp2
          go_ret
          exact ⟨rfl, hB3⟩

set_option maxHeartbeats 2000000 in
set_option maxRecDepth 100000 in
theorem idle_c (f : Fmt) (A : Option Addr) (c : Nat) (k : Col) (w : World) :
    Calls Tryz.prog 112 #[fmtG f A c, colG k] w (RetB (idleB f.mark k) w) := by
  obtain ⟨m, q, ks, hd, tl, ct, sm⟩ := f
  simp only at *
  unfold fmtG
  simp only
  obtain ⟨nm, kd, wd, pl, fo, ri, fi, ne⟩ := k
  unfold colG
  simp only
  by_cases h1 : kd = 2
  · subst h1
    by_cases h3 : fo = 0
    · subst h3
      by_cases h4 : m = 0
      · subst h4
        rw [show idleB 0 ⟨nm, 2, wd, pl, 0, ri, fi, ne⟩ = true by unfold idleB; simp []]
        go_enter Tryz.func112, Tryz.ntmps112
        go_wp2
        go_quiet (fail)
        go_wp2
        go_ret
        exact ⟨rfl, below_drewN (by go_grown) _⟩
      · have h4a : (m == 0) = false := by simpa using h4
        cases ri with
        | true =>
          rw [show idleB m ⟨nm, 2, wd, pl, 0, true, fi, ne⟩ = false by unfold idleB; simp [h4]]
          go_enter Tryz.func112, Tryz.ntmps112
          go_wp2
          go_quiet (fail)
          go_wp2
          go_ret
          exact ⟨rfl, below_drewN (by go_grown) _⟩
        | false =>
          by_cases h5 : fi = 0
          · subst h5
            rw [show idleB m ⟨nm, 2, wd, pl, 0, false, 0, ne⟩ = true by unfold idleB; simp [h4]]
            go_enter Tryz.func112, Tryz.ntmps112
            go_wp2
            go_quiet (fail)
            go_wp2
            go_ret
            exact ⟨rfl, below_drewN (by go_grown) _⟩
          · have h5a : (fi == 0) = false := by simpa using h5
            rw [show idleB m ⟨nm, 2, wd, pl, 0, false, fi, ne⟩ = false by unfold idleB; simp [h4, h5]]
            go_enter Tryz.func112, Tryz.ntmps112
            go_wp2
            go_quiet (fail)
            go_wp2
            go_ret
            exact ⟨rfl, below_drewN (by go_grown) _⟩
    · have h3a : (fo == 0) = false := by simpa using h3
      rw [show idleB m ⟨nm, 2, wd, pl, fo, ri, fi, ne⟩ = false by unfold idleB; simp [h3]]
      go_enter Tryz.func112, Tryz.ntmps112
      go_wp2
      go_quiet (fail)
      go_wp2
      go_ret
      exact ⟨rfl, below_drewN (by go_grown) _⟩
  by_cases h1b : kd = 3
  · subst h1b
    clear h1
    by_cases h2 : pl = 0
    · subst h2
      cases ri with
      | true =>
        rw [show idleB m ⟨nm, 3, wd, 0, fo, true, fi, ne⟩ = false by unfold idleB; simp []]
        go_enter Tryz.func112, Tryz.ntmps112
        go_wp2
        go_quiet (fail)
        go_wp2
        go_ret
        exact ⟨rfl, below_drewN (by go_grown) _⟩
      | false =>
        by_cases h5 : fi = 0
        · subst h5
          rw [show idleB m ⟨nm, 3, wd, 0, fo, false, 0, ne⟩ = true by unfold idleB; simp []]
          go_enter Tryz.func112, Tryz.ntmps112
          go_wp2
          go_quiet (fail)
          go_wp2
          go_ret
          exact ⟨rfl, below_drewN (by go_grown) _⟩
        · have h5a : (fi == 0) = false := by simpa using h5
          rw [show idleB m ⟨nm, 3, wd, 0, fo, false, fi, ne⟩ = false by unfold idleB; simp [h5]]
          go_enter Tryz.func112, Tryz.ntmps112
          go_wp2
          go_quiet (fail)
          go_wp2
          go_ret
          exact ⟨rfl, below_drewN (by go_grown) _⟩
    · have h2a : (pl == 0) = false := by simpa using h2
      rw [show idleB m ⟨nm, 3, wd, pl, fo, ri, fi, ne⟩ = false by unfold idleB; simp [h2]]
      go_enter Tryz.func112, Tryz.ntmps112
      go_wp2
      go_quiet (fail)
      go_wp2
      go_ret
      exact ⟨rfl, below_drewN (by go_grown) _⟩
  have h1a : (kd == 2) = false := by simpa using h1
  have h1c : (kd == 3) = false := by simpa using h1b
  by_cases h2 : pl = 0
  · subst h2
    by_cases h3 : fo = 0
    · subst h3
      by_cases h4 : m = 0
      · subst h4
        rw [show idleB 0 ⟨nm, kd, wd, 0, 0, ri, fi, ne⟩ = true by unfold idleB; simp [h1, h1b]]
        go_enter Tryz.func112, Tryz.ntmps112
        go_wp2
        go_quiet (fail)
        go_wp2
        go_ret
        exact ⟨rfl, below_drewN (by go_grown) _⟩
      · have h4a : (m == 0) = false := by simpa using h4
        cases ri with
        | true =>
          rw [show idleB m ⟨nm, kd, wd, 0, 0, true, fi, ne⟩ = false by unfold idleB; simp [h1, h1b, h4]]
          go_enter Tryz.func112, Tryz.ntmps112
          go_wp2
          go_quiet (fail)
          go_wp2
          go_ret
          exact ⟨rfl, below_drewN (by go_grown) _⟩
        | false =>
          by_cases h5 : fi = 0
          · subst h5
            rw [show idleB m ⟨nm, kd, wd, 0, 0, false, 0, ne⟩ = true by unfold idleB; simp [h1, h1b, h4]]
            go_enter Tryz.func112, Tryz.ntmps112
            go_wp2
            go_quiet (fail)
            go_wp2
            go_ret
            exact ⟨rfl, below_drewN (by go_grown) _⟩
          · have h5a : (fi == 0) = false := by simpa using h5
            rw [show idleB m ⟨nm, kd, wd, 0, 0, false, fi, ne⟩ = false by unfold idleB; simp [h1, h1b, h4, h5]]
            go_enter Tryz.func112, Tryz.ntmps112
            go_wp2
            go_quiet (fail)
            go_wp2
            go_ret
            exact ⟨rfl, below_drewN (by go_grown) _⟩
    · have h3a : (fo == 0) = false := by simpa using h3
      rw [show idleB m ⟨nm, kd, wd, 0, fo, ri, fi, ne⟩ = false by unfold idleB; simp [h1, h1b, h3]]
      go_enter Tryz.func112, Tryz.ntmps112
      go_wp2
      go_quiet (fail)
      go_wp2
      go_ret
      exact ⟨rfl, below_drewN (by go_grown) _⟩
  · have h2a : (pl == 0) = false := by simpa using h2
    rw [show idleB m ⟨nm, kd, wd, pl, fo, ri, fi, ne⟩ = false by unfold idleB; simp [h1, h1b, h2]]
    go_enter Tryz.func112, Tryz.ntmps112
    go_wp2
    go_quiet (fail)
    go_wp2
    go_ret
    exact ⟨rfl, below_drewN (by go_grown) _⟩

end Go.Proofs.YtklblmbacnnoeaaGreatDoor
