/- Plain facts of a right format: its marks, its columns, its tags. The walks of package amount's days: numbers out of digits, parts, the day of a week. -/
import Derived.Test.YtbnjejenejoibaaGreatDoorT5
import Derived.Test.YtbnjejenejoibaaGreatDoorM0
import Derived.Test.YtbnjejenejoibaaGreatDoorF3
import Derived.Test.YtbnjejenejoibaaGreatDoorShelfS
import Derived.Lib.AtoiErrMem
import Derived.Test.YtbnjejenejoibaaGreatDoorS1
import Derived.Test.YtbnjejenejoibaaGreatDoorE4
import Derived.Deep.RegionHeld3
import Derived.Test.YtbnjejenejoibaaGreatDoorT1
import Derived.Test.YtbnjejenejoibaaGreatDoorShelf
import Derived.Lib.Hide
import Derived.Test.YtbnjejenejoibaaGreatDoorA6
-- merged: VF M1 M3 M4 M5 T16 T17 Z0 T6 T7 T8 T9 T10 T13 T14
namespace Go.Proofs.YtbnjejenejoibaaGreatDoor
open Limb Nmb Work
set_option linter.unusedVariables false
set_option linter.unusedSimpArgs false
structure ColK (mark : Int) (c : Col) : Prop where
 kind : 1 <= c.kind /\ c.kind <= 3
 width : 1 <= c.width /\ c.width <= 100
 places : c.kind = 2 -> 0 <= c.places /\ c.places <= 9
 form : c.kind = 3 -> formW c.form ≠ 0
 fixed : mark = 0 -> c.kind ≠ 3 -> c.fill = 32 ∨ (c.kind = 2 /\ c.fill = 48 /\ c.right = true)
 day : mark = 0 -> c.kind = 3 -> c.width = formW c.form
 left : c.kind = 3 -> c.right = false
theorem colF_ok {mark : Int} {c : Col} {b : List Col} (h : colF mark c b = 0) : ColK mark c := by
 unfold colF at h
 split at h; · cases h
 split at h; · cases h
 split at h; · cases h
 rename_i h3
 split at h; · cases h
 rename_i h4
 split at h; · cases h
 rename_i h5
 split at h; · cases h
 rename_i h6
 split at h; · cases h
 rename_i h7
 have hi : idleB mark c = true := by
  cases hq : idleB mark c with
  | true => rfl
  | false => exact absurd hq h7
 have hl : c.kind = 3 -> c.right = false := fun hk => by
  unfold idleB at hi
  rw [hk] at hi
  cases hr : c.right with
  | false => rfl
  | true => rw [hr] at hi; simp at hi
 have hw : 1 <= c.width /\ c.width <= 100 := Classical.byContradiction h4
 have hk : 1 <= c.kind /\ c.kind <= 3 := Classical.byContradiction h3
 refine ⟨hk, hw, fun e => Classical.byContradiction fun k => h5 ⟨e, k⟩, fun e k => h6 ⟨e, k⟩, fun hm hk => ?_, fun hm hk => ?_, hl⟩
 ·split at h
  ·rename_i h8; exact absurd hm h8
  split at h; · cases h
  rename_i h9
  by_cases hf : c.fill = 32
  ·exact .inl hf
  ·exact .inr (Classical.byContradiction fun k => h9 ⟨hk, hf, k⟩)
 ·split at h
  ·rename_i h8; exact absurd hm h8
  split at h; · cases h
  split at h; · cases h
  rename_i h10
  exact Classical.byContradiction fun k => h10 ⟨hk, k⟩
theorem formB_of {n : Int} (h : formW n ≠ 0) : formB n = true /\ n ≠ 2 := by
 unfold formW at h
 have : n = 1 ∨ n = 3 ∨ n = 4 ∨ n = 5 := by
  split at h
  ·omega
  ·split at h
   ·omega
   ·split at h
    ·omega
    ·exact absurd rfl h
 rcases this with rfl | rfl | rfl | rfl <;> exact ⟨by decide, by decide⟩
structure KndK (mark : Int) (ks : List RKd) (i : Nat) : Prop where
 tag : 1 <= (kA ks i).tag.size /\ (kA ks i).tag.size <= 6
 letters : tagL (kA ks i).tag.data.toList = true
 even : mark = 0 -> (kA ks i).tag.size = (kA ks 0).tag.size
 many : (kA ks i).fields.length <= 50
 cols : ∀ j, j < (kA ks i).fields.length -> ColK mark (cA (kA ks i).fields j)
 once : ∀ j j', j < (kA ks i).fields.length -> j' < j -> (cA (kA ks i).fields j').name ≠ (cA (kA ks i).fields j).name
 first : ∀ j, j < i -> (kA ks j).tag ≠ (kA ks i).tag
 most : 0 <= (kA ks i).most /\ (kA ks i).most <= 2000
theorem colF_once {mark : Int} {c : Col} {b : List Col} (h : colF mark c b = 0) : b.any (nameIs c.name) = false := by
 unfold colF at h
 split at h; · cases h
 split at h; · cases h
 rename_i h2
 cases hq : b.any (nameIs c.name) with
 | true => exact absurd hq h2
 | false => rfl
theorem kindF_ok {m : Int} {ks : List RKd} {i : Nat} (hi : i < ks.length) (h : kindF m ks i = 0) : KndK m ks i := by
 unfold kindF at h
 split at h; · cases h
 rename_i h1
 split at h; · cases h
 rename_i h2
 split at h; · cases h
 rename_i h3
 split at h; · cases h
 rename_i h4
 split at h
 ·rename_i h5; exact absurd h h5
 rename_i h5
 split at h; · cases h
 rename_i h6
 have h5 : colsF m (kA ks i).fields = 0 := Classical.byContradiction h5
 unfold colsF at h5
 have h7 := fstF_zero h5
 refine ⟨Classical.byContradiction fun e => h1 (.inl e), ?_, fun hm => Classical.byContradiction fun e => h3 ⟨hm, e⟩, by omega, fun j hj => colF_ok (h7 j hj), fun j j' hj hj' e => ?_, fun j hj e => ?_, by omega⟩
 ·cases hq : tagL (kA ks i).tag.data.toList with
  | true => rfl
  | false => exact absurd (.inr hq) h1
 ·have h8 := colF_once (h7 j hj)
  have : ((kA ks i).fields.take j).any (nameIs (cA (kA ks i).fields j).name) = true := List.any_eq_true.2 ⟨cA (kA ks i).fields j', by rw [List.mem_iff_getElem]; exact ⟨j', by rw [List.length_take]; omega, by rw [List.getElem_take, cA_get]⟩, decide_eq_true e⟩
  rw [this] at h8
  cases h8
 ·exact h2 (List.any_eq_true.2 ⟨kA ks j, by rw [List.mem_iff_getElem]; exact ⟨j, by rw [List.length_take]; omega, by rw [List.getElem_take, kA_get]⟩, decide_eq_true e⟩)
structure FmtK (f : Fmt) : Prop where
 marks : f.mark ≠ 0 -> markF f.mark = false /\ (f.quote ≠ 0 -> markF f.quote = false) /\ f.mark ≠ f.quote
 none : f.mark = 0 -> f.quote = 0
 some : 1 <= f.kinds.length /\ f.kinds.length <= 30
 kinds : ∀ i, i < f.kinds.length -> KndK f.mark f.kinds i
theorem checkF_ok {f : Fmt} (h : checkF f = 0) : FmtK f := by
 unfold checkF at h
 split at h
 ·rename_i h1; exact absurd h h1
 rename_i h1
 split at h; · cases h
 rename_i h2
 split at h; · cases h
 rename_i h3
 split at h
 ·rename_i h4; exact absurd h h4
 rename_i h4
 have h1 : marksF f.mark f.quote = 0 := Classical.byContradiction h1
 have h4 : fstF (kindF f.mark f.kinds) f.kinds.length = 0 := Classical.byContradiction h4
 unfold marksF at h1
 split at h1; · cases h1
 rename_i e1
 split at h1; · cases h1
 rename_i e2
 refine ⟨fun hm => ⟨?_, fun hq => ?_, fun e => e1 ⟨hm, .inr (.inr e)⟩⟩, fun hm => Classical.byContradiction fun e => e2 ⟨hm, e⟩, by omega, fun i hi => kindF_ok hi (fstF_zero h4 i hi)⟩
 ·cases hq : markF f.mark with
  | false => rfl
  | true => exact absurd ⟨hm, .inl hq⟩ e1
 ·cases hq2 : markF f.quote with
  | false => rfl
  | true => exact absurd ⟨hm, .inr (.inl ⟨hq, hq2⟩)⟩ e1
end Go.Proofs.YtbnjejenejoibaaGreatDoor
namespace Go.Proofs.YtbnjejenejoibaaGreatDoor
open Go.RowKit Limb Work Nmb
set_option linter.unusedVariables false
set_option linter.unusedSimpArgs false
theorem atoi_c (s : ByteArray) (w : World) (hs : s.size <= 18) (hd : digs s.data.toList = true) :
  Calls Tryz.prog 198 #[.string s] w fun e w' => e = .returned (.tuple #[.int .i64 ((dv s.data.toList : Nat) : Int), .nilIface]) /\ Below w.heap.size w w' := by
 refine (Tryz.strconv_Atoi s _ hs (atoi_dv hd) w).mono ?_
 rintro e w' ⟨rfl, t, rfl⟩
 exact ⟨rfl, Lib.bytesWorld_below _ _ _⟩
def intV (l : List Int) : List Value := l.map (Value.int .i64)
theorem intV_snoc (l : List Int) (x : Int) : intV l ++ [.int .i64 x] = intV (l ++ [x]) := by unfold intV; rw [List.map_append]; rfl
theorem intV_at {l : List Int} {j : Nat} (h : j < l.length) : (intV l)[j]? = some (.int .i64 l[j]) := by simp [intV, h]
def RetPrt (o : Option (List Int)) (w : World) (e : Ending) (w' : World) : Prop := ∃ v, e = .returned (.tuple #[v, .bool o.isSome]) /\ Below w.heap.size w w' /\
 ∀ xs, o = some xs -> xs ≠ [] -> ∃ g c, v = .slice (some ⟨g, 0, none⟩) xs.length c /\ ∀ j, (h : j < xs.length) -> w'.cell? ⟨g, j, none⟩ = some (.int .i64 xs[j])
theorem prt_none {w w' : World} {v : Value} (hb : Below w.heap.size w w') : RetPrt none w (.returned (.tuple #[v, .bool false])) w' := ⟨v, rfl, hb, fun xs h => by cases h⟩
theorem ext_from (t : ByteArray) (n : Nat) : (t.extract n t.size).data.toList = t.data.toList.drop n := by rw [Lib.extract_to_end]
theorem ext_to (t : ByteArray) (n : Nat) : (t.extract 0 n).data.toList = t.data.toList.take n := by rw [Lib.extract_data]; simp
def widths (ws : List Nat) : Prop := ∀ j, (h : j < ws.length) -> 1 <= ws[j] /\ ws[j] <= 4
set_option maxHeartbeats 2000000 in
set_option maxRecDepth 100000 in
theorem parts_c (s : ByteArray) (ws : List Nat) (g0 c0 : Nat) (w : World) (hs : s.size <= 9223372036854775807) (hw : widths ws) (hlen : ws.length <= 10)
  (hg : g0 < w.heap.size) (hc : ∀ j, (h : j < ws.length) -> w.cell? ⟨g0, j, none⟩ = some (.int .i64 ((ws[j] : Nat) : Int))) :
  Calls Tryz.prog 270 #[.string s, .slice (some ⟨g0, 0, none⟩) ws.length c0] w (RetPrt (prt ws s.data.toList) w) := by
 obtain ⟨i0, hi⟩ : ∃ i, Tryz.prog.info? 3 = some i := ⟨_, rfl⟩
 have hz0 : i0.zero = some (.int .i64 0) := by obtain rfl := Option.some.inj (hi.symm.trans rfl); rfl
 have hz1 : i0.size = 1 := by obtain rfl := Option.some.inj (hi.symm.trans rfl); rfl
 have hz2 : i0.bytes = 8 := by obtain rfl := Option.some.inj (hi.symm.trans rfl); rfl
 obtain ⟨O, hO⟩ : ∃ O, prt ws s.data.toList = O := ⟨_, rfl⟩
 have HO := Lib.hid hO
 rw [hO]
 have HW := Lib.hid hw
 have HC := Lib.hid hc
 obtain ⟨N, hN⟩ : ∃ N, ws.length = N := ⟨_, rfl⟩
 have HN := Lib.hid hN
 rw [hN] at hlen ⊢
 clear hO hw hc hN
 go_enter Tryz.func270, Tryz.ntmps270
 go_wp2
 go_loopw [0, 6, 13] (fun x b i wr => ∃ (k m c : Nat) (A : Option Addr) (t : ByteArray) (acc : List Int), k <= N /\ i = .int .i64 k /\ x = .string t /\ b = .slice A m c /\ m = k /\ Hid (acc.length = m) /\ t.size <= 9223372036854775807 /\
   wr.ownsRow w.heap.size 3 1 (.slice A m c) m (intV acc) /\ Below w.heap.size w wr /\ Hid (O = (prt (ws.drop k) t.data.toList).map (fun r => acc ++ r))) (fun _ _ i _ => N - (intOf i).toNat)
 case atStart => exact ⟨0, 0, 0, none, s, [], Nat.zero_le _, rfl, rfl, rfl, rfl, Lib.hid rfl, hs, World.ownsRow_nil _ _ _ _, Below.refl _ _, Lib.hid (by rw [<- HO.out, List.drop_zero]; simp)⟩
 case round =>
  obtain ⟨k, m, c, A, t, acc, hk, rfl, rfl, rfl, hmk, HM, ht, hown, hb, HR⟩ := hrel
  subst hmk
  have hz := hb.size
  rcases Nat.lt_or_ge m N with hlt | hge
  ·have hlt' : m < ws.length := by rw [HN.out]; exact hlt
   obtain ⟨n1, n2⟩ := HW.out m hlt'
   have hcell := HC.out m hlt'
   have hdrop : ws.drop m = ws[m] :: ws.drop (m + 1) := (List.getElem_cons_drop hlt').symm
   obtain ⟨n, hn⟩ : ∃ n, ws[m] = n := ⟨_, rfl⟩
   rw [hn] at n1 n2 hcell hdrop
   have hcell := (hb.cell (p := ⟨g0, m, none⟩) hg).trans hcell
   have hR := HR.out
   rw [hdrop] at hR
   clear hn hdrop
   by_cases hsz : t.size < n
   ·rw [prt_short (by rw [szL]; exact hsz)] at hR
    have HR2 := Lib.hid (show O = none from hR)
    rw [HR2.out]
    clear hR
    go_wp2
    go_ret2
    exact prt_none hb
   have q : (n : Int) <= (t.size : Int) := by omega
   have hd := isdigs_c (t.extract 0 n)
   have HD := Lib.hid (fun w => hd w (by rw [ByteArray.size_extract]; omega))
   clear hd
   rw [ext_to] at HD
   cases hdg : digs (t.data.toList.take n) with
   | false =>
    rw [hdg] at HD
    rw [prt_bad hdg] at hR
    have HR2 := Lib.hid (show O = none from hR)
    rw [HR2.out]
    clear hR hdg
    go_wp2_with fail
    refine (HD.out _).mono ?_
    rintro e w2 ⟨rfl, rfl⟩
    go_wp2
    go_ret2
    exact prt_none hb
   | true =>
    rw [hdg] at HD
    have HA := Lib.hid (fun w => atoi_c (t.extract 0 n) w (by rw [ByteArray.size_extract]; omega) (by rw [ext_to]; exact hdg))
    rw [ext_to] at HA
    have hdv := dv_lt4 hdg (by rw [List.length_take]; omega)
    rw [prt_next (by rw [szL]; omega) hdg] at hR
    obtain ⟨v, hv⟩ : ∃ v, dv (t.data.toList.take n) = v := ⟨_, rfl⟩
    rw [hv] at HA hR hdv
    have HR2 := Lib.hid (show O = (prt (ws.drop (m + 1)) (t.extract n t.size).data.toList).map (fun r => (acc ++ [(v : Int)]) ++ r) by
     rw [hR, ext_from, Option.map_map]
     congr 1
     funext r
     simp)
    have hts : (t.extract n t.size).size <= 9223372036854775807 := by rw [ByteArray.size_extract]; omega
    have HTS := Lib.hid hts
    have HOW := Lib.hid hown
    have HM2 := Lib.hid (show (acc ++ [(v : Int)]).length = m + 1 by rw [List.length_append, HM.out]; rfl)
    clear hR hdg hv hown hts
    go_wp2_with fail
    refine (HD.out _).mono ?_
    rintro e w2 ⟨rfl, rfl⟩
    go_wp2_with fail
    refine (HA.out _).mono ?_
    rintro e w2 ⟨rfl, hb2⟩
    have hown2 := own_below HOW.out hb2
    have hbb := below_then hb2 hb hz
    have hz2' := hbb.size
    have HOW2 := Lib.hid hown2
    clear hown2 hb2
    go_wp2_with (at_builtin; (with_reducible refine wpList_push_own rfl _ _ 86 rfl w.heap.size 3 i0 (.int .i64 0) 8 Tryz.underlying86 hi hz0 hz1 hz2 rfl (.slice A m c) m (intV acc) rfl HOW2.out (.int .i64 (v : Int)) rfl rfl (by unfold maxLen; omega) (by omega) hz2' ?_); intro A3 c3 w3 hown3 hg3)
    rw [intV_snoc] at hown3
    have hb3 := hbb.grown hg3 hz2' (fun k hk => (HOW2.out.lt k hk).1)
    have HOW3 := Lib.hid hown3
    clear hown3 hg3
    go_wp2
    go_roundw
    case rel => exact ⟨m + 1, m + 1, c3, A3, _, acc ++ [(v : Int)], by omega, by go_num, rfl, rfl, rfl, HM2, HTS.out, HOW3.out, hb3, HR2⟩
    case measure => simp [intOf]; omega
  ·obtain rfl : m = N := by omega
   have hR := HR.out
   rw [List.drop_eq_nil_of_le (by rw [HN.out]; exact Nat.le_refl _)] at hR
   have HOW := Lib.hid hown
   have HB := Lib.hid hb
   clear hown hb
   by_cases he : t.data.toList = []
   ·have hR2 := Lib.hid (show O = some acc by rw [hR, he]; simp [prt])
    have ht0 : t = ⟨#[]⟩ := by apply ByteArray.ext; rw [<- Array.toList_inj]; exact he
    subst ht0
    clear he hR
    go_wp2
    go_ret2
    rw [hR2.out]
    refine ⟨_, rfl, HB.out, fun xs hxs hne => ?_⟩
    obtain rfl := Option.some.inj hxs
    have hm := HM.out
    have hpos : 0 < acc.length := List.length_pos_iff.2 hne
    obtain ⟨g, rfl⟩ : ∃ g, A = some ⟨g, 0, none⟩ := by
     rcases HOW.out.2 with h1 | ⟨g, cap, cur, hv, -⟩
     ·obtain ⟨h2, h3⟩ := h1
      injection h2 with e1 e2 e3
      omega
     ·injection hv with e1 e2 e3
      exact ⟨g, e1⟩
    have hcs := HOW.out.cells (g := g) rfl
    refine ⟨g, c, by rw [hm]; rfl, fun j hj => ?_⟩
    have := hcs j _ (intV_at hj)
    by_cases e : j = 0
    ·subst e; exact this
    ·simpa [Addr.add, e] using this
   ·have hR2 := Lib.hid (show O = none by
     rw [hR, prt, if_neg (by rw [List.isEmpty_iff]; exact he)]; rfl)
    have e1 : t.toList.isEmpty = false := by rw [Lib.toList_data, Bool.eq_false_iff]; intro h; rw [List.isEmpty_iff] at h; exact he h
    clear he hR
    go_wp2
    go_ret2
    rw [hR2.out]
    exact prt_none HB.out
def RetO (o : Option Int) (w : World) (e : Ending) (w' : World) : Prop := ∃ n : Int, e = .returned (.tuple #[.int .i64 n, .bool o.isSome]) /\ (∀ v, o = some v -> n = v) /\ Below w.heap.size w w'
theorem retO_none {o : Option Int} {n : Int} {w w' : World} (ho : o = none) (hb : Below w.heap.size w w') : RetO o w (.returned (.tuple #[.int .i64 n, .bool false])) w' := by subst ho; exact ⟨n, rfl, (fun v h => by cases h), hb⟩
def again (p : List UInt8) : List UInt8 := p.take 4 ++ [45] ++ (p.drop 4).take 2 ++ [45] ++ p.drop 6
theorem prt_three {a b c : Nat} (hc : 0 < c) {l : List UInt8} {xs : List Int} (h : prt [a, b, c] l = some xs) : ∃ x y z, xs = [x, y, z] /\ (a <= 4 -> 0 <= x /\ x <= 9999) /\ (b <= 4 -> 0 <= y /\ y <= 9999) /\ (c <= 4 -> 0 <= z /\ z <= 9999) /\ (c <= 2 -> z <= 99) /\ (b <= 2 -> y <= 99) /\ (c <= 1 -> z <= 9) := by
 rw [prt3 hc] at h
 split at h
 ·rename_i hd
  obtain ⟨h0, h1, h2, h3⟩ := hd
  injection h with h
  have a1 := dv_lt h1
  have a2 := dv_lt h2
  have a3 := dv_lt h3
  have l1 : (l.take a).length = a := by simp; omega
  have l2 : ((l.drop a).take b).length = b := by simp; omega
  have l3 : (l.drop (a + b)).length = c := by simp; omega
  rw [l1] at a1; rw [l2] at a2; rw [l3] at a3
  refine ⟨_, _, _, h.symm, fun hk => ?_, fun hk => ?_, fun hk => ?_, fun hk => ?_, fun hk => ?_, fun hk => ?_⟩
  ·have : 10 ^ a <= 10 ^ 4 := Nat.pow_le_pow_right (by decide) hk
   omega
  ·have : 10 ^ b <= 10 ^ 4 := Nat.pow_le_pow_right (by decide) hk
   omega
  ·have : 10 ^ c <= 10 ^ 4 := Nat.pow_le_pow_right (by decide) hk
   omega
  ·have : 10 ^ c <= 10 ^ 2 := Nat.pow_le_pow_right (by decide) hk
   omega
  ·have : 10 ^ b <= 10 ^ 2 := Nat.pow_le_pow_right (by decide) hk
   omega
  ·have : 10 ^ c <= 10 ^ 1 := Nat.pow_le_pow_right (by decide) hk
   omega
 ·cases h
theorem readO_1 (pv : Int) (l : List UInt8) : readO 1 pv l = opt3 dayO (prt [4, 2, 2] l) := by
 rw [opt3_prt (by decide) l dayO (fun x y z h => dayO_neg (by omega))]; rfl
theorem dayO_is (y m d : Int) : dayO y m d = if dateB y m d = true then some (dayR y m d) else none := by
 unfold dayO
 cases h : dateB y m d with
 | true => rw [if_pos rfl, if_pos rfl, dayR_yes h]
 | false => rfl
theorem retO_day {y m d : Int} {w w' : World} (hb : Below w.heap.size w w') : RetO (dayO y m d) w (.returned (.tuple #[.int .i64 (dayR y m d), .bool (dateB y m d)])) w' := by
 rw [dayO_is]
 cases h : dateB y m d with
 | true => exact ⟨_, rfl, fun v hv => Option.some.inj hv, hb⟩
 | false => exact ⟨_, rfl, (fun v hv => by cases hv), hb⟩
theorem row3 (w : World) (a b c : Nat) (t : TypeId) : ∀ j, (h : j < [a, b, c].length) -> (w.alloc (.cells #[.int .i64 (a : Int), .int .i64 (b : Int), .int .i64 (c : Int)] t)).cell? ⟨w.heap.size, j, none⟩ = some (.int .i64 (([a, b, c][j] : Nat) : Int)) := by
 intro j hj
 refine (cell_of_row _ _ _ _ _ _ (heap_new w _ rfl)).trans ?_
 match j, hj with
 | 0, _ => rfl
 | 1, _ => rfl
 | 2, _ => rfl
theorem widths3 {a b c : Nat} (ha : 1 <= a /\ a <= 4) (hb : 1 <= b /\ b <= 4) (hc : 1 <= c /\ c <= 4) : widths [a, b, c] := by
 intro j hj
 match j, hj with
 | 0, _ => exact ha
 | 1, _ => exact hb
 | 2, _ => exact hc
def rdN (form pv : Int) (l : List UInt8) : Int := if formB form = true /\ (1 <= pv /\ pv <= 9900) then (readO form pv l).getD 0 else 0
def rdF (form pv : Int) (l : List UInt8) : Int := if formB form = false then 4 else if ¬ (1 <= pv /\ pv <= 9900) then 1 else if (readO form pv l).isSome = true then 0 else 10
end Go.Proofs.YtbnjejenejoibaaGreatDoor
namespace Go.Proofs.YtbnjejenejoibaaGreatDoor
open Go.RowKit Limb Work Nmb
set_option linter.unusedVariables false
set_option linter.unusedSimpArgs false
set_option linter.unnecessarySimpa false
end Go.Proofs.YtbnjejenejoibaaGreatDoor
namespace Go.Proofs.YtbnjejenejoibaaGreatDoor
open Limb Nmb Work
set_option linter.unusedVariables false
set_option linter.unusedSimpArgs false
end Go.Proofs.YtbnjejenejoibaaGreatDoor
namespace Go.Proofs.YtbnjejenejoibaaGreatDoor
open Go.RowKit Limb
set_option linter.unusedVariables false
set_option linter.unusedSimpArgs false
end Go.Proofs.YtbnjejenejoibaaGreatDoor
namespace Go.Proofs.YtbnjejenejoibaaGreatDoor
open Go.RowKit Limb
set_option linter.unusedVariables false
set_option linter.unusedSimpArgs false
set_option linter.unnecessarySimpa false
end Go.Proofs.YtbnjejenejoibaaGreatDoor
