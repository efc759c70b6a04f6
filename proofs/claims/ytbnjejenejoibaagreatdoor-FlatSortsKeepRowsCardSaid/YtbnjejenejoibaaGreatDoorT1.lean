/- The walk of ReadText, and awake. The walks of working days: the leaves. Units in memory, and the walks of package amount: IsName, unitAt, unitFault. -/
import Derived.Test.YtbnjejenejoibaaGreatDoorA6
import Derived.Test.YtbnjejenejoibaaGreatDoorRH
import Derived.Laws.ShiftsVar
import Derived.Laws.ShiftsVarLaws
import Derived.Test.YtbnjejenejoibaaGreatDoorU2
import Derived.Test.YtbnjejenejoibaaGreatDoorShelf
import Derived.WalkLawsBesides
import Derived.WalkSpells
import Derived.Deep.RegionHeld3
import Derived.Deep.QuietTactic
import Derived.BigQuiet
import Derived.IntWalk
import Derived.Lib.Repeat
-- merged: A7 D1 U3 A8 T12 T1
namespace Go.Proofs.YtbnjejenejoibaaGreatDoor
open Go.RowKit Limb
def readText (l : List UInt8) : Int × Int × Int :=
 let neg := l.head? == some 45
 let rest := if neg then l.tail else l
 let c := cutL rest 46
 if decide (40 < l.length) || !wholeB c.1 || (c.2.2 && (!digB c.2.1 || decide (9 < c.2.1.length))) then (0, 0, 10) else readR neg (c.1 ++ c.2.1) c.2.1.length
theorem cutL_len (l : List UInt8) (c : UInt8) : (cutL l c).1.length + (cutL l c).2.1.length <= l.length /\ ((cutL l c).2.2 = false -> (cutL l c).2.1 = []) := by
 rcases cutL_index l c with ⟨_, h⟩ | ⟨o, ho, _, h⟩
 ·rw [h]; simp
 ·rw [h]; simp; omega
theorem inB_append (a b : List UInt8) (x y : Nat) : inB (a ++ b) x y = (inB a x y && inB b x y) := by unfold inB; rw [List.all_append]
set_option maxHeartbeats 4000000 in
set_option maxRecDepth 100000 in
theorem readtext_c (s : ByteArray) (w : World) (hs : s.size <= 9223372036854775807) :
  Calls Tryz.prog 54 #[.string s] w (RetD (readText s.data.toList) w) := by
 have hsl : s.data.toList.length = s.size := by simp
 go_enter Tryz.func54, Tryz.ntmps54
 go_wp2_with fail
 refine (cutp_c s 45 _ hs).mono ?_
 rintro e w1 ⟨rfl, t, rfl, ht⟩
 have htl : t.size <= s.size := by
  have h1 : t.data.toList.length = t.size := by simp
  rw [<- h1, ht, <- hsl]
  split
  ·simp
  ·exact Nat.le_refl _
 have HT := Lib.hid ht; clear ht
 go_wp2_with fail
 refine (cut_c t 46 _ (by omega)).mono ?_
 rintro e w2 ⟨⟨n, rfl⟩, a, b, rfl, ha, hb⟩
 have hlen := cutL_len t.data.toList 46
 have htl2 : t.data.toList.length = t.size := by simp
 rw [<- ha, <- hb, htl2] at hlen
 have hal : a.data.toList.length = a.size := by simp
 have hbl : b.data.toList.length = b.size := by simp
 rw [hal, hbl] at hlen
 have hlen1 := hlen.1
 have HN := Lib.hid hlen.2
 have HA := Lib.hid ha; have HB := Lib.hid hb
 clear ha hb hlen htl2 hal hbl hsl
 have hfin : readText s.data.toList = if decide (40 < s.size) || !wholeB a.data.toList || ((cutL t.data.toList 46).2.2 && (!digB b.data.toList || decide (9 < b.size))) then (0, 0, 10) else readR (hasB s 45) (a.data.toList ++ b.data.toList) b.size := by
  unfold readText
  simp only
  have h2 : (if (s.data.toList.head? == some 45) = true then s.data.toList.tail else s.data.toList) = t.data.toList := HT.out.symm
  rw [h2, <- HA.out, <- HB.out]
  have h3 : s.data.toList.length = s.size := by simp
  have h4 : b.data.toList.length = b.size := by simp
  rw [h3, h4]
  rfl
 have HF := Lib.hid hfin; clear hfin
 by_cases h1 : 40 < s.size
 ·have h1' : (40 : Int) < (s.size : Int) := by omega
  go_wp2_with (first | (go_at_call 84; refine (iswhole_c a _ (by omega)).mono ?_; rintro e w1 ⟨rfl, rfl⟩; rw [HW.out]) | (go_at_call 85; refine (isdig_c b _ (by omega)).mono ?_; rintro e w1 ⟨rfl, rfl⟩; rw [HG.out]))
  refine bodyPost_ret (v := .tuple #[.agg #[.int .i64 0, .int .i64 0], .int .i64 10]) (by simp [results, Tryz.results54, go_sem]) rfl ⟨by rw [HF.out]; simp [h1], ?_⟩
  go_grown
  exact below_drewN ((Below.refl _ _).alloc (Nat.le_refl _) _) _
 have h1' : ¬ (40 : Int) < (s.size : Int) := by omega
 by_cases hw : wholeB a.data.toList = false
 ·have HW := Lib.hid hw; clear hw
  go_wp2_with (first | (go_at_call 84; refine (iswhole_c a _ (by omega)).mono ?_; rintro e w1 ⟨rfl, rfl⟩; rw [HW.out]) | (go_at_call 85; refine (isdig_c b _ (by omega)).mono ?_; rintro e w1 ⟨rfl, rfl⟩; rw [HG.out]))
  refine bodyPost_ret (v := .tuple #[.agg #[.int .i64 0, .int .i64 0], .int .i64 10]) (by simp [results, Tryz.results54, go_sem]) rfl ⟨by rw [HF.out]; simp [h1, HW.out], ?_⟩
  go_grown
  exact below_drewN ((Below.refl _ _).alloc (Nat.le_refl _) _) _
 have hw : wholeB a.data.toList = true := by simpa using hw
 have hda : digB a.data.toList = true := by unfold wholeB at hw; cases h : digB a.data.toList with | true => rfl | false => rw [h] at hw; cases hw
 have hia : inB a.data.toList 48 57 = true := by unfold digB at hda; cases h : inB a.data.toList 48 57 with | true => rfl | false => rw [h] at hda; simp at hda
 have HW := Lib.hid hw; have HI := Lib.hid hia; clear hw hda hia
 by_cases hf : (cutL t.data.toList 46).2.2 = false
 ·have hb0 := HN.out hf
  have hbz : b.size = 0 := by
   have : b.data.toList.length = b.size := by simp
   rw [<- this, hb0]; rfl
  have HB0 := Lib.hid hb0; have HBZ := Lib.hid hbz; have HFF := Lib.hid hf; clear hb0 hbz
  have e : readText s.data.toList = readR (hasB s 45) (a.data.toList ++ b.data.toList) b.size := by rw [HF.out]; simp [h1, HW.out, HFF.out]
  have HE := Lib.hid e; clear e
  go_wp2_with (first | (go_at_call 84; refine (iswhole_c a _ (by omega)).mono ?_; rintro e w1 ⟨rfl, rfl⟩; rw [HW.out]) | (go_at_call 85; refine (isdig_c b _ (by omega)).mono ?_; rintro e w1 ⟨rfl, rfl⟩; rw [HG.out]))
  refine (read_c (hasB s 45) a b _ (by rw [HB0.out, List.append_nil]; exact HI.out) (by omega)).mono ?_
  rintro e w3 ⟨rfl, hb3⟩
  have hR3 : w3.heap[w.heap.size]? = some (.cells #[.int .i64 0, .int .i64 0] 106 (0, 0)) := heap_below (by exact heap_new w _ rfl) hb3
  obtain ⟨g0, g1, g2, g3, g4⟩ := box2 hR3
  rw [<- HE.out]
  clear HE
  generalize readText s.data.toList = R at *
  obtain ⟨R1, R2, R3⟩ := R
  go_wp2
  refine bodyPost_ret (v := .tuple #[.agg #[.int .i64 R1, .int .i64 R2], .int .i64 R3]) (by simp [results, Tryz.results54, go_sem, g0, g1]) rfl ⟨rfl, ?_⟩
  go_grown
  exact below_then hb3 (below_drewN (by go_grown) _) (by simp)
 have hf : (cutL t.data.toList 46).2.2 = true := by simpa using hf
 have HFF := Lib.hid hf
 by_cases hg : digB b.data.toList = false
 ·have HG := Lib.hid hg; clear hg
  go_wp2_with (first | (go_at_call 84; refine (iswhole_c a _ (by omega)).mono ?_; rintro e w1 ⟨rfl, rfl⟩; rw [HW.out]) | (go_at_call 85; refine (isdig_c b _ (by omega)).mono ?_; rintro e w1 ⟨rfl, rfl⟩; rw [HG.out]))
  refine bodyPost_ret (v := .tuple #[.agg #[.int .i64 0, .int .i64 0], .int .i64 10]) (by simp [results, Tryz.results54, go_sem]) rfl ⟨by rw [HF.out]; simp [h1, HW.out, HFF.out, HG.out], ?_⟩
  go_grown
  exact below_drewN ((Below.refl _ _).alloc (Nat.le_refl _) _) _
 have hg : digB b.data.toList = true := by simpa using hg
 have hib : inB b.data.toList 48 57 = true := by unfold digB at hg; cases h : inB b.data.toList 48 57 with | true => rfl | false => rw [h] at hg; simp at hg
 have HG := Lib.hid hg; have HJ := Lib.hid hib; clear hg hib
 by_cases h9 : 9 < b.size
 ·have h9' : (9 : Int) < (b.size : Int) := by omega
  go_wp2_with (first | (go_at_call 84; refine (iswhole_c a _ (by omega)).mono ?_; rintro e w1 ⟨rfl, rfl⟩; rw [HW.out]) | (go_at_call 85; refine (isdig_c b _ (by omega)).mono ?_; rintro e w1 ⟨rfl, rfl⟩; rw [HG.out]))
  refine bodyPost_ret (v := .tuple #[.agg #[.int .i64 0, .int .i64 0], .int .i64 10]) (by simp [results, Tryz.results54, go_sem]) rfl ⟨by rw [HF.out]; simp [h1, HW.out, HFF.out, HG.out, h9], ?_⟩
  go_grown
  exact below_drewN ((Below.refl _ _).alloc (Nat.le_refl _) _) _
 ·have h9' : ¬ (9 : Int) < (b.size : Int) := by omega
  have e : readText s.data.toList = readR (hasB s 45) (a.data.toList ++ b.data.toList) b.size := by rw [HF.out]; simp [h1, HW.out, HFF.out, HG.out, h9]
  have HE := Lib.hid e; clear e
  go_wp2_with (first | (go_at_call 84; refine (iswhole_c a _ (by omega)).mono ?_; rintro e w1 ⟨rfl, rfl⟩; rw [HW.out]) | (go_at_call 85; refine (isdig_c b _ (by omega)).mono ?_; rintro e w1 ⟨rfl, rfl⟩; rw [HG.out]))
  refine (read_c (hasB s 45) a b _ (by rw [inB_append, HI.out, HJ.out]; rfl) (by omega)).mono ?_
  rintro e w3 ⟨rfl, hb3⟩
  have hR3 : w3.heap[w.heap.size]? = some (.cells #[.int .i64 0, .int .i64 0] 106 (0, 0)) := heap_below (by exact heap_new w _ rfl) hb3
  obtain ⟨g0, g1, g2, g3, g4⟩ := box2 hR3
  rw [<- HE.out]
  clear HE
  generalize readText s.data.toList = R at *
  obtain ⟨R1, R2, R3⟩ := R
  go_wp2
  refine bodyPost_ret (v := .tuple #[.agg #[.int .i64 R1, .int .i64 R2], .int .i64 R3]) (by simp [results, Tryz.results54, go_sem, g0, g1]) rfl ⟨rfl, ?_⟩
  go_grown
  exact below_then hb3 (below_drewN (by go_grown) _) (by simp)
end Go.Proofs.YtbnjejenejoibaaGreatDoor
namespace Go.Proofs.YtbnjejenejoibaaGreatDoor
open Go.RowKit Limb Work
theorem isday_c (n : Int) (w : World) : Calls Tryz.prog 244 #[.int .i64 n] w fun e w' => w = w' /\ e = .returned (.bool (dayB n)) := by
 by_cases h : 1 <= n /\ n <= 3652059
 ·rw [dayB_mk h]
  go_enter Tryz.func244, Tryz.ntmps244
  go_wp2_with (go_at_call 104; refine (out_no _ _ _ _ h).mono ?_; rintro e w1 ⟨rfl, rfl⟩)
  go_ret
  exact ⟨rfl, rfl⟩
 ·rw [dayB_not h]
  go_enter Tryz.func244, Tryz.ntmps244
  go_wp2_with (go_at_call 104; refine (out_yes _ _ _ _ h).mono ?_; rintro e w1 ⟨rfl, rfl⟩)
  go_ret
  exact ⟨rfl, rfl⟩
theorem weekday_c (d : Int) (w : World) (h : 1 <= d /\ d <= 4000000) : Calls Tryz.prog 248 #[.int .i64 d] w fun e w' => w = w' /\ e = .returned (.int .i64 ((d - 1) % 7)) := by
 obtain ⟨h1, h2⟩ := h
 go_enter Tryz.func248, Tryz.ntmps248
 go_wp2
 go_ret
 exact ⟨rfl, rfl⟩
end Go.Proofs.YtbnjejenejoibaaGreatDoor
namespace Go.Proofs.YtbnjejenejoibaaGreatDoor
open Go.RowKit Limb
set_option linter.unusedVariables false
set_option linter.unusedSimpArgs false
def nameSet : ByteArray := ⟨#[97, 98, 99, 100, 101, 102, 103, 104, 105, 106, 107, 108, 109, 110, 111, 112, 113, 114, 115, 116, 117, 118, 119, 120, 121, 122, 48, 49, 50, 51, 52, 53, 54, 55, 56, 57, 45]⟩
theorem nameSet_fin : ∀ i : Fin 256, nameSet.data.toList.contains (UInt8.ofNat i.val) = nameC (UInt8.ofNat i.val) := by decide +kernel
theorem nameSet_c (c : UInt8) : nameSet.data.toList.contains c = nameC c := by
 have := nameSet_fin ⟨c.toNat, c.toNat_lt⟩
 simp only [UInt8.ofNat_toNat] at this
 exact this
theorem dropW_nil {α : Type} (p : α -> Bool) : ∀ l : List α, l.dropWhile p = [] ↔ ∀ x ∈ l, p x = true
 | [] => by simp
 | a :: l => by
  rw [List.dropWhile_cons]
  cases h : p a with
  | true => simp [h, dropW_nil p l]
  | false => simp [h]
theorem trimS_nil (l cs : List UInt8) : (Lib.trimS l cs).isEmpty = l.all (cs.contains ·) := by
 have e : Lib.trimS l cs = (l.reverse.dropWhile (cs.contains ·)).reverse.dropWhile (cs.contains ·) := rfl
 rw [e]
 cases h : l.reverse.dropWhile (cs.contains ·) with
 | nil =>
  rw [dropW_nil] at h
  have : l.all (cs.contains ·) = true := List.all_eq_true.2 fun x hx => h x (by simpa using hx)
  rw [this]; rfl
 | cons a m =>
  have h1 : cs.contains a = false := by
   have := List.head?_dropWhile_not (cs.contains ·) l.reverse
   rw [h] at this
   simpa using this
  have h2 : a ∈ l := by
   have : a ∈ l.reverse.dropWhile (cs.contains ·) := by rw [h]; simp
   have := (List.dropWhile_sublist (cs.contains ·)).subset this
   simpa using this
  have h3 : l.all (cs.contains ·) = false := by
   rw [Bool.eq_false_iff]
   intro h4
   have := List.all_eq_true.1 h4 a h2
   rw [h1] at this; cases this
  rw [h3]
  rw [Bool.eq_false_iff]
  intro h4
  rw [List.isEmpty_iff, dropW_nil] at h4
  have := h4 a (by simp)
  rw [h1] at this; cases this
theorem trim_name (l : List UInt8) : (Lib.trimS l nameSet.data.toList).isEmpty = l.all nameC := by
 rw [trimS_nil]
 congr 1
 funext c
 exact nameSet_c c
theorem head_at {s : ByteArray} (h : 0 < s.size) : s.data.toList.headD 0 = s[0] := by
 have := head_get h
 cases hl : s.data.toList with
 | nil => rw [hl] at this; cases this
 | cons a m => rw [hl] at this; injection this
def RetB (b : Bool) (w : World) (e : Ending) (w' : World) : Prop := e = .returned (.bool b) /\ Below w.heap.size w w'
set_option maxHeartbeats 1000000 in
set_option maxRecDepth 100000 in
theorem isname_c (s : ByteArray) (w : World) (hs : s.size <= 9223372036854775807) :
  Calls Tryz.prog 142 #[.string s] w (RetB (nameB s.data.toList) w) := by
 have hlen : s.data.toList.length = s.size := by simp
 by_cases h1 : 1 <= s.size /\ s.size <= 40
 ·obtain ⟨h1, h2⟩ := h1
  have hh := head_at (s := s) (by omega)
  have en : nameB s.data.toList = (lowB s[0] && s.data.toList.all nameC) := by
   unfold nameB; rw [hlen, hh, decide_eq_true ⟨h1, h2⟩, Bool.true_and]
  by_cases h3 : 97 <= s[0].toNat /\ s[0].toNat <= 122
  ·have en2 : nameB s.data.toList = (Lib.trimS s.data.toList nameSet.data.toList).isEmpty := by
    rw [en, trim_name]; unfold lowB; rw [decide_eq_true h3, Bool.true_and]
   rw [en2]
   obtain ⟨h3, h4⟩ := h3
   have hcon := Tryz.strings_Trim_laid s nameSet w hs (by decide) (ascii_of_all (by decide))
   obtain ⟨r, hr⟩ : ∃ r : ByteArray, (⟨(Lib.trimS s.data.toList nameSet.data.toList).toArray⟩ : ByteArray) = r := ⟨_, rfl⟩
   have er : (Lib.trimS s.data.toList nameSet.data.toList).isEmpty = r.toList.isEmpty := by rw [<- hr, Lib.toList_data]
   rw [hr] at hcon
   unfold nameSet at hcon
   rw [er]
   clear hr er en en2 hh hlen
   have h3' : ¬ (s[0].toNat : Int) < 97 := by omega
   have h4' : ¬ (122 : Int) < (s[0].toNat : Int) := by omega
   cases hb : r.toList.isEmpty with
   | true =>
    go_enter Tryz.func142, Tryz.ntmps142
    go_wp2_with (go_at_call 114; refine hcon.mono ?_; rintro e w1 ⟨rfl, hb1⟩)
    go_ret
    exact ⟨rfl, hb1⟩
   | false =>
    go_enter Tryz.func142, Tryz.ntmps142
    go_wp2_with (go_at_call 114; refine hcon.mono ?_; rintro e w1 ⟨rfl, hb1⟩)
    go_ret
    exact ⟨rfl, hb1⟩
  ·have en2 : nameB s.data.toList = false := by rw [en]; unfold lowB; rw [decide_eq_false h3]; rfl
   rw [en2]
   clear en en2 hh hlen
   by_cases h4 : s[0].toNat < 97
   ·have h4' : (s[0].toNat : Int) < 97 := by omega
    clear h3
    go_enter Tryz.func142, Tryz.ntmps142
    go_wp2
    go_ret
    exact ⟨rfl, Below.refl _ _⟩
   ·have h4' : ¬ (s[0].toNat : Int) < 97 := by omega
    have h5' : (122 : Int) < (s[0].toNat : Int) := by omega
    clear h3 h4
    go_enter Tryz.func142, Tryz.ntmps142
    go_wp2
    go_ret
    exact ⟨rfl, Below.refl _ _⟩
 ·have en : nameB s.data.toList = false := by unfold nameB; rw [hlen, decide_eq_false h1]; rfl
  rw [en]
  clear en hlen
  by_cases h2 : s.size < 1
  ·clear h1
   go_enter Tryz.func142, Tryz.ntmps142
   go_wp2
   go_ret
   exact ⟨rfl, Below.refl _ _⟩
  ·have h3 : 40 < s.size := by omega
   clear h1
   go_enter Tryz.func142, Tryz.ntmps142
   go_wp2
   go_ret
   exact ⟨rfl, Below.refl _ _⟩
theorem RetD.of {r r' : Int × Int × Int} {w w' : World} {e : Ending} (h : RetD r w e w') (hr : r = r') : RetD r' w e w' := by subst hr; exact h
end Go.Proofs.YtbnjejenejoibaaGreatDoor
