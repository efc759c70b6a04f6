/- The walk of awake: ReadText at one text. The walks of Cut at one byte, isWhole, read, ReadText. The walks of read and ReadText. -/
import Derived.Test.YtbnjejenejoibaaGreatDoorA3
import Derived.Lib.Strings
import Derived.Lib.IndexBytes
import Derived.Lib.Bytealg
import Derived.Lib.IndexLaws
import Derived.Deep.RegionWith
-- merged: A4 A5 A6
namespace Go.Proofs.YtbnjejenejoibaaGreatDoor
open Go.RowKit Limb
def hasB (s : ByteArray) (c : UInt8) : Bool := s.data.toList.head? == some c
theorem hasB_ext {s : ByteArray} {c : UInt8} (h : 0 < s.size) : ((s.extract 0 1).toList == [c]) = hasB s c := by
 rw [Lib.extract_toList]
 unfold hasB
 have hl : 0 < s.data.toList.length := by simpa using h
 cases hd : s.data.toList with
 | nil => rw [hd] at hl; simp at hl
 | cons x xs => simp
theorem hasB_empty {s : ByteArray} {c : UInt8} (h : s.size = 0) : hasB s c = false := by
 unfold hasB
 have hl : s.data.toList = [] := List.length_eq_zero_iff.1 (by simpa using h)
 rw [hl]; rfl
set_option maxRecDepth 100000 in
theorem hasp_yes (s : ByteArray) (c : UInt8) (w : World) (h : hasB s c = true) (hs : s.size <= 9223372036854775807) :
  Calls Tryz.prog 187 #[.string s, .string ⟨#[c]⟩] w fun e w' => w = w' /\ e = .returned (.bool true) := by
 have h0 : 0 < s.size := by
  rcases Nat.eq_zero_or_pos s.size with h1 | h1
  ·rw [hasB_empty h1] at h; cases h
  ·exact h1
 have he := hasB_ext (c := c) h0
 rw [h] at he
 clear h
 have h1 : 1 <= s.size := h0
 go_enter Tryz.func187, Tryz.ntmps187
 go_wp2
 go_ret
 exact ⟨rfl, by simp⟩
set_option maxRecDepth 100000 in
theorem hasp_no (s : ByteArray) (c : UInt8) (w : World) (h : hasB s c = false) (hs : s.size <= 9223372036854775807) :
  Calls Tryz.prog 187 #[.string s, .string ⟨#[c]⟩] w fun e w' => w = w' /\ e = .returned (.bool false) := by
 rcases Nat.eq_zero_or_pos s.size with h0 | h0
 ·clear h
  go_enter Tryz.func187, Tryz.ntmps187
  go_wp2
  go_ret
  exact ⟨rfl, by simp⟩
 ·have he := hasB_ext (c := c) h0
  rw [h] at he
  clear h
  have h1 : 1 <= s.size := h0
  go_enter Tryz.func187, Tryz.ntmps187
  go_wp2
  go_ret
  exact ⟨rfl, by simp⟩
def CutP (s : ByteArray) (c : UInt8) (w : World) (e : Ending) (w' : World) : Prop :=
 w = w' /\ ∃ t : ByteArray, e = .returned (.tuple #[.string t, .bool (hasB s c)]) /\ t.data.toList = (if hasB s c then s.data.toList.tail else s.data.toList)
set_option maxRecDepth 100000 in
theorem lcutp_c (s : ByteArray) (c : UInt8) (w : World) (hs : s.size <= 9223372036854775807) :
  Calls Tryz.prog 129 #[.string s, .string ⟨#[c]⟩] w (CutP s c w) := by
 by_cases h : hasB s c = true
 ·have h0 : 0 < s.size := by
   rcases Nat.eq_zero_or_pos s.size with h1 | h1
   ·rw [hasB_empty h1] at h; cases h
   ·exact h1
  have h1 : 1 <= s.size := h0
  have H := Lib.hid h; clear h
  go_enter Tryz.func129, Tryz.ntmps129
  go_wp2_with (go_at_call 187; refine (hasp_yes s c _ H.out hs).mono ?_; rintro e w1 ⟨rfl, rfl⟩)
  go_ret2
  refine ⟨rfl, s.extract 1 s.size, ?_, ?_⟩
  ·rw [H.out]; simp
  ·rw [H.out, Lib.extract_to_end]; simp
 ·have h : hasB s c = false := by simpa using h
  have H := Lib.hid h; clear h
  go_enter Tryz.func129, Tryz.ntmps129
  go_wp2_with (go_at_call 187; refine (hasp_no s c _ H.out hs).mono ?_; rintro e w1 ⟨rfl, rfl⟩)
  go_ret2
  refine ⟨rfl, s, ?_, ?_⟩
  ·rw [H.out]; simp
  ·rw [H.out]; simp
set_option maxRecDepth 100000 in
theorem cutp_c (s : ByteArray) (c : UInt8) (w : World) (hs : s.size <= 9223372036854775807) :
  Calls Tryz.prog 82 #[.string s, .string ⟨#[c]⟩] w (CutP s c w) := by
 go_enter Tryz.func82, Tryz.ntmps82
 go_wp2_with fail
 refine (lcutp_c s c _ hs).mono ?_
 rintro e w1 ⟨rfl, t, rfl, ht⟩
 have HT := Lib.hid ht; clear ht
 go_wp2
 go_ret2
 exact ⟨rfl, t, by simp, HT.out⟩
def inB (l : List UInt8) (lo hi : Nat) : Bool := l.all fun c => decide (lo <= c.toNat /\ c.toNat <= hi)
theorem data_get (s : ByteArray) (j : Nat) (h : j < s.size) : s.data.toList[j]'(by simpa using h) = s[j] := rfl
theorem inB_at {s : ByteArray} {lo hi : Nat} (h : inB s.data.toList lo hi = true) (j : Nat) (hj : j < s.size) : lo <= s[j].toNat /\ s[j].toNat <= hi := by
 have := List.all_eq_true.1 h _ (List.getElem_mem (l := s.data.toList) (n := j) (by simpa using hj))
 rw [data_get s j hj] at this
 exact of_decide_eq_true this
theorem inB_bad {l : List UInt8} {lo hi : Nat} (h : inB l lo hi = false) : ∃ j, ∃ hj : j < l.length, ¬ (lo <= l[j].toNat /\ l[j].toNat <= hi) /\ ∀ i, ∀ hi' : i < j, lo <= (l[i]'(by omega)).toNat /\ (l[i]'(by omega)).toNat <= hi := by
 induction l with
 | nil => simp [inB] at h
 | cons c l ih =>
  by_cases hc : lo <= c.toNat /\ c.toNat <= hi
  ·have h2 : inB l lo hi = false := by
    unfold inB at h ⊢
    rw [List.all_cons, decide_eq_true hc] at h
    simpa using h
   obtain ⟨j, hj, h3, h4⟩ := ih h2
   refine ⟨j + 1, by simpa using hj, by simpa using h3, fun i hi' => ?_⟩
   cases i with
   | zero => simpa using hc
   | succ i => simpa using h4 i (by omega)
  ·exact ⟨0, by simp, by simpa using hc, fun i hi' => by omega⟩
set_option maxHeartbeats 400000 in
set_option maxRecDepth 100000 in
theorem inb_yes (s : ByteArray) (lo hi : Nat) (w : World) (h : inB s.data.toList lo hi = true) (hs : s.size <= 9223372036854775807) :
  Calls Tryz.prog 131 #[.string s, .int .u8 (lo : Int), .int .u8 (hi : Int)] w fun e w' => w = w' /\ e = .returned (.bool true) := by
 go_enter Tryz.func131, Tryz.ntmps131
 go_wp2
 go_loop [10] (fun i => ∃ j : Nat, j <= s.size /\ i = .int .i64 j) (fun i => s.size - (intOf i).toNat)
 case atStart => exact ⟨0, Nat.zero_le _, rfl⟩
 case round =>
  obtain ⟨j, hj, rfl⟩ := hrel
  rcases Nat.lt_or_ge j s.size with hjn | hjn
  ·have hb := inB_at h j hjn
   have h1 : (lo : Int) <= (s[j].toNat : Int) := by omega
   have h2 : (s[j].toNat : Int) <= (hi : Int) := by omega
   clear hb
   go_wp2
   go_round
   case rel => exact ⟨j + 1, by omega, by go_num⟩
   case measure => simp [intOf]; omega
  ·go_wp2
   go_ret
   exact ⟨rfl, rfl⟩
set_option maxHeartbeats 400000 in
set_option maxRecDepth 100000 in
theorem inb_no (s : ByteArray) (lo hi : Nat) (w : World) (h : inB s.data.toList lo hi = false) (hs : s.size <= 9223372036854775807) :
  Calls Tryz.prog 131 #[.string s, .int .u8 (lo : Int), .int .u8 (hi : Int)] w fun e w' => w = w' /\ e = .returned (.bool false) := by
 obtain ⟨m, hm, hbad, hgood⟩ := inB_bad h
 have hm' : m < s.size := by simpa using hm
 clear h
 go_enter Tryz.func131, Tryz.ntmps131
 go_wp2
 go_loop [10] (fun i => ∃ j : Nat, j <= m /\ i = .int .i64 j) (fun i => s.size - (intOf i).toNat)
 case atStart => exact ⟨0, Nat.zero_le _, rfl⟩
 case round =>
  obtain ⟨j, hj, rfl⟩ := hrel
  have hjn : j < s.size := by omega
  rcases Nat.lt_or_ge j m with hjm | hjm
  ·have hb := hgood j hjm
   rw [data_get s j hjn] at hb
   have h1 : (lo : Int) <= (s[j].toNat : Int) := by omega
   have h2 : (s[j].toNat : Int) <= (hi : Int) := by omega
   clear hb hbad hgood
   go_wp2
   go_round
   case rel => exact ⟨j + 1, by omega, by go_num⟩
   case measure => simp [intOf]; omega
  ·obtain rfl : j = m := by omega
   have hb := hbad
   rw [data_get s j hjn] at hb
   clear hbad hgood
   by_cases h1 : (s[j].toNat : Int) < (lo : Int)
   ·clear hb
    go_wp2
    go_ret
    exact ⟨rfl, rfl⟩
   ·have h2 : (hi : Int) < (s[j].toNat : Int) := by omega
    clear hb
    go_wp2
    go_ret
    exact ⟨rfl, rfl⟩
def digB (l : List UInt8) : Bool := !l.isEmpty && inB l 48 57
theorem isdig_c (s : ByteArray) (w : World) (hs : s.size <= 9223372036854775807) :
  Calls Tryz.prog 85 #[.string s] w fun e w' => w = w' /\ e = .returned (.bool (digB s.data.toList)) := by
 by_cases h0 : s.data.toList.isEmpty = true
 ·have e : digB s.data.toList = false := by unfold digB; rw [h0]; rfl
  rw [e]; clear e
  have hn : s.toList.isEmpty = true := by rw [Lib.toList_data]; exact h0
  clear h0
  go_enter Tryz.func85, Tryz.ntmps85
  go_wp2
  go_ret
  exact ⟨rfl, by simp⟩
 ·have h0 : s.data.toList.isEmpty = false := by simpa using h0
  have hn : s.toList.isEmpty = false := by rw [Lib.toList_data]; exact h0
  by_cases hb : inB s.data.toList 48 57 = true
  ·have e : digB s.data.toList = true := by unfold digB; rw [h0, hb]; rfl
   rw [e]
   have HB := Lib.hid hb; clear e hb h0
   go_enter Tryz.func85, Tryz.ntmps85
   go_wp2_with (go_at_call 131; refine (inb_yes s 48 57 _ HB.out hs).mono ?_; rintro e w1 ⟨rfl, rfl⟩)
   go_ret
   exact ⟨rfl, by simp⟩
  ·have hb : inB s.data.toList 48 57 = false := by simpa using hb
   have e : digB s.data.toList = false := by unfold digB; rw [h0, hb]; rfl
   rw [e]
   have HB := Lib.hid hb; clear e hb h0
   go_enter Tryz.func85, Tryz.ntmps85
   go_wp2_with (go_at_call 131; refine (inb_no s 48 57 _ HB.out hs).mono ?_; rintro e w1 ⟨rfl, rfl⟩)
   go_ret
   exact ⟨rfl, by simp⟩
def cutL : List UInt8 -> UInt8 -> List UInt8 × List UInt8 × Bool
 | [], _ => ([], [], false)
 | x :: l, c => if x == c then ([], l, true) else (x :: (cutL l c).1, (cutL l c).2.1, (cutL l c).2.2)
theorem cutL_index (l : List UInt8) (c : UInt8) : (Lib.indexByte l c = -1 /\ cutL l c = (l, [], false)) ∨ ∃ o : Nat, o < l.length /\ Lib.indexByte l c = o /\ cutL l c = (l.take o, l.drop (o + 1), true) := by
 induction l with
 | nil => exact .inl ⟨rfl, rfl⟩
 | cons x l ih =>
  unfold Lib.indexByte cutL
  by_cases h : (x == c) = true
  ·rw [if_pos h, if_pos h]
   exact .inr ⟨0, by simp, rfl, by simp⟩
  ·rw [if_neg h, if_neg h]
   rcases ih with ⟨h1, h2⟩ | ⟨o, ho, h1, h2⟩
   ·rw [h1, h2]
    exact .inl ⟨rfl, rfl⟩
   ·rw [h1, h2]
    refine .inr ⟨o + 1, by simpa using ho, ?_, by simp⟩
    rw [if_neg (by simp)]
    simp
theorem ixb (s : ByteArray) (c : UInt8) (w : World) : (callFunc 229 #[.string s, .int .u8 (c.toNat : Int)]).run Tryz.prog w = .ok (.value (.int .i64 (Lib.indexByte s.data.toList c))) w := by
 rw [run_callFunc_extern Tryz.func229 (by kernel_rfl) (by kernel_rfl) (by kernel_rfl) (e := Extern.BytealgIndexByte.indexByte) (by kernel_rfl), Lib.run_indexByteString]
 simp [Result.andThen]
set_option maxRecDepth 100000 in
theorem index1_c (s : ByteArray) (c : UInt8) (w : World) : Calls Tryz.prog 188 #[.string s, .string ⟨#[c]⟩] w fun e w' => w = w' /\ e = .returned (.int .i64 (Lib.indexByte s.data.toList c)) := by
 have h94 := ixb s c
 have e46 : (⟨#[c]⟩ : ByteArray)[0]'(by show 0 < 1; decide) = c := rfl
 by_cases hq : ([c] == s.toList) = true
 ·have e : Lib.indexByte s.data.toList c = 0 := by
   have : s.data.toList = [c] := by rw [<- Lib.toList_data]; exact (beq_iff_eq.1 hq).symm
   rw [this]; simp [Lib.indexByte]
  have E := Lib.hid e; clear e
  go_enter Tryz.func188, Tryz.ntmps188
  go_wp2
  all_goals
   go_ret
   exact ⟨rfl, by rw [E.out]; simp⟩
 ·have hq : ([c] == s.toList) = false := by simpa using hq
  go_enter Tryz.func188, Tryz.ntmps188
  go_wp2
  go_ret
  exact ⟨rfl, by simp⟩
def Cut1 (s : ByteArray) (c : UInt8) (w : World) (e : Ending) (w' : World) : Prop :=
 (∃ n, w' = w.drewN n) /\ ∃ t u : ByteArray, e = .returned (.tuple #[.string t, .string u, .bool (cutL s.data.toList c).2.2]) /\ t.data.toList = (cutL s.data.toList c).1 /\ u.data.toList = (cutL s.data.toList c).2.1
set_option maxHeartbeats 1000000 in
set_option maxRecDepth 100000 in
theorem lcut_c (s : ByteArray) (c : UInt8) (w : World) (hs : s.size <= 9223372036854775807) : Calls Tryz.prog 130 #[.string s, .string ⟨#[c]⟩] w (Cut1 s c w) := by
 rcases cutL_index s.data.toList c with ⟨h1, h2⟩ | ⟨o, ho, h1, h2⟩
 ·have H1 := Lib.hid h1; have H2 := Lib.hid h2; clear h1 h2
  go_enter Tryz.func130, Tryz.ntmps130
  go_wp2_with (go_at_call 188; refine (index1_c s c _).mono ?_; rintro e w1 ⟨rfl, rfl⟩; rw [H1.out])
  go_ret3
  refine ⟨⟨0, rfl⟩, s, ⟨#[]⟩, ?_, ?_, ?_⟩
  ·rw [H2.out]; simp
  ·rw [H2.out]
  ·rw [H2.out]
 ·have ho' : o < s.size := by simpa using ho
  have H1 := Lib.hid h1; have H2 := Lib.hid h2; clear h1 h2
  have i1 : (0 : Int) <= (o : Int) := by omega
  have i2 : (o : Int) + 1 <= (s.size : Int) := by omega
  have i3 : (o : Int) <= (s.size : Int) := by omega
  have e1 : IntKind.i64.wrap ((o : Int) + 1) = (o : Int) + 1 := IntWalk.i64_in _ (by omega)
  have e2 : (0 : Int) <= (o : Int) + 1 := by omega
  have e3 : ((o : Int) + 1).toNat = o + 1 := by omega
  have E1 := Lib.hid e1; have E2 := Lib.hid e2; have E3 := Lib.hid e3; clear e1 e2 e3
  go_enter Tryz.func130, Tryz.ntmps130
  go_wp2_with (go_at_call 188; refine (index1_c s c _).mono ?_; rintro e w1 ⟨rfl, rfl⟩; rw [H1.out])
  have e1 := E1.out; have e2 := E2.out; have e3 := E3.out
  go_quiet (fail)
  clear e1 e2 e3
  go_wp2
  go_ret3
  refine ⟨⟨_, rfl⟩, s.extract 0 o, s.extract (o + 1) s.size, ?_, ?_, ?_⟩
  ·rw [H2.out]; simp
  ·rw [H2.out, Lib.extract_data]; simp
  ·rw [H2.out, Lib.extract_to_end]
set_option maxRecDepth 100000 in
theorem cut_c (s : ByteArray) (c : UInt8) (w : World) (hs : s.size <= 9223372036854775807) : Calls Tryz.prog 83 #[.string s, .string ⟨#[c]⟩] w (Cut1 s c w) := by
 go_enter Tryz.func83, Tryz.ntmps83
 go_wp2_with fail
 refine (lcut_c s c _ hs).mono ?_
 rintro e w1 ⟨⟨n, rfl⟩, t, u, rfl, ht, hu⟩
 have HT := Lib.hid ht; have HU := Lib.hid hu; clear ht hu
 go_wp2
 go_ret3
 exact ⟨⟨_, rfl⟩, t, u, by simp, HT.out, HU.out⟩
def wholeB (l : List UInt8) : Bool := digB l && (l.length == 1 || !(l.head? == some 48))
theorem head_get {s : ByteArray} (h : 0 < s.size) : s.data.toList.head? = some s[0] := by
 rw [List.head?_eq_getElem?, List.getElem?_eq_getElem (by simpa using h)]
 rfl
theorem dig_size {s : ByteArray} (h : digB s.data.toList = true) : 0 < s.size := by
 unfold digB at h
 rcases Nat.eq_zero_or_pos s.size with h0 | h0
 ·have hl : s.data.toList = [] := List.length_eq_zero_iff.1 (by simpa using h0)
  rw [hl] at h; simp at h
 ·exact h0
set_option maxRecDepth 100000 in
theorem iswhole_c (s : ByteArray) (w : World) (hs : s.size <= 9223372036854775807) :
  Calls Tryz.prog 84 #[.string s] w fun e w' => w = w' /\ e = .returned (.bool (wholeB s.data.toList)) := by
 by_cases hd : digB s.data.toList = true
 ·have h0 := dig_size hd
  have hlen : s.data.toList.length = s.size := by simp
  have hw : wholeB s.data.toList = (s.size == 1 || !(s[0] == 48)) := by
   unfold wholeB; rw [hd, head_get h0, hlen]; simp
  rw [hw]
  have HD := Lib.hid hd; clear hw hd hlen
  by_cases h1 : s.size = 1
  ·have h1' : ((s.size : Int) == 1) = true := by simp; omega
   have e1 : (s.size == 1 || !(s[0] == 48)) = true := by simp [h1]
   rw [e1]
   clear h1 e1
   go_enter Tryz.func84, Tryz.ntmps84
   go_wp2_with (go_at_call 85; refine (isdig_c s _ hs).mono ?_; rintro e w1 ⟨rfl, rfl⟩; rw [HD.out])
   go_ret
   exact ⟨rfl, by simp⟩
  ·have h1' : ((s.size : Int) == 1) = false := by simp; omega
   have e1 : (s.size == 1 || !(s[0] == 48)) = ((s[0].toNat : Int) != 48) := by
    have e2 : s[0] = 48 ↔ s[0].toNat = 48 := ⟨fun h => by rw [h]; rfl, fun h => UInt8.toNat_inj.1 (by rw [h]; rfl)⟩
    have e3 : (s[0] == 48) = (s[0].toNat == 48) := by rw [Bool.eq_iff_iff]; simpa using e2
    rw [e3, Bool.eq_iff_iff]
    simp [h1]
    omega
   rw [e1]
   clear h1 e1
   go_enter Tryz.func84, Tryz.ntmps84
   go_wp2_with (go_at_call 85; refine (isdig_c s _ hs).mono ?_; rintro e w1 ⟨rfl, rfl⟩; rw [HD.out])
   go_ret
   exact ⟨rfl, by simp⟩
 ·have hd : digB s.data.toList = false := by simpa using hd
  have hw : wholeB s.data.toList = false := by unfold wholeB; rw [hd]; rfl
  rw [hw]
  have HD := Lib.hid hd; clear hw hd
  go_enter Tryz.func84, Tryz.ntmps84
  go_wp2_with (go_at_call 85; refine (isdig_c s _ hs).mono ?_; rintro e w1 ⟨rfl, rfl⟩; rw [HD.out])
  go_ret
  exact ⟨rfl, by simp⟩
def numL (l : List UInt8) : Nat := l.foldl (fun a c => a * 10 + (c.toNat - 48)) 0
theorem numL_step {l : List UInt8} {j : Nat} (h : j < l.length) : numL (l.take (j + 1)) = numL (l.take j) * 10 + (l[j].toNat - 48) := by
 unfold numL; rw [List.take_succ_eq_append_getElem h, List.foldl_append]; rfl
theorem numL_lt {l : List UInt8} (h : inB l 48 57 = true) : ∀ j, j <= l.length -> numL (l.take j) < 10 ^ j := by
 intro j
 induction j with
 | zero => intro _; simp [numL]
 | succ j ih =>
  intro hj
  rw [numL_step (by omega), Nat.pow_succ]
  have h1 := ih (by omega)
  have h2 := List.all_eq_true.1 h l[j] (List.getElem_mem _)
  have h3 := of_decide_eq_true h2
  omega
def readR (neg : Bool) (l : List UInt8) (nb : Int) : Int × Int × Int :=
 if neg then (if numL l = 0 then (0, 0, 10) else made (-(numL l : Int)) nb) else made (numL l : Int) nb
set_option maxHeartbeats 8000000 in
set_option maxRecDepth 100000 in
theorem read_c (neg : Bool) (a b : ByteArray) (w : World) (hd : inB (a.data.toList ++ b.data.toList) 48 57 = true) (hl : a.size + b.size <= 40) :
  Calls Tryz.prog 86 #[.bool neg, .string a, .string b] w (RetD (readR neg (a.data.toList ++ b.data.toList) b.size) w) := by
 obtain ⟨s, hs⟩ : ∃ s : ByteArray, s = a ++ b := ⟨_, rfl⟩
 have hsd : s.data.toList = a.data.toList ++ b.data.toList := by rw [hs]; simp
 have hsz : s.size = a.size + b.size := by rw [hs]; simp
 rw [<- hsd] at hd ⊢
 have hab : a ++ b = s := hs.symm
 clear hs hsd
 have hz : s.size <= 40 := by omega
 clear hsz
 have HD := Lib.hid hd; clear hd
 go_enter Tryz.func86, Tryz.ntmps86
 go_wp2_with fail
 refine (of_c 0 _ (by omega) (by omega)).mono ?_
 rintro e w2 ⟨s2, A2, n2, c2, rfl, hv2, hb2⟩
 have hR2 := heap_below (heap_new w _ rfl) hb2
 have hbel2 := below_then hb2 (w := w) (B := w.heap.size) (by go_grown) (by simp only [World.size_alloc]; omega)
 have hz2 := hbel2.size
 have hlt2 := lt_heap hR2
 clear hb2
 go_wp2_with fail
 go_loopw [15] (fun i wr => ∃ (j : Nat) (t : Bool) (A : Option Addr) (k c : Nat), j <= s.size /\ i = .int .i64 j /\ wr.heap[w2.heap.size]? = some (.cells #[.bool t, .slice A k c] 111 (0, 0)) /\ wr.heap[w.heap.size]? = some (.cells #[.int .i64 0, .int .i64 0] 106 (0, 0)) /\
   Big .u32 196 B32 wr t A k c ((numL (s.data.toList.take j) : Nat) : Int) /\ Below w.heap.size w wr) (fun i _ => s.size - (intOf i).toNat)
 case atStart => exact ⟨0, s2, A2, n2, c2, Nat.zero_le _, rfl, heap_new _ _ rfl, heap_old hR2 _, by exact hv2.alloc _, hbel2.alloc hz2 _⟩
 case round =>
  obtain ⟨j, t, A, k, c, hj, rfl, hO, hR, hbig, hbel⟩ := hrel
  have hzr := hbel.size
  obtain ⟨o0, o1, of0, of1, oz⟩ := box2 hO
  have hnl := numL_lt HD.out j (by simpa using hj)
  have hn40 : numL (s.data.toList.take j) < 10 ^ 40 := Nat.lt_of_lt_of_le hnl (Nat.pow_le_pow_right (by omega) (by omega))
  have hsm : Small ((numL (s.data.toList.take j) : Nat) : Int) := by
   have h4 : (10 : Nat) ^ 40 = 10000000000000000000000000000000000000000 := by decide
   exact small_of_le (by omega) (by omega)
  have hsm2 : Small (((numL (s.data.toList.take j) : Nat) : Int) * 10) := by
   unfold Small
   have h4 : (10 : Nat) ^ 41 < 10 ^ 200 := by decide
   have h5 : (10 : Nat) ^ 41 = 10 ^ 40 * 10 := Nat.pow_succ ..
   omega
  clear hnl hn40
  rcases Nat.lt_or_ge j s.size with hjn | hjn
  ·have hb := inB_at HD.out j hjn
   have hi1 : (0 : Int) <= (j : Int) := by omega
   have hi2 : (j : Int) < (s.size : Int) := by omega
   have hd1 : (48 : Int) <= (s[j].toNat : Int) := by omega
   have hd2 : (s[j].toNat : Int) <= 57 := by omega
   have hdig : IntKind.i64.wrap (IntKind.u8.wrap ((s[j].toNat : Int) - 48)) = ((s[j].toNat - 48 : Nat) : Int) := by rw [IntWalk.u8_in _ (by omega), IntWalk.i64_in _ (by omega)]; omega
   have HG := Lib.hid hdig; clear hdig hb
   have hcond : ¬ 9223372036854775807 < a.size + b.size := by omega
   go_wp2_with fail
   go_region_with
    (first
     | (go_at_call_of 132 (Value.int .i64 10); refine (of_c 10 _ (by omega) (by omega)).mono ?_; rintro e w4 ⟨s4, A4, n4, c4, rfl, hv4, hb4⟩; (have hO4 := heap_below (w := wr.drew) hO hb4); (have hR4 := heap_below (w := wr.drew) hR hb4); (have hbel4 := below_then hb4 hbel.drew hzr); obtain ⟨r10, r11, -, -, -⟩ := box2 hO4)
     | (go_at_call 133; refine (times_c _ (by exact Big.below (w := wr.drew) hbig hb4) hv4 hsm (small_of_le (by omega) (by omega))).mono ?_; rintro e w5 ⟨s5, A5, n5, c5, rfl, hv5, hb5⟩; (have hO5 := heap_below hO4 hb5); (have hR5 := heap_below hR4 hb5); (have hbel5 := below_then hb5 hbel4 hbel4.size))
     | (go_at_call 132; rw [HG.out]; refine (of_c _ _ (by omega) (by omega)).mono ?_; rintro e w6 ⟨s6, A6, n6, c6, rfl, hv6, hb6⟩; (have hO6 := heap_below hO5 hb6); (have hR6 := heap_below hR5 hb6); (have hbel6 := below_then hb6 hbel5 hbel5.size))
     | (go_at_call 134; refine (plus_c _ (hv5.below hb6) hv6 hsm2 (small_of_le (by omega) (by omega))).mono ?_; rintro e w7 ⟨s7, A7, n7, c7, rfl, hv7, hb7⟩; (have hO7 := heap_below hO6 hb7); (have hR7 := heap_below hR6 hb7); (have hbel7 := below_then hb7 hbel6 hbel6.size); obtain ⟨g0, g1, g2, g3, g4⟩ := box2 hO7))
   all_goals
    have hstep : ((numL (s.data.toList.take j) : Nat) : Int) * 10 + ((s[j].toNat - 48 : Nat) : Int) = ((numL (s.data.toList.take (j + 1)) : Nat) : Int) := by
     rw [numL_step (l := s.data.toList) (by simpa using hjn), data_get s j hjn]; omega
    rw [hstep] at hv7
    clear hstep
    have hN := hv7.box2 hO7 (by decide) (.bool s7) (.slice A7 n7 c7)
    have hO8 := heap_set (heap_set hO7 0 (.bool s7)) 1 (.slice A7 n7 c7)
    have hR8 := heap_far (heap_far hR7 (p := ⟨w2.heap.size, 0, none⟩) (by dsimp only; omega) (.bool s7)) (p := ⟨w2.heap.size, 1, none⟩) (by dsimp only; omega) (.slice A7 n7 c7)
    have hb' := (hbel7.setCell (p := ⟨w2.heap.size, 0, none⟩) hz2 (.bool s7)).setCell (p := ⟨w2.heap.size, 1, none⟩) hz2 (.slice A7 n7 c7)
    generalize (w7.setCell ⟨w2.heap.size, 0, none⟩ (.bool s7)).setCell ⟨w2.heap.size, 1, none⟩ (.slice A7 n7 c7) = w8 at hN hO8 hR8 hb' ⊢
    clear hv7 hO7 hR7 hb7 hbel7 g0 g1 g2 g3 g4 hv6 hv5 hv4 hO6 hO5 hO4 hR6 hR5 hR4 hb6 hb5 hb4 hbel6 hbel5 hbel4
    go_wp2
    go_roundw
    case rel => exact ⟨j + 1, s7, A7, n7, c7, by omega, by go_num, hO8, hR8, hN, hb'⟩
    case measure => simp [intOf]; omega
  ·obtain rfl : j = s.size := by omega
   rw [show s.data.toList.take s.size = s.data.toList from List.take_of_length_le (by simp)] at hbig
   obtain ⟨g0, g1, g2, g3, g4⟩ := box2 hR
   cases neg with
   | false =>
    go_wp2_with fail
    refine (mk_c _ (b.size : Int) hbig).mono ?_
    rintro e w3 ⟨rfl, hb3⟩
    have hR3 := heap_below hR hb3
    obtain ⟨g0, g1, g2, g3, g4⟩ := box2 hR3
    have hbel3 := below_then hb3 hbel hzr
    rw [show made ((numL s.data.toList : Nat) : Int) (b.size : Int) = readR false s.data.toList (b.size : Int) from rfl]
    generalize readR false s.data.toList (b.size : Int) = R at *
    obtain ⟨R1, R2, R3⟩ := R
    go_wp2
    refine bodyPost_ret (v := .tuple #[.agg #[.int .i64 R1, .int .i64 R2], .int .i64 R3]) (by simp [results, Tryz.results86, go_sem, g0, g1]) rfl ⟨rfl, ?_⟩
    go_grown
   | true =>
    by_cases hz0 : numL s.data.toList = 0
    ·have e : readR true s.data.toList (b.size : Int) = (0, 0, 10) := by unfold readR; rw [if_pos rfl, if_pos hz0]
     have HE := Lib.hid e
     clear e
     have hsg : ((numL s.data.toList : Nat) : Int).sign = 0 := by rw [hz0]; rfl
     have HS := Lib.hid hsg; clear hsg hz0
     go_wp2_with fail
     refine (sign_c _ hbig).mono ?_
     rintro e w3 ⟨rfl, hb3⟩
     rw [HS.out]
     have hR3 := heap_below hR hb3
     obtain ⟨g0, g1, g2, g3, g4⟩ := box2 hR3
     have hbel3 := below_then hb3 hbel hzr
     go_wp2
     refine bodyPost_ret (v := .tuple #[.agg #[.int .i64 0, .int .i64 0], .int .i64 10]) (by simp [results, Tryz.results86, go_sem, g0, g1]) rfl ⟨by rw [HE.out], ?_⟩
     go_grown
    ·have e : readR true s.data.toList (b.size : Int) = made (-((numL s.data.toList : Nat) : Int)) (b.size : Int) := by unfold readR; rw [if_pos rfl, if_neg hz0]
     have HE := Lib.hid e
     clear e
     have hsg : ((numL s.data.toList : Nat) : Int).sign = 1 := Int.sign_eq_one_of_pos (by omega)
     have HS := Lib.hid hsg; clear hsg hz0
     go_wp2_with fail
     refine (sign_c _ hbig).mono ?_
     rintro e w3 ⟨rfl, hb3⟩
     rw [HS.out]
     have hR3 := heap_below hR hb3
     have hO3 := heap_below hO hb3
     have hbel3 := below_then hb3 hbel hzr
     have hbig3 := hbig.below hb3
     obtain ⟨g0, g1, g2, g3, g4⟩ := box2 hR3
     obtain ⟨o0, o1, of0, of1, oz⟩ := box2 hO3
     go_wp2_with fail
     refine (minus_c _ hbig3).mono ?_
     rintro e w4 ⟨s4, A4, n4, c4, rfl, hv4, hb4⟩
     have hR4 := heap_below hR3 hb4
     have hO4 := heap_below hO3 hb4
     have hbel4 := below_then hb4 hbel3 hbel3.size
     obtain ⟨g0, g1, g2, g3, g4⟩ := box2 hR4
     obtain ⟨o0, o1, of0, of1, oz⟩ := box2 hO4
     have hN := hv4.box2 hO4 (by decide) (.bool s4) (.slice A4 n4 c4)
     have hR8 := heap_far (heap_far hR4 (p := ⟨w2.heap.size, 0, none⟩) (by dsimp only; omega) (.bool s4)) (p := ⟨w2.heap.size, 1, none⟩) (by dsimp only; omega) (.slice A4 n4 c4)
     have hb' := (hbel4.setCell (p := ⟨w2.heap.size, 0, none⟩) hz2 (.bool s4)).setCell (p := ⟨w2.heap.size, 1, none⟩) hz2 (.slice A4 n4 c4)
     go_wp2_with fail
     refine (mk_c _ (b.size : Int) hN).mono ?_
     rintro e w5 ⟨rfl, hb5⟩
     have hR5 := heap_below hR8 hb5
     obtain ⟨g0, g1, g2, g3, g4⟩ := box2 hR5
     have hbel5 := below_then hb5 hb' hb'.size
     rw [<- HE.out]
     clear HE
     generalize readR true s.data.toList (b.size : Int) = R at *
     obtain ⟨R1, R2, R3⟩ := R
     go_wp2
     refine bodyPost_ret (v := .tuple #[.agg #[.int .i64 R1, .int .i64 R2], .int .i64 R3]) (by simp [results, Tryz.results86, go_sem, g0, g1]) rfl ⟨rfl, ?_⟩
     go_grown
end Go.Proofs.YtbnjejenejoibaaGreatDoor
