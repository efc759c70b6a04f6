
/- The walk of awake: ReadText at one text. -/
import Derived.Test.YtegobkaldedhhaaDoorA3
import Derived.Lib.Strings
import Derived.Lib.IndexBytes
namespace Go.Proofs.YtegobkaldedhhaaDoor
open Go.RowKit Limb

/-! ### A string without one byte ahead -/
def hasB (s : ByteArray) (c : UInt8) : Bool := s.data.toList.head? == some c
theorem hasB_ext {s : ByteArray} {c : UInt8} (h : 0 < s.size) : ((s.extract 0 1).toList == [c]) = hasB s c := by
  rw [Lib.extract_toList]
  unfold hasB
  have hl : 0 < s.data.toList.length := by simpa using h
  cases hd : s.data.toList with
  | nil => rw [hd] at hl; simp at hl
  | cons x xs => simp
theorem hasB_empty {s : ByteArray} {c : UInt8} (h : s.size = 0) : hasB s c = false := by
  unfold hasB
  have hl : s.data.toList = [] := List.length_eq_zero_iff.1 (by simpa using h)
  rw [hl]; rfl

set_option maxRecDepth 100000 in
theorem hasp_yes (s : ByteArray) (c : UInt8) (w : World) (h : hasB s c = true) (hs : s.size ≤ 9223372036854775807) :
    Calls Tryd.prog 155 #[.string s, .string ⟨#[c]⟩] w fun e w' => w = w' ∧ e = .returned (.bool true) := by
  have h0 : 0 < s.size := by
    rcases Nat.eq_zero_or_pos s.size with h1 | h1
    · rw [hasB_empty h1] at h; cases h
    · exact h1
  have he := hasB_ext (c := c) h0
  rw [h] at he
  clear h
  have h1 : 1 ≤ s.size := h0
  go_enter Tryd.func155, Tryd.ntmps155
  go_wp2
  go_ret
  exact ⟨rfl, by simp⟩
set_option maxRecDepth 100000 in
theorem hasp_no (s : ByteArray) (c : UInt8) (w : World) (h : hasB s c = false) (hs : s.size ≤ 9223372036854775807) :
    Calls Tryd.prog 155 #[.string s, .string ⟨#[c]⟩] w fun e w' => w = w' ∧ e = .returned (.bool false) := by
  rcases Nat.eq_zero_or_pos s.size with h0 | h0
  · clear h
    go_enter Tryd.func155, Tryd.ntmps155
    go_wp2
    go_ret
    exact ⟨rfl, by simp⟩
  · have he := hasB_ext (c := c) h0
    rw [h] at he
    clear h
    have h1 : 1 ≤ s.size := h0
    go_enter Tryd.func155, Tryd.ntmps155
    go_wp2
    go_ret
    exact ⟨rfl, by simp⟩

/-- What CutPrefix comes to. -/
def CutP (s : ByteArray) (c : UInt8) (w : World) (e : Ending) (w' : World) : Prop :=
  w = w' ∧ ∃ t : ByteArray, e = .returned (.tuple #[.string t, .bool (hasB s c)]) ∧ t.data.toList = (if hasB s c then s.data.toList.tail else s.data.toList)

set_option maxRecDepth 100000 in
theorem lcutp_c (s : ByteArray) (c : UInt8) (w : World) (hs : s.size ≤ 9223372036854775807) :
    Calls Tryd.prog 115 #[.string s, .string ⟨#[c]⟩] w (CutP s c w) := by
  by_cases h : hasB s c = true
  · have h0 : 0 < s.size := by
      rcases Nat.eq_zero_or_pos s.size with h1 | h1
      · rw [hasB_empty h1] at h; cases h
      · exact h1
    have h1 : 1 ≤ s.size := h0
    have H := Lib.hid h; clear h
    go_enter Tryd.func115, Tryd.ntmps115
    go_wp2_with (go_at_call 155; refine (hasp_yes s c _ H.out hs).mono ?_; rintro e w1 ⟨rfl, rfl⟩)
    go_ret2
    refine ⟨rfl, s.extract 1 s.size, ?_, ?_⟩
    · rw [H.out]; simp
    · rw [H.out, Lib.extract_to_end]; simp
  · have h : hasB s c = false := by simpa using h
    have H := Lib.hid h; clear h
    go_enter Tryd.func115, Tryd.ntmps115
    go_wp2_with (go_at_call 155; refine (hasp_no s c _ H.out hs).mono ?_; rintro e w1 ⟨rfl, rfl⟩)
    go_ret2
    refine ⟨rfl, s, ?_, ?_⟩
    · rw [H.out]; simp
    · rw [H.out]; simp
set_option maxRecDepth 100000 in
theorem cutp_c (s : ByteArray) (c : UInt8) (w : World) (hs : s.size ≤ 9223372036854775807) :
    Calls Tryd.prog 67 #[.string s, .string ⟨#[c]⟩] w (CutP s c w) := by
  go_enter Tryd.func67, Tryd.ntmps67
  go_wp2_with fail
  refine (lcutp_c s c _ hs).mono ?_
  rintro e w1 ⟨rfl, t, rfl, ht⟩
  have HT := Lib.hid ht; clear ht
  go_wp2
  go_ret2
  exact ⟨rfl, t, by simp, HT.out⟩

theorem ix150 (w : World) : (callFunc 167 #[.string ⟨#[49, 46, 53, 48]⟩, .int .u8 46]).run Tryd.prog w = .ok (.value (.int .i64 1)) w := by kernel_rfl

theorem index150 (w : World) : Calls Tryd.prog 156 #[.string ⟨#[49, 46, 53, 48]⟩, .string ⟨#[46]⟩] w fun e w' => w = w' ∧ e = .returned (.int .i64 1) := by
  have h94 := ix150
  have e46 : ((((⟨#[46]⟩ : ByteArray)[0]'(by decide)).toNat : Nat) : Int) = 46 := rfl
  go_enter Tryd.func156, Tryd.ntmps156
  go_wp2
  go_ret
  exact ⟨rfl, by simp⟩

set_option maxRecDepth 100000 in
theorem lcut150 (w : World) : Calls Tryd.prog 116 #[.string ⟨#[49, 46, 53, 48]⟩, .string ⟨#[46]⟩] w fun e w' => e = .returned (.tuple #[.string ⟨#[49]⟩, .string ⟨#[53, 48]⟩, .bool true]) ∧ ∃ n, w' = w.drewN n := by
  go_enter Tryd.func116, Tryd.ntmps116
  go_wp2_with (go_at_call 156; refine (index150 _).mono ?_; rintro e w1 ⟨rfl, rfl⟩)
  go_quiet (fail)
  go_wp2
  go_ret3
  exact ⟨rfl, _, rfl⟩

theorem cut150 (w : World) : Calls Tryd.prog 68 #[.string ⟨#[49, 46, 53, 48]⟩, .string ⟨#[46]⟩] w fun e w' => e = .returned (.tuple #[.string ⟨#[49]⟩, .string ⟨#[53, 48]⟩, .bool true]) ∧ ∃ n, w' = w.drewN n := by
  go_enter Tryd.func68, Tryd.ntmps68
  go_wp2_with (go_at_call 116; refine (lcut150 _).mono ?_; rintro e w1 ⟨rfl, n, rfl⟩)
  go_ret3
  exact ⟨rfl, _, rfl⟩


/-! ### Digits -/
def inB (l : List UInt8) (lo hi : Nat) : Bool := l.all fun c => decide (lo ≤ c.toNat ∧ c.toNat ≤ hi)
theorem data_get (s : ByteArray) (j : Nat) (h : j < s.size) : s.data.toList[j]'(by simpa using h) = s[j] := rfl
theorem inB_at {s : ByteArray} {lo hi : Nat} (h : inB s.data.toList lo hi = true) (j : Nat) (hj : j < s.size) : lo ≤ s[j].toNat ∧ s[j].toNat ≤ hi := by
  have := List.all_eq_true.1 h _ (List.getElem_mem (l := s.data.toList) (n := j) (by simpa using hj))
  rw [data_get s j hj] at this
  exact of_decide_eq_true this
theorem inB_bad {l : List UInt8} {lo hi : Nat} (h : inB l lo hi = false) : ∃ j, ∃ hj : j < l.length, ¬ (lo ≤ l[j].toNat ∧ l[j].toNat ≤ hi) ∧ ∀ i, ∀ hi' : i < j, lo ≤ (l[i]'(by omega)).toNat ∧ (l[i]'(by omega)).toNat ≤ hi := by
  induction l with
  | nil => simp [inB] at h
  | cons c l ih =>
    by_cases hc : lo ≤ c.toNat ∧ c.toNat ≤ hi
    · have h2 : inB l lo hi = false := by
        unfold inB at h ⊢
        rw [List.all_cons, decide_eq_true hc] at h
        simpa using h
      obtain ⟨j, hj, h3, h4⟩ := ih h2
      refine ⟨j + 1, by simpa using hj, by simpa using h3, fun i hi' => ?_⟩
      cases i with
      | zero => simpa using hc
      | succ i => simpa using h4 i (by omega)
    · exact ⟨0, by simp, by simpa using hc, fun i hi' => by omega⟩

set_option maxHeartbeats 400000 in
set_option maxRecDepth 100000 in
theorem inb_yes (s : ByteArray) (lo hi : Nat) (w : World) (h : inB s.data.toList lo hi = true) (hs : s.size ≤ 9223372036854775807) :
    Calls Tryd.prog 117 #[.string s, .int .u8 (lo : Int), .int .u8 (hi : Int)] w fun e w' => w = w' ∧ e = .returned (.bool true) := by
  go_enter Tryd.func117, Tryd.ntmps117
  go_wp2
  go_loop [10] (fun i => ∃ j : Nat, j ≤ s.size ∧ i = .int .i64 j) (fun i => s.size - (intOf i).toNat)
  case atStart => exact ⟨0, Nat.zero_le _, rfl⟩
  case round =>
    obtain ⟨j, hj, rfl⟩ := hrel
    rcases Nat.lt_or_ge j s.size with hjn | hjn
    · have hb := inB_at h j hjn
      have h1 : (lo : Int) ≤ (s[j].toNat : Int) := by omega
      have h2 : (s[j].toNat : Int) ≤ (hi : Int) := by omega
      clear hb
      go_wp2
      go_round
      case rel => exact ⟨j + 1, by omega, by go_num⟩
      case measure => simp [intOf]; omega
    · go_wp2
      go_ret
      exact ⟨rfl, rfl⟩

set_option maxHeartbeats 400000 in
set_option maxRecDepth 100000 in
theorem inb_no (s : ByteArray) (lo hi : Nat) (w : World) (h : inB s.data.toList lo hi = false) (hs : s.size ≤ 9223372036854775807) :
    Calls Tryd.prog 117 #[.string s, .int .u8 (lo : Int), .int .u8 (hi : Int)] w fun e w' => w = w' ∧ e = .returned (.bool false) := by
  obtain ⟨m, hm, hbad, hgood⟩ := inB_bad h
  have hm' : m < s.size := by simpa using hm
  clear h
  go_enter Tryd.func117, Tryd.ntmps117
  go_wp2
  go_loop [10] (fun i => ∃ j : Nat, j ≤ m ∧ i = .int .i64 j) (fun i => s.size - (intOf i).toNat)
  case atStart => exact ⟨0, Nat.zero_le _, rfl⟩
  case round =>
    obtain ⟨j, hj, rfl⟩ := hrel
    have hjn : j < s.size := by omega
    rcases Nat.lt_or_ge j m with hjm | hjm
    · have hb := hgood j hjm
      rw [data_get s j hjn] at hb
      have h1 : (lo : Int) ≤ (s[j].toNat : Int) := by omega
      have h2 : (s[j].toNat : Int) ≤ (hi : Int) := by omega
      clear hb hbad hgood
      go_wp2
      go_round
      case rel => exact ⟨j + 1, by omega, by go_num⟩
      case measure => simp [intOf]; omega
    · obtain rfl : j = m := by omega
      have hb := hbad
      rw [data_get s j hjn] at hb
      clear hbad hgood
      by_cases h1 : (s[j].toNat : Int) < (lo : Int)
      · clear hb
        go_wp2
        go_ret
        exact ⟨rfl, rfl⟩
      · have h2 : (hi : Int) < (s[j].toNat : Int) := by omega
        clear hb
        go_wp2
        go_ret
        exact ⟨rfl, rfl⟩

/-- Digits, at least one. -/
def digB (l : List UInt8) : Bool := !l.isEmpty && inB l 48 57
theorem isdig_c (s : ByteArray) (w : World) (hs : s.size ≤ 9223372036854775807) :
    Calls Tryd.prog 70 #[.string s] w fun e w' => w = w' ∧ e = .returned (.bool (digB s.data.toList)) := by
  by_cases h0 : s.data.toList.isEmpty = true
  · have e : digB s.data.toList = false := by unfold digB; rw [h0]; rfl
    rw [e]; clear e
    have hn : s.toList.isEmpty = true := by rw [Lib.toList_data]; exact h0
    clear h0
    go_enter Tryd.func70, Tryd.ntmps70
    go_wp2
    go_ret
    exact ⟨rfl, by simp⟩
  · have h0 : s.data.toList.isEmpty = false := by simpa using h0
    have hn : s.toList.isEmpty = false := by rw [Lib.toList_data]; exact h0
    by_cases hb : inB s.data.toList 48 57 = true
    · have e : digB s.data.toList = true := by unfold digB; rw [h0, hb]; rfl
      rw [e]
      have HB := Lib.hid hb; clear e hb h0
      go_enter Tryd.func70, Tryd.ntmps70
      go_wp2_with (go_at_call 117; refine (inb_yes s 48 57 _ HB.out hs).mono ?_; rintro e w1 ⟨rfl, rfl⟩)
      go_ret
      exact ⟨rfl, by simp⟩
    · have hb : inB s.data.toList 48 57 = false := by simpa using hb
      have e : digB s.data.toList = false := by unfold digB; rw [h0, hb]; rfl
      rw [e]
      have HB := Lib.hid hb; clear e hb h0
      go_enter Tryd.func70, Tryd.ntmps70
      go_wp2_with (go_at_call 117; refine (inb_no s 48 57 _ HB.out hs).mono ?_; rintro e w1 ⟨rfl, rfl⟩)
      go_ret
      exact ⟨rfl, by simp⟩

end Go.Proofs.YtegobkaldedhhaaDoor
