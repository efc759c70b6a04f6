
/- The walks of Cut at one byte, isWhole, read, ReadText. -/
import Derived.Test.YtegobkaldedhhaaDoorA4
import Derived.Lib.Bytealg
import Derived.Lib.IndexLaws
namespace Go.Proofs.YtegobkaldedhhaaDoor
open Go.RowKit Limb

/-- What lies ahead of the first such byte, what lies behind it, whether there is one. -/
def cutL : List UInt8 → UInt8 → List UInt8 × List UInt8 × Bool
  | [], _ => ([], [], false)
  | x :: l, c => if x == c then ([], l, true) else (x :: (cutL l c).1, (cutL l c).2.1, (cutL l c).2.2)

theorem cutL_index (l : List UInt8) (c : UInt8) : (Lib.indexByte l c = -1 ∧ cutL l c = (l, [], false)) ∨ ∃ o : Nat, o < l.length ∧ Lib.indexByte l c = o ∧ cutL l c = (l.take o, l.drop (o + 1), true) := by
  induction l with
  | nil => exact .inl ⟨rfl, rfl⟩
  | cons x l ih =>
    unfold Lib.indexByte cutL
    by_cases h : (x == c) = true
    · rw [if_pos h, if_pos h]
      exact .inr ⟨0, by simp, rfl, by simp⟩
    · rw [if_neg h, if_neg h]
      rcases ih with ⟨h1, h2⟩ | ⟨o, ho, h1, h2⟩
      · rw [h1, h2]
        exact .inl ⟨rfl, rfl⟩
      · rw [h1, h2]
        refine .inr ⟨o + 1, by simpa using ho, ?_, by simp⟩
        rw [if_neg (by simp)]
        simp

theorem ixb (s : ByteArray) (c : UInt8) (w : World) : (callFunc 167 #[.string s, .int .u8 (c.toNat : Int)]).run Tryd.prog w = .ok (.value (.int .i64 (Lib.indexByte s.data.toList c))) w := by
  rw [run_callFunc_extern Tryd.func167 (by kernel_rfl) (by kernel_rfl) (by kernel_rfl) (e := Extern.BytealgIndexByte.indexByte) (by kernel_rfl), Lib.run_indexByteString]
  simp [Result.andThen]

set_option maxRecDepth 100000 in
theorem index1_c (s : ByteArray) (c : UInt8) (w : World) : Calls Tryd.prog 156 #[.string s, .string ⟨#[c]⟩] w fun e w' => w = w' ∧ e = .returned (.int .i64 (Lib.indexByte s.data.toList c)) := by
  have h94 := ixb s c
  have e46 : (⟨#[c]⟩ : ByteArray)[0]'(by show 0 < 1; decide) = c := rfl
  by_cases hq : ([c] == s.toList) = true
  · have e : Lib.indexByte s.data.toList c = 0 := by
      have : s.data.toList = [c] := by rw [← Lib.toList_data]; exact (beq_iff_eq.1 hq).symm
      rw [this]; simp [Lib.indexByte]
    have E := Lib.hid e; clear e
    go_enter Tryd.func156, Tryd.ntmps156
    go_wp2
    all_goals
      go_ret
      exact ⟨rfl, by rw [E.out]; simp⟩
  · have hq : ([c] == s.toList) = false := by simpa using hq
    go_enter Tryd.func156, Tryd.ntmps156
    go_wp2
    go_ret
    exact ⟨rfl, by simp⟩

/-- What Cut at one byte comes to. -/
def Cut1 (s : ByteArray) (c : UInt8) (w : World) (e : Ending) (w' : World) : Prop :=
  (∃ n, w' = w.drewN n) ∧ ∃ t u : ByteArray, e = .returned (.tuple #[.string t, .string u, .bool (cutL s.data.toList c).2.2]) ∧ t.data.toList = (cutL s.data.toList c).1 ∧ u.data.toList = (cutL s.data.toList c).2.1

set_option maxHeartbeats 1000000 in
set_option maxRecDepth 100000 in
theorem lcut_c (s : ByteArray) (c : UInt8) (w : World) (hs : s.size ≤ 9223372036854775807) : Calls Tryd.prog 116 #[.string s, .string ⟨#[c]⟩] w (Cut1 s c w) := by
  rcases cutL_index s.data.toList c with ⟨h1, h2⟩ | ⟨o, ho, h1, h2⟩
  · have H1 := Lib.hid h1; have H2 := Lib.hid h2; clear h1 h2
    go_enter Tryd.func116, Tryd.ntmps116
    go_wp2_with (go_at_call 156; refine (index1_c s c _).mono ?_; rintro e w1 ⟨rfl, rfl⟩; rw [H1.out])
    go_ret3
    refine ⟨⟨0, rfl⟩, s, ⟨#[]⟩, ?_, ?_, ?_⟩
    · rw [H2.out]; simp
    · rw [H2.out]
    · rw [H2.out]
  · have ho' : o < s.size := by simpa using ho
    have H1 := Lib.hid h1; have H2 := Lib.hid h2; clear h1 h2
    have i1 : (0 : Int) ≤ (o : Int) := by omega
    have i2 : (o : Int) + 1 ≤ (s.size : Int) := by omega
    have i3 : (o : Int) ≤ (s.size : Int) := by omega
    have e1 : IntKind.i64.wrap ((o : Int) + 1) = (o : Int) + 1 := IntWalk.i64_in _ (by omega)
    have e2 : (0 : Int) ≤ (o : Int) + 1 := by omega
    have e3 : ((o : Int) + 1).toNat = o + 1 := by omega
    have E1 := Lib.hid e1; have E2 := Lib.hid e2; have E3 := Lib.hid e3; clear e1 e2 e3
    go_enter Tryd.func116, Tryd.ntmps116
    go_wp2_with (go_at_call 156; refine (index1_c s c _).mono ?_; rintro e w1 ⟨rfl, rfl⟩; rw [H1.out])
    have e1 := E1.out; have e2 := E2.out; have e3 := E3.out
    go_quiet (fail)
    clear e1 e2 e3
    go_wp2
    go_ret3
    refine ⟨⟨_, rfl⟩, s.extract 0 o, s.extract (o + 1) s.size, ?_, ?_, ?_⟩
    · rw [H2.out]; simp
    · rw [H2.out, Lib.extract_data]; simp
    · rw [H2.out, Lib.extract_to_end]
set_option maxRecDepth 100000 in
theorem cut_c (s : ByteArray) (c : UInt8) (w : World) (hs : s.size ≤ 9223372036854775807) : Calls Tryd.prog 68 #[.string s, .string ⟨#[c]⟩] w (Cut1 s c w) := by
  go_enter Tryd.func68, Tryd.ntmps68
  go_wp2_with fail
  refine (lcut_c s c _ hs).mono ?_
  rintro e w1 ⟨⟨n, rfl⟩, t, u, rfl, ht, hu⟩
  have HT := Lib.hid ht; have HU := Lib.hid hu; clear ht hu
  go_wp2
  go_ret3
  exact ⟨⟨_, rfl⟩, t, u, by simp, HT.out, HU.out⟩

/-- Digits without a needless 0. -/
def wholeB (l : List UInt8) : Bool := digB l && (l.length == 1 || !(l.head? == some 48))
theorem head_get {s : ByteArray} (h : 0 < s.size) : s.data.toList.head? = some s[0] := by
  rw [List.head?_eq_getElem?, List.getElem?_eq_getElem (by simpa using h)]
  rfl
theorem dig_size {s : ByteArray} (h : digB s.data.toList = true) : 0 < s.size := by
  unfold digB at h
  rcases Nat.eq_zero_or_pos s.size with h0 | h0
  · have hl : s.data.toList = [] := List.length_eq_zero_iff.1 (by simpa using h0)
    rw [hl] at h; simp at h
  · exact h0
set_option maxRecDepth 100000 in
theorem iswhole_c (s : ByteArray) (w : World) (hs : s.size ≤ 9223372036854775807) :
    Calls Tryd.prog 69 #[.string s] w fun e w' => w = w' ∧ e = .returned (.bool (wholeB s.data.toList)) := by
  by_cases hd : digB s.data.toList = true
  · have h0 := dig_size hd
    have hlen : s.data.toList.length = s.size := by simp
    have hw : wholeB s.data.toList = (s.size == 1 || !(s[0] == 48)) := by
      unfold wholeB; rw [hd, head_get h0, hlen]; simp
    rw [hw]
    have HD := Lib.hid hd; clear hw hd hlen
    by_cases h1 : s.size = 1
    · have h1' : ((s.size : Int) == 1) = true := by simp; omega
      have e1 : (s.size == 1 || !(s[0] == 48)) = true := by simp [h1]
      rw [e1]
      clear h1 e1
      go_enter Tryd.func69, Tryd.ntmps69
      go_wp2_with (go_at_call 70; refine (isdig_c s _ hs).mono ?_; rintro e w1 ⟨rfl, rfl⟩; rw [HD.out])
      go_ret
      exact ⟨rfl, by simp⟩
    · have h1' : ((s.size : Int) == 1) = false := by simp; omega
      have e1 : (s.size == 1 || !(s[0] == 48)) = ((s[0].toNat : Int) != 48) := by
        have e2 : s[0] = 48 ↔ s[0].toNat = 48 := ⟨fun h => by rw [h]; rfl, fun h => UInt8.toNat_inj.1 (by rw [h]; rfl)⟩
        have e3 : (s[0] == 48) = (s[0].toNat == 48) := by rw [Bool.eq_iff_iff]; simpa using e2
        rw [e3, Bool.eq_iff_iff]
        simp [h1]
        omega
      rw [e1]
      clear h1 e1
      go_enter Tryd.func69, Tryd.ntmps69
      go_wp2_with (go_at_call 70; refine (isdig_c s _ hs).mono ?_; rintro e w1 ⟨rfl, rfl⟩; rw [HD.out])
      go_ret
      exact ⟨rfl, by simp⟩
  · have hd : digB s.data.toList = false := by simpa using hd
    have hw : wholeB s.data.toList = false := by unfold wholeB; rw [hd]; rfl
    rw [hw]
    have HD := Lib.hid hd; clear hw hd
    go_enter Tryd.func69, Tryd.ntmps69
    go_wp2_with (go_at_call 70; refine (isdig_c s _ hs).mono ?_; rintro e w1 ⟨rfl, rfl⟩; rw [HD.out])
    go_ret
    exact ⟨rfl, by simp⟩

end Go.Proofs.YtegobkaldedhhaaDoor
