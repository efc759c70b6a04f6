
/- The walk of strings.ReplaceAll where one byte is taken away; a text of any size. -/
import Derived.Test.YtmeefinnefanpaaDoorMem
import Derived.Test.YtmeefinnefanpaaDoorShelf
import Derived.Lib.IndexLaws
import Derived.Lib.SlicesS
import Derived.Deep.LoopGhost
import Derived.WalkLawsBesides
namespace Go.Proofs.YtmeefinnefanpaaDoor
open Go.RowKit Limb
set_option linter.unusedVariables false
set_option linter.unusedSimpArgs false

/-- What is left without a byte. -/
def strike (l : List UInt8) (c : UInt8) : List UInt8 := l.filter (fun x => x != c)
theorem strike_none {c : UInt8} : ∀ {l : List UInt8}, l.count c = 0 → strike l c = l := by
  intro l h
  unfold strike
  rw [List.filter_eq_self]
  intro x hx
  have : c ∉ l := List.count_eq_zero.1 h
  exact bne_iff_ne.2 (fun e => this (e ▸ hx))
theorem strike_split {c : UInt8} : ∀ {l : List UInt8} {n : Nat}, l.count c = n + 1 → ∃ k : Nat, Lib.indexByte l c = (k : Int) ∧ k < l.length ∧ strike l c = l.take k ++ strike (l.drop (k + 1)) c ∧ (l.drop (k + 1)).count c = n
  | [], n, h => by simp at h
  | b :: l, n, h => by
    by_cases e : b = c
    · subst e
      refine ⟨0, by simp [Lib.indexByte], by simp, ?_, ?_⟩
      · unfold strike; simp
      · simpa using h
    · rw [List.count_cons_of_ne e] at h
      obtain ⟨k, h1, h2, h3, h4⟩ := strike_split h
      have eb : (b == c) = false := beq_eq_false_iff_ne.2 e
      refine ⟨k + 1, ?_, by simp; omega, ?_, by simpa using h4⟩
      · rw [Lib.indexByte, eb, h1]
        rw [if_neg (by simp), if_neg (by simp <;> omega)]; rfl
      · have : strike (b :: l) c = b :: strike l c := by unfold strike; rw [List.filter_cons]; simp [bne, eb]
        rw [this, h3]; rfl

/-! ### A builder -/
theorem bgrow_c (b n : Nat) (w : World) (hbk : w.heap[b]? = some (.cells #[.pointer none, .slice none 0 0] 81 (0, 0))) (B : Nat) (hB : B ≤ b) (hBw : B ≤ w.heap.size) (hn : n ≤ 281474976710656) :
    Calls Tryd.prog 60 #[.pointer (some ⟨b, 0, none⟩), .int .i64 n] w fun e w' => e = .returned (.tuple #[]) ∧ Lib.IsBuilder 81 5 B b (Lib.byteCells []) w' ∧ Below B w w' :=
  (Any.Builder_Grow_fresh { Tryd.lays154 with } Tryd.Builder_Extra_154 B b n w hB hbk hBw hn).mono fun _ _ h => ⟨h.1, .inr h.2.1, h.2.2⟩
theorem bwrite_c (B b : Nat) (l : List UInt8) (s : ByteArray) (w : World) (h : Lib.IsBuilder 81 5 B b (Lib.byteCells l) w) (hlen : l.length + s.size ≤ 140737488355328) (hBw : B ≤ w.heap.size) :
    Calls Tryd.prog 62 #[.pointer (some ⟨b, 0, none⟩), .string s] w fun e w' => e = .returned (.tuple #[.int .i64 s.size, .nilIface]) ∧ Lib.IsBuilder 81 5 B b (Lib.byteCells (l ++ s.data.toList)) w' ∧ Below B w w' :=
  (Any.Builder_WriteString { Tryd.lays154 with } Tryd.Builder_Extra_154 B b (Lib.byteCells l) s w h (by rw [Lib.byteCells_length]; exact hlen) hBw).mono fun _ _ h => ⟨h.1, .inr (by rw [Lib.byteCells_append]; exact h.2.1), h.2.2⟩
theorem bstring_c (B b : Nat) (l : List UInt8) (w : World) (h : Lib.IsBuilder 81 5 B b (Lib.byteCells l) w) (hBw : B ≤ w.heap.size) :
    Calls Tryd.prog 63 #[.pointer (some ⟨b, 0, none⟩)] w fun e w' => e = .returned (.string ⟨l.toArray⟩) ∧ Below B w w' :=
  Any.Builder_String_any { Tryd.lays154 with } Tryd.Builder_Extra_154 B b l w h hBw

theorem ext_mid (t : ByteArray) (a b : Nat) : (t.extract a b).data.toList = (t.data.toList.drop a).take (b - a) := by rw [Lib.extract_data]
def RetT (l : List UInt8) (w : World) (e : Ending) (w' : World) : Prop := e = .returned (.string ⟨l.toArray⟩) ∧ Below w.heap.size w w'
set_option maxHeartbeats 2000000 in
set_option maxRecDepth 100000 in
theorem replace_c (s : ByteArray) (c : UInt8) (w : World) (hs : s.size ≤ 140737488355328) :
    Calls Tryd.prog 44 #[.string s, .string ⟨#[c]⟩, .string ⟨#[]⟩, .int .i64 (-1)] w (RetT (strike s.data.toList c) w) := by
  have HC := Lib.hid (fun w => (Tryd.strings_Count_one s c w).mono (fun _ _ h => (⟨h.2.symm, h.1⟩ : _ ∧ _)))
  obtain ⟨K, hK⟩ : ∃ K, Lib.countByte s.data.toList c = K := ⟨_, rfl⟩
  have hKl : K ≤ s.size := by rw [← hK, ← (show s.data.toList.length = s.size by simp)]; exact List.count_le_length
  rw [hK] at HC
  have hK' : s.data.toList.count c = K := hK
  have n1 : ((⟨#[c]⟩ : ByteArray).toList == (⟨#[]⟩ : ByteArray).toList) = false := (Lib.bytes_beq_false_iff _ _).2 (fun e => by have := congrArg ByteArray.size e; exact absurd this (by show ¬ 1 = 0; decide))
  by_cases h0 : K = 0
  · subst h0
    have HS := Lib.hid (strike_none hK')
    clear hK hK'
    go_enter Tryd.func44, Tryd.ntmps44
    go_wp2_with fail
    refine (HC.out _).mono ?_
    rintro e w1 ⟨rfl, rfl⟩
    go_wp2
    go_ret
    exact ⟨by rw [HS.out]; rfl, Below.refl _ _⟩
  have hk0 : ((K : Int) == 0) = false := beq_eq_false_iff_ne.2 (by omega)
  obtain ⟨O, hO⟩ : ∃ O, strike s.data.toList c = O := ⟨_, rfl⟩
  have HO := Lib.hid hO
  have HK := Lib.hid hK'
  rw [hO]
  have hga : (s.size : Int) + -(K : Int) = ((s.size - K : Nat) : Int) := by omega
  have HGA := Lib.hid hga
  clear hK hK' hO hga
  go_enter Tryd.func44, Tryd.ntmps44
  go_wp2_with fail
  refine (HC.out _).mono ?_
  rintro e w1 ⟨rfl, rfl⟩
  go_wp2_with fail
  rw [HGA.out]
  refine (bgrow_c w.heap.size (s.size - K) _ (heap_alloc_new w _) w.heap.size (Nat.le_refl _) (by simp) (by omega)).mono ?_
  rintro e w2 ⟨rfl, hbu, hb2⟩
  have HBU := Lib.hid hbu
  have HB2 := Lib.hid (((Below.refl w.heap.size w).alloc (Nat.le_refl _) _).trans hb2)
  clear hbu hb2
  go_wp2_with fail
  go_loopw [11, 53] (fun x i wr => ∃ (k st : Nat) (acc : List UInt8), k ≤ K ∧ st ≤ s.size ∧ acc.length ≤ st ∧ x = .int .i64 st ∧ i = .int .i64 k ∧ Hid (Lib.IsBuilder 81 5 w.heap.size w.heap.size (Lib.byteCells acc) wr) ∧ Hid (Below w.heap.size w wr) ∧
      Hid (O = acc ++ strike (s.data.toList.drop st) c) ∧ Hid ((s.data.toList.drop st).count c = K - k)) (fun _ i _ => K - (intOf i).toNat)
  case atStart => exact ⟨0, 0, [], Nat.zero_le _, Nat.zero_le _, Nat.le_refl _, rfl, rfl, HBU, HB2, Lib.hid (by rw [List.drop_zero, ← HO.out]; rfl), Lib.hid (by rw [List.drop_zero, HK.out]; rfl)⟩
  case round =>
    obtain ⟨k, st, acc, hk, hst, hac, rfl, rfl, HB, HW, HR, HQ⟩ := hrel
    have hz := HW.out.size
    have q1 : (st : Int) ≤ (s.size : Int) := by omega
    have hsd : s.data.toList.length = s.size := by simp
    rcases Nat.lt_or_ge k K with hlt | hge
    · obtain ⟨j, j1, j2, j3, j4⟩ := strike_split (c := c) (l := s.data.toList.drop st) (n := K - k - 1) (by rw [HQ.out]; omega)
      rw [List.length_drop, hsd] at j2
      have HI := Lib.hid (fun w => (Tryd.strings_Index_one (s.extract st s.size) c w).mono (fun _ _ h => (⟨h.2.symm, h.1⟩ : _ ∧ _)))
      rw [Lib.extract_to_end, j1] at HI
      have q2 : (j : Int) < (s.size : Int) - (st : Int) := by omega
      have q5 : (st : Int) + (j : Int) ≤ (s.size : Int) := by omega
      have q6 : (st : Int) ≤ (st : Int) + (j : Int) := by omega
      have q8 : (0 : Int) ≤ (st : Int) + (j : Int) := by omega
      have q7 : ((st : Int) + (j : Int)).toNat = st + j := by omega
      have hx1 : (s.extract st (st + j)).size = j := by rw [ByteArray.size_extract]; omega
      have hl2 : (acc ++ (s.extract st (st + j)).data.toList).length ≤ st + j := by
        rw [List.length_append, show (s.extract st (st + j)).data.toList.length = (s.extract st (st + j)).size from Array.length_toList, hx1]
        omega
      obtain ⟨acc2, hacc2⟩ : ∃ a, acc ++ (s.extract st (st + j)).data.toList = a := ⟨_, rfl⟩
      have HR2 := Lib.hid (show O = acc2 ++ strike (s.data.toList.drop (st + j + 1)) c by
        rw [HR.out, j3, ← hacc2, ext_mid, List.drop_drop, List.append_assoc]
        rw [show st + j - st = j by omega, Nat.add_assoc])
      have HQ2 := Lib.hid (show (s.data.toList.drop (st + j + 1)).count c = K - (k + 1) by
        rw [Nat.add_assoc, ← List.drop_drop, j4]; omega)
      rw [hacc2] at hl2
      have HA2 := Lib.hid hacc2
      have q3 : acc.length + (s.extract st (st + j)).size ≤ 140737488355328 := by omega
      have q4 : acc2.length + (⟨#[]⟩ : ByteArray).size ≤ 140737488355328 := by show acc2.length + 0 ≤ _; omega
      have Q3 := Lib.hid q3; have Q4 := Lib.hid q4
      clear j1 j3 j4 hx1 hacc2 hsd q3 q4
      go_wp2_with fail
      refine (HI.out _).mono ?_
      rintro e w3 ⟨rfl, rfl⟩
      go_wp2_with fail
      refine (bwrite_c w.heap.size w.heap.size acc (s.extract st (st + j)) _ HB.out Q3.out hz).mono ?_
      rintro e w3 ⟨rfl, hbu3, hb3⟩
      rw [HA2.out] at hbu3
      have HB3 := Lib.hid hbu3
      have HW3 := Lib.hid (HW.out.trans hb3)
      clear hbu3 hb3
      go_wp2_with fail
      refine (bwrite_c w.heap.size w.heap.size acc2 ⟨#[]⟩ _ HB3.out Q4.out HW3.out.size).mono ?_
      rintro e w4 ⟨rfl, hbu4, hb4⟩
      have HB4 := Lib.hid (show Lib.IsBuilder 81 5 w.heap.size w.heap.size (Lib.byteCells acc2) w4 by have := hbu4; rw [show (⟨#[]⟩ : ByteArray).data.toList = [] from rfl, List.append_nil] at this; exact this)
      have HW4 := Lib.hid (HW3.out.trans hb4)
      clear hbu4 hb4
      go_wp2
      go_roundw
      case rel => exact ⟨k + 1, st + j + 1, acc2, by omega, by omega, by omega, by go_num, by go_num, HB4, HW4, HR2, HQ2⟩
      case measure => simp [intOf]; omega
    · obtain rfl : k = K := by omega
      have h0 := strike_none (c := c) (l := s.data.toList.drop st) (by rw [HQ.out]; omega)
      have HR2 := Lib.hid (show acc ++ (s.extract st s.size).data.toList = O by rw [HR.out, h0, Lib.extract_to_end])
      have q3 : acc.length + (s.extract st s.size).size ≤ 140737488355328 := by rw [ByteArray.size_extract]; omega
      have Q3 := Lib.hid q3
      clear h0 q3 hsd
      go_wp2_with fail
      refine (bwrite_c w.heap.size w.heap.size acc (s.extract st s.size) _ HB.out Q3.out hz).mono ?_
      rintro e w3 ⟨rfl, hbu3, hb3⟩
      rw [HR2.out] at hbu3
      have HB3 := Lib.hid hbu3
      have HW3 := Lib.hid (HW.out.trans hb3)
      clear hbu3 hb3
      go_wp2_with fail
      refine (bstring_c w.heap.size w.heap.size O _ HB3.out HW3.out.size).mono ?_
      rintro e w4 ⟨rfl, hb4⟩
      have HW4 := Lib.hid (HW3.out.trans hb4)
      clear hb4
      go_wp2
      go_ret
      exact ⟨rfl, HW4.out⟩
theorem replaceAll_c (s : ByteArray) (c : UInt8) (w : World) (hs : s.size ≤ 140737488355328) :
    Calls Tryd.prog 22 #[.string s, .string ⟨#[c]⟩, .string ⟨#[]⟩] w (RetT (strike s.data.toList c) w) := by
  have H := Lib.hid (fun w => replace_c s c w hs)
  go_enter Tryd.func22, Tryd.ntmps22
  go_wp2_with fail
  refine (H.out _).mono ?_
  rintro e w1 ⟨rfl, hb⟩
  go_wp2
  go_ret
  exact ⟨rfl, hb⟩
end Go.Proofs.YtmeefinnefanpaaDoor
