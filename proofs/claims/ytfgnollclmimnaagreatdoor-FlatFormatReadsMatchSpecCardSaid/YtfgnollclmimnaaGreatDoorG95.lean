
/- The reference's line, whole. (Printed by genG9.py.) -/
import Derived.Test.YtfgnollclmimnaaGreatDoorG91
import Derived.Test.YtfgnollclmimnaaGreatDoorG92
import Derived.Test.YtfgnollclmimnaaGreatDoorG93
import Derived.Test.YtfgnollclmimnaaGreatDoorG94
namespace Go.Proofs.YtfgnollclmimnaaGreatDoor
open Go.RowKit Limb Nmb Work
set_option linter.unusedVariables false
set_option linter.unusedSimpArgs false

theorem rline_c (B r S N : Nat) (m0 : Int) (st : FSt) (s : ByteArray) (w : World) (hNN : N ≤ 1000000) (hS : S < 4294967281) (hs : s.size ≤ S) (hm0 : w.cell? ⟨0, 0, none⟩ = some (.int .i64 m0)) (hf : RR w B r S N st) (fb : Bool) (hfb : st.begun = !fb) :
    Calls Tryz.prog 15 #[.pointer (some ⟨r, 0, none⟩), .string s, .bool fb] w (RetRL (lineF st s) B r S (N + 1) w) := by
  by_cases hE : (wrdS s).any (fun y => decide (y = eS)) = true ∨ st.ended = true
  · exact rline0_c B r S N m0 st s w hNN hS hs hm0 hf fb hE
  have h1 : (wrdS s).any (fun y => decide (y = eS)) = false := by
    rw [Bool.eq_false_iff]; exact fun h => hE (.inl h)
  have h2 : st.ended = false := by
    rw [Bool.eq_false_iff]; exact fun h => hE (.inr h)
  cases fb with
  | true => exact rline1_c B r S N m0 st s w hNN hS hs hm0 hf h1 h2 hfb
  | false =>
    by_cases hk : wd (wrdS s) 0 = wKind
    · exact rline2_c B r S N m0 st s w hNN hS hs hm0 hf h1 h2 hfb hk
    by_cases hk2 : wd (wrdS s) 0 = wEnds
    · exact rline3_c B r S N m0 st s w hNN hS hs hm0 hf h1 h2 hfb hk2
    · exact rline4_c B r S N m0 st s w hNN hS hs hm0 hf h1 h2 hfb hk hk2
theorem line_begun {st st' : FSt} {s : ByteArray} (h : lineF st s = some st') : st'.begun = true := by
  unfold lineF at h
  split at h
  · cases h
  · unfold wordsF at h
    by_cases hb : st.begun = false
    · rw [if_pos hb] at h
      unfold frstF at h
      repeat' split at h
      all_goals first | (injection h with h; subst h; rfl) | cases h
    · have hb : st.begun = true := by simpa using hb
      rw [if_neg (by rw [hb]; decide)] at h
      repeat' split at h
      all_goals first | (injection h with h; subst h; exact hb) | cases h
theorem cut_nl (l : List UInt8) : (∃ a b, l = a ++ 10 :: b ∧ (10 : UInt8) ∉ a ∧ Lib.cut l [10] = (a, b, true)) ∨ ((10 : UInt8) ∉ l ∧ Lib.cut l [10] = (l, [], false)) := by
  rcases idx_cases 10 l with ⟨h, hn⟩ | ⟨i, h, hi, hl, hn⟩
  · right
    refine ⟨hn, ?_⟩
    unfold Lib.cut
    rw [Lib.index_one, h, if_neg (by decide)]
  · left
    refine ⟨l.take i, l.drop (i + 1), hl, hn, ?_⟩
    unfold Lib.cut
    rw [Lib.index_one, h, if_pos (by omega)]
    simp
theorem lines_hit {st : FSt} {i : Int} {a b : List UInt8} (h : (10 : UInt8) ∉ a) : linesF (lnsE (a ++ 10 :: b)) st i (lnsL (a ++ 10 :: b)) = match lineF st (bs a) with
    | none => .inr (i + 1)
    | some st' => linesF (lnsE b) st' (i + 1) (lnsL b) := by
  obtain ⟨h1, h2⟩ := lns_cut (b := b) h
  rw [h1, h2]
  show (match lineF st (bs a) with | none => _ | some st' => _) = _
  cases lineF st (bs a) with
  | none => rfl
  | some st' =>
    simp only
    rw [if_neg]
    rintro ⟨k1, k2⟩
    have hb : b = [] := by
      unfold lnsL at k2
      split at k2
      · assumption
      · split at k2 <;> exact absurd k2 (pcs_ne _ _)
    subst hb
    cases k1
theorem lines_last {st : FSt} {i : Int} {t : List UInt8} (h : (10 : UInt8) ∉ t) (h0 : t ≠ []) : linesF (lnsE t) st i (lnsL t) = .inr (i + 1) := by
  obtain ⟨h1, h2⟩ := lns_none h h0
  rw [h1, h2]
  show (match lineF st (bs t) with | none => _ | some st' => _) = _
  cases lineF st (bs t) with
  | none => rfl
  | some st' => simp
end Go.Proofs.YtfgnollclmimnaaGreatDoor
