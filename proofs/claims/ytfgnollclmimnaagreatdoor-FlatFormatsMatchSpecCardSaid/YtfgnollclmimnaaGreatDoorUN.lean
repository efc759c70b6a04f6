
/- The walk of the reference: isName, IsName (as in U11, without the units). -/
import Derived.Test.YtfgnollclmimnaaGreatDoorRW
namespace Go.Proofs.YtfgnollclmimnaaGreatDoor
open Go.RowKit Limb
set_option linter.unusedVariables false
set_option linter.unusedSimpArgs false

theorem nameC_yes {c : UInt8} (h : nameC c = true) : (97 ≤ c.toNat ∧ c.toNat ≤ 122) ∨ (48 ≤ c.toNat ∧ c.toNat ≤ 57) ∨ (45 ≤ c.toNat ∧ c.toNat ≤ 45) := by
  unfold nameC lowB at h
  simp at h
  omega
theorem nameC_no {c : UInt8} (h : nameC c = false) : c.toNat < 45 ∨ (46 ≤ c.toNat ∧ c.toNat ≤ 47) ∨ (58 ≤ c.toNat ∧ c.toNat ≤ 96) ∨ 123 ≤ c.toNat := by
  unfold nameC lowB at h
  simp at h
  omega
theorem all_bad {l : List UInt8} {p : UInt8 → Bool} (h : l.all p = false) : ∃ j, ∃ hj : j < l.length, p l[j] = false ∧ ∀ i, ∀ hi : i < j, p (l[i]'(by omega)) = true := by
  induction l with
  | nil => simp at h
  | cons c l ih =>
    cases hc : p c with
    | true =>
      have h2 : l.all p = false := by simpa [hc] using h
      obtain ⟨j, hj, h3, h4⟩ := ih h2
      refine ⟨j + 1, by simpa using hj, by simpa using h3, fun i hi => ?_⟩
      cases i with
      | zero => simpa using hc
      | succ i => simpa using h4 i (by omega)
    | false => exact ⟨0, by simp, by simpa using hc, fun i hi => by omega⟩

set_option maxHeartbeats 4000000 in
set_option maxRecDepth 100000 in
theorem risname_c (s : ByteArray) (w : World) (hs : s.size ≤ 9223372036854775807) :
    Calls Tryz.prog 123 #[.string s] w (RetB (nameB s.data.toList) w) := by
  have hlen : s.data.toList.length = s.size := by simp
  by_cases h1 : 1 ≤ s.size ∧ s.size ≤ 40
  · obtain ⟨h1, h2⟩ := h1
    have hh := head_at (s := s) (by omega)
    have en : nameB s.data.toList = (lowB s[0] && s.data.toList.all nameC) := by
      unfold nameB; rw [hlen, hh, decide_eq_true ⟨h1, h2⟩, Bool.true_and]
    have hemp : s.toList.isEmpty = false := by
      rw [Lib.toList_data]
      cases hd : s.data.toList with
      | nil => rw [hd] at hlen; simp at hlen; omega
      | cons a l => rfl
    by_cases h3 : 97 ≤ s[0].toNat ∧ s[0].toNat ≤ 122
    · have en2 : nameB s.data.toList = s.data.toList.all nameC := by
        rw [en]; unfold lowB; rw [decide_eq_true h3, Bool.true_and]
      rw [en2]
      obtain ⟨h3, h4⟩ := h3
      have h3' : ¬ (s[0].toNat : Int) < 97 := by omega
      have h4' : ¬ (122 : Int) < (s[0].toNat : Int) := by omega
      clear en en2 hh h3 h4
      cases hb : s.data.toList.all nameC with
      | true =>
        have HB := Lib.hid hb
        clear hb hlen
        go_enter Tryz.func123, Tryz.ntmps123
        go_wp2
        go_loop [24] (fun i => ∃ j : Nat, j ≤ s.size ∧ i = .int .i64 j) (fun i => s.size - (intOf i).toNat)
        case atStart => exact ⟨0, Nat.zero_le _, rfl⟩
        case round =>
          obtain ⟨j, hj, rfl⟩ := hrel
          rcases Nat.lt_or_ge j s.size with hjn | hjn
          · have hc := List.all_eq_true.1 HB.out _ (List.getElem_mem (l := s.data.toList) (n := j) (by simpa using hjn))
            rw [data_get s j hjn] at hc
            rcases nameC_yes hc with ⟨k1, k2⟩ | ⟨k1, k2⟩ | ⟨k1, k2⟩
            all_goals
              clear hc h3' h4' hemp
              go_wp2
              go_round
              case rel => exact ⟨j + 1, by omega, by go_num⟩
              case measure => simp [intOf]; omega
          · go_wp2
            go_ret
            exact ⟨rfl, Below.refl _ _⟩
      | false =>
        obtain ⟨m, hm, hbad, hgood⟩ := all_bad hb
        have hm' : m < s.size := by simpa using hm
        have HBAD := Lib.hid hbad; have HGOOD := Lib.hid hgood
        clear hb hlen hbad hgood
        go_enter Tryz.func123, Tryz.ntmps123
        go_wp2
        go_loop [24] (fun i => ∃ j : Nat, j ≤ m ∧ i = .int .i64 j) (fun i => s.size - (intOf i).toNat)
        case atStart => exact ⟨0, Nat.zero_le _, rfl⟩
        case round =>
          obtain ⟨j, hj, rfl⟩ := hrel
          have hjn : j < s.size := by omega
          rcases Nat.lt_or_ge j m with hjm | hjm
          · have hc := HGOOD.out j hjm
            rw [data_get s j hjn] at hc
            rcases nameC_yes hc with ⟨k1, k2⟩ | ⟨k1, k2⟩ | ⟨k1, k2⟩
            all_goals
              clear hc h3' h4' hemp
              go_wp2
              go_round
              case rel => exact ⟨j + 1, by omega, by go_num⟩
              case measure => simp [intOf]; omega
          · obtain rfl : j = m := by omega
            have hc := HBAD.out
            rw [data_get s j hjn] at hc
            have hne : ((s[j].toNat : Int) != 45) = true := by
              have := nameC_no hc
              simp; omega
            rcases nameC_no hc with k1 | ⟨k1, k2⟩ | ⟨k1, k2⟩ | k1
            all_goals
              clear hc h3' h4' hemp
              go_wp2
              go_ret
              exact ⟨rfl, Below.refl _ _⟩
    · have en2 : nameB s.data.toList = false := by rw [en]; unfold lowB; rw [decide_eq_false h3]; rfl
      rw [en2]
      clear en en2 hh hlen
      by_cases h4 : s[0].toNat < 97
      · have h4' : (s[0].toNat : Int) < 97 := by omega
        clear h3
        go_enter Tryz.func123, Tryz.ntmps123
        go_wp2
        go_ret
        exact ⟨rfl, Below.refl _ _⟩
      · have h4' : ¬ (s[0].toNat : Int) < 97 := by omega
        have h5' : (122 : Int) < (s[0].toNat : Int) := by omega
        clear h3 h4
        go_enter Tryz.func123, Tryz.ntmps123
        go_wp2
        go_ret
        exact ⟨rfl, Below.refl _ _⟩
  · have en : nameB s.data.toList = false := by unfold nameB; rw [hlen, decide_eq_false h1]; rfl
    rw [en]
    clear en
    by_cases h2 : s.size < 1
    · have hemp : s.toList.isEmpty = true := by
        rw [Lib.toList_data]
        cases hd : s.data.toList with
        | nil => rfl
        | cons a l => rw [hd] at hlen; simp at hlen; omega
      clear h1 hlen
      go_enter Tryz.func123, Tryz.ntmps123
      go_wp2
      go_ret
      exact ⟨rfl, Below.refl _ _⟩
    · have hemp : s.toList.isEmpty = false := by
        rw [Lib.toList_data]
        cases hd : s.data.toList with
        | nil => rw [hd] at hlen; simp at hlen; omega
        | cons a l => rfl
      have h3 : 40 < s.size := by omega
      clear h1 hlen
      go_enter Tryz.func123, Tryz.ntmps123
      go_wp2
      go_ret
      exact ⟨rfl, Below.refl _ _⟩
theorem risname2_c (s : ByteArray) (w : World) (hs : s.size ≤ 9223372036854775807) :
    Calls Tryz.prog 103 #[.string s] w (RetB (nameB s.data.toList) w) := by
  have HN := Lib.hid (risname_c s w hs)
  generalize nameB s.data.toList = b at HN
  go_enter Tryz.func103, Tryz.ntmps103
  go_wp2_with fail
  refine HN.out.mono ?_
  rintro e w2 ⟨rfl, hb2⟩
  go_wp2
  go_ret
  exact ⟨rfl, hb2⟩
end Go.Proofs.YtfgnollclmimnaaGreatDoor
