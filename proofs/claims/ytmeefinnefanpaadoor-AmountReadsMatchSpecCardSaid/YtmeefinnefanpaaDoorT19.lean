
/- The walk of the reference's regrouped. -/
import Derived.Test.YtmeefinnefanpaaDoorT17
import Derived.Test.YtmeefinnefanpaaDoorT18
import Derived.Deep.QuietTactic
import Derived.BigQuiet
namespace Go.Proofs.YtmeefinnefanpaaDoor
open Go.RowKit Limb Work Nmb
set_option linter.unusedVariables false
set_option linter.unusedSimpArgs false
set_option linter.unnecessarySimpa false

theorem tflipC {P : Program} {f : FuncId} {args : Array Value} {w : World} {v : Value} (h : Calls P f args w fun e w' => w = w' ∧ e = .returned v) : Calls P f args w fun e w' => e = .returned v ∧ w' = w := h.mono fun _ _ h => ⟨h.2, h.1.symm⟩
/-- What stands from the j-th piece on. -/
def remB (P : List (List UInt8)) (j : Nat) : Bool := if j = 0 then regB P else (P.drop j).all fun q => digB q && decide (q.length = 3)
theorem remB_zero {P : List (List UInt8)} (h : 0 < P.length) : remB P 0 = (digB P[0] && decide (P[0].length ≤ 3) && remB P 1) := by
  rcases P with _ | ⟨p, r⟩
  · simp at h
  · rfl
theorem remB_succ {P : List (List UInt8)} {j : Nat} (h : j < P.length) (h0 : 0 < j) : remB P j = (digB P[j] && decide (P[j].length = 3) && remB P (j + 1)) := by
  unfold remB
  rw [if_neg (by omega), if_neg (by omega), List.drop_eq_getElem_cons h, List.all_cons]
theorem remB_end {P : List (List UInt8)} (h : 0 < P.length) : remB P P.length = true := by
  unfold remB
  rw [if_neg (by omega), List.drop_length]; rfl

set_option maxHeartbeats 4000000 in
set_option maxRecDepth 100000 in
theorem rregrp_c (s : ByteArray) (g : UInt8) (m : Int) (w : World) (hs : s.size ≤ 100) (hg : g.toNat < 128) (hm : w.cell? ⟨0, 0, none⟩ = some (.int .i64 m)) :
    Calls Tryd.prog 26 #[.string s, .int .u8 (g.toNat : Int)] w fun e w' => e = .returned (.bool (regB (pcs g (noSign s.data.toList)))) ∧ Below w.heap.size w w' := by
  have hu := run_r8 (g := g)
  have hue := run_e8 hg
  have htp : Lib.trimPrefix s.data.toList [45] = noSign s.data.toList := by
    unfold Lib.trimPrefix noSign
    rcases s.data.toList with _ | ⟨c, l⟩
    · rfl
    · by_cases h : c = 45
      · subst h; simp [Lib.hasPrefix]
      · simp [Lib.hasPrefix, h, Ne.symm h]
  obtain ⟨t, ht⟩ : ∃ t : ByteArray, t = ⟨(noSign s.data.toList).toArray⟩ := ⟨_, rfl⟩
  have htl : t.data.toList = noSign s.data.toList := by rw [ht]
  have hts : t.size ≤ 100 := by
    have h1 : t.data.toList.length = t.size := by simp
    have h2 : s.data.toList.length = s.size := by simp
    rw [← h1, htl]
    unfold noSign
    split
    · rw [List.length_tail]; omega
    · omega
  have hsp := split_pcs t ⟨#[g]⟩ g rfl
  rw [htl] at hsp
  obtain ⟨L, hL⟩ : ∃ L, Lib.splitB ⟨#[g]⟩ 0 (Lib.countB t ⟨#[g]⟩) t = L := ⟨_, rfl⟩
  obtain ⟨P, hP⟩ : ∃ P, pcs g (noSign s.data.toList) = P := ⟨_, rfl⟩
  rw [hL, hP] at hsp
  have hcnt : Lib.countB t ⟨#[g]⟩ + 1 = L.length := by rw [← hL, Lib.splitB_all ⟨#[g]⟩ (Nat.le_refl 1) 0 _ _ rfl]
  have hpl : P.length = L.length := by rw [← hsp, List.length_map]
  have hne : 0 < P.length := by rw [hpl]; omega
  have hLl : L.length ≤ 1000 := by
    have := Lib.countB_le ⟨#[g]⟩ (Nat.le_refl 1) t.size t (Nat.le_refl _)
    omega
  have hel : ∀ j (h : j < L.length) (hp : j < P.length), L[j].data.toList = P[j] ∧ L[j].size ≤ 100 := by
    intro j h hp
    have e1 : L[j].data.toList = P[j]'(by omega) := by
      have : P[j]'(by omega) = (L.map (fun x => x.data.toList))[j]'(by simpa using h) := by simp only [hsp]
      rw [this, List.getElem_map]
    refine ⟨e1, ?_⟩
    have h1 : L[j].data.toList.length = L[j].size := by simp
    have h2 : (P[j]'(by omega)).length ≤ (noSign s.data.toList).length := by
      have := pcs_sum g (noSign s.data.toList) (P[j]'(by omega)) (by rw [hP]; exact List.getElem_mem _)
      exact this
    have h3 : (noSign s.data.toList).length = t.size := by rw [← htl]; simp
    rw [← h1, e1]; omega
  have HTP := Lib.hid (fun w => Tryd.strings_TrimPrefix s ⟨#[45]⟩ w)
  have HSP := Lib.hid (fun w (hm : w.cell? ⟨0, 0, none⟩ = some (.int .i64 m)) => Tryd.strings_Split t ⟨#[g]⟩ m w (by omega) hm (Nat.le_refl 1))
  rw [hL, hcnt] at HSP
  obtain ⟨B, hB⟩ : ∃ B, regB P = B := ⟨_, rfl⟩
  rw [hP, hB]
  have HB := Lib.hid hB
  have HHM := Lib.hid hm; have HEL := Lib.hid hel; have HPL := Lib.hid hpl; have HNE := Lib.hid hne; have HT := Lib.hid (ht.trans (by rw [← htp]))
  clear hm hel hpl hne ht hsp hL hP hcnt htl htp hB
  obtain ⟨N, hN⟩ : ∃ N, L.length = N := ⟨_, rfl⟩
  rw [hN] at HSP hLl
  have HN := Lib.hid hN
  clear hN
  go_enter Tryd.func26, Tryd.ntmps26
  go_wp2_with fail
  refine (HTP.out _).mono ?_
  rintro e w1 ⟨rfl, rfl⟩
  rw [show (⟨(Lib.trimPrefix s.data.toList (ByteArray.mk #[45]).data.toList).toArray⟩ : ByteArray) = t from HT.out.symm]
  go_wp2_with fail
  refine (HSP.out _ HHM.out).mono ?_
  rintro e w2 ⟨rfl, rfl⟩
  have hX := heap_new w1 (.cells (L.map Value.string).toArray 9) rfl
  have hb0 : Below w1.heap.size w1 (w1.alloc (.cells (L.map Value.string).toArray 9)) := by go_grown
  have HX := Lib.hid (show ∀ j (h : j < L.length), (w1.alloc (.cells (L.map Value.string).toArray 9)).cell? ⟨w1.heap.size, j, none⟩ = some (.string L[j]) from fun j h => by
    rw [cell_of_row _ _ _ _ _ _ hX]
    simp [h])
  clear hX
  have hgt : w1.heap.size < (w1.alloc (.cells (L.map Value.string).toArray 9)).heap.size := by simp
  generalize w1.alloc (.cells (L.map Value.string).toArray 9) = w2 at hb0 HX hgt ⊢
  go_wp2
  go_loopw [16] (fun i wr => ∃ j : Nat, j ≤ N ∧ i = .int .i64 j ∧ Hid (remB P j = B) ∧ ∃ q, wr = w2.drewN q) (fun i _ => N - (intOf i).toNat)
  case atStart => exact ⟨0, Nat.zero_le _, rfl, Lib.hid HB.out, 0, rfl⟩
  case round =>
    obtain ⟨j, hj, rfl, HR, q, rfl⟩ := hrel
    rcases Nat.lt_or_ge j N with hlt | hge
    · have hlt' : j < L.length := by rw [HN.out]; exact hlt
      have hltP : j < P.length := by rw [HPL.out]; exact hlt'
      have hc := HX.out j hlt'
      obtain ⟨h1, h2⟩ := HEL.out j hlt' hltP
      obtain ⟨x, hx⟩ : ∃ x, L[j] = x := ⟨_, rfl⟩
      rw [hx] at hc h1 h2
      have hxl : x.data.toList.length = x.size := by simp
      have hc' : (w2.drewN q).cell? ⟨w1.heap.size, j, none⟩ = some (.string x) := by exact hc
      have HD := Lib.hid (fun w => tisdig_c x w (by omega))
      have hr := HR.out
      rcases Nat.eq_zero_or_pos j with h0 | h0
      · subst h0
        rw [remB_zero hltP, ← h1, hxl] at hr
        cases hd : digB x.data.toList with
        | false =>
          rw [hd] at HD hr
          have HBB := Lib.hid (show B = false from hr.symm)
          clear hd h1 hxl hx hr hc
          go_wp2_with fail
          refine (HD.out _).mono ?_
          rintro e w3 ⟨rfl, rfl⟩
          go_wp2
          go_ret
          exact ⟨congrArg (fun b => Ending.returned (Value.bool b)) HBB.out.symm, below_drewN hb0 _⟩
        | true =>
          rw [hd] at HD hr
          by_cases h3 : x.size ≤ 3
          · rw [decide_eq_true h3] at hr
            have h3' : ¬ (3 : Int) < (x.size : Int) := by omega
            have HR2 := Lib.hid (show remB P 1 = B by simpa using hr)
            clear hd h1 hxl hx hr hc h3
            go_wp2_with fail
            refine (HD.out _).mono ?_
            rintro e w3 ⟨rfl, rfl⟩
            go_wp2
            go_roundw
            case rel => exact ⟨1, by omega, by go_num, HR2, _, rfl⟩
            case measure => simp [intOf]; omega
          · rw [decide_eq_false h3] at hr
            have h3' : (3 : Int) < (x.size : Int) := by omega
            have HBB := Lib.hid (show B = false from hr.symm)
            clear hd h1 hxl hx hr hc h3
            go_wp2_with fail
            refine (HD.out _).mono ?_
            rintro e w3 ⟨rfl, rfl⟩
            go_wp2
            go_ret
            exact ⟨congrArg (fun b => Ending.returned (Value.bool b)) HBB.out.symm, below_drewN hb0 _⟩
      · rw [remB_succ hltP h0, ← h1, hxl] at hr
        have k0 : (0 : Int) < (j : Int) := by omega
        have k1 : ((j : Int) == 0) = false := beq_eq_false_iff_ne.2 (by omega)
        cases hd : digB x.data.toList with
        | false =>
          rw [hd] at HD hr
          have HBB := Lib.hid (show B = false from hr.symm)
          clear hd h1 hxl hx hr hc h0
          go_wp2_with fail
          refine (HD.out _).mono ?_
          rintro e w3 ⟨rfl, rfl⟩
          go_wp2
          go_ret
          exact ⟨congrArg (fun b => Ending.returned (Value.bool b)) HBB.out.symm, below_drewN hb0 _⟩
        | true =>
          rw [hd] at HD hr
          by_cases h3 : x.size = 3
          · rw [decide_eq_true h3] at hr
            have h3' : ((x.size : Int) != 3) = false := by rw [h3]; rfl
            have HR2 := Lib.hid (show remB P (j + 1) = B by simpa using hr)
            clear hd h1 hxl hx hr hc h3 h0
            go_wp2_with fail
            refine (HD.out _).mono ?_
            rintro e w3 ⟨rfl, rfl⟩
            go_wp2
            go_roundw
            case rel => exact ⟨j + 1, by omega, by go_num, HR2, _, rfl⟩
            case measure => simp [intOf]; omega
          · rw [decide_eq_false h3] at hr
            have h3' : ((x.size : Int) != 3) = true := by simp; omega
            have HBB := Lib.hid (show B = false from hr.symm)
            clear hd h1 hxl hx hr hc h3 h0
            go_wp2_with fail
            refine (HD.out _).mono ?_
            rintro e w3 ⟨rfl, rfl⟩
            go_wp2
            go_ret
            exact ⟨congrArg (fun b => Ending.returned (Value.bool b)) HBB.out.symm, below_drewN hb0 _⟩
    · obtain rfl : j = N := by omega
      have HBB := Lib.hid (show B = true by rw [← HR.out, ← HN.out, ← HPL.out]; exact remB_end HNE.out)
      go_wp2
      go_ret
      exact ⟨congrArg (fun b => Ending.returned (Value.bool b)) HBB.out.symm, below_drewN hb0 _⟩
end Go.Proofs.YtmeefinnefanpaaDoor
