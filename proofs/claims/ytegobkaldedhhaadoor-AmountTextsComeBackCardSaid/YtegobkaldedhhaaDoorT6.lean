
/- The walk of amount.Grouped. -/
import Derived.Test.YtegobkaldedhhaaDoorT5
namespace Go.Proofs.YtegobkaldedhhaaDoor
open Go.RowKit Limb
set_option linter.unusedVariables false
set_option linter.unusedSimpArgs false

theorem grpF_len (g : UInt8) : ∀ (k : Nat) (l : List UInt8), (grpF g k l).length ≤ 2 * l.length
  | 0, l => by simp [grpF]; omega
  | k + 1, l => by
    unfold grpF
    split
    · have := grpF_len g k (l.take (l.length - 3))
      simp at this ⊢
      omega
    · omega
theorem grp_len (g : UInt8) (l : List UInt8) : (grp g l).length ≤ 2 * l.length := grpF_len g _ l
def grpdL (u : Int) (p : Nat) (pt gr : UInt8) : List UInt8 := sgL u ++ grp gr (befL u p) ++ (if p = 0 then [] else pt :: behL u p)
def grpdF (u p : Int) (pt gr : UInt8) : Int := if decB u p = true then marksF (pt.toNat : Int) (gr.toNat : Int) else 1
def grpdR (u p : Int) (pt gr : UInt8) : List UInt8 := if grpdF u p pt gr = 0 then grpdL u p.toNat pt gr else []
theorem marks_ok {pt gr : UInt8} (h : marksF (pt.toNat : Int) (gr.toNat : Int) = 0) : pt.toNat < 128 ∧ gr.toNat < 128 ∧ pt ≠ gr := by
  unfold marksF at h
  split at h
  · cases h
  · next hn =>
    have h1 : wrongB (pt.toNat : Int) ≠ true := fun e => hn (.inr (.inl e))
    have h2 : wrongB (gr.toNat : Int) ≠ true := fun e => hn (.inr (.inr e))
    have h3 : (pt.toNat : Int) ≠ (gr.toNat : Int) := fun e => hn (.inl e)
    unfold wrongB at h1 h2
    simp at h1 h2
    refine ⟨by omega, by omega, fun e => h3 (by rw [e])⟩
theorem marks_two {p g : Int} : marksF p g = 0 ∨ marksF p g = 12 := by unfold marksF; split <;> simp

set_option maxHeartbeats 4000000 in
set_option maxRecDepth 100000 in
theorem wgrouped_c (u p : Int) (pt gr : UInt8) (w : World) :
    Calls Tryd.prog 22 #[.agg #[.int .i64 u, .int .i64 p], .int .u8 (pt.toNat : Int), .int .u8 (gr.toNat : Int)] w (RetST (grpdR u p pt gr) (grpdF u p pt gr) w) := by
  cases hd : decB u p with
  | false =>
    have HC := Lib.hid (fun w => chk_bad u p w hd)
    have hf : grpdF u p pt gr = 1 := if_neg (by rw [hd]; simp)
    rw [show grpdR u p pt gr = [] from if_neg (by rw [hf]; decide), hf]
    clear hd hf
    go_enter Tryd.func22, Tryd.ntmps22
    go_wp2_with fail
    refine (HC.out _).mono ?_
    rintro e w1 ⟨rfl, hb⟩
    go_wp2
    go_ret2
    refine ⟨_, rfl, rfl, ?_⟩
    go_grown
    exact below_then hb (by go_grown) (by simp only [World.size_alloc]; omega)
  | true =>
    have hdb := decB_out hd
    have HC := Lib.hid (fun w => chk_ok u p w hd)
    have hpt := pt.toNat_lt
    have hgt := gr.toNat_lt
    have HMK := Lib.hid (fun w => marks_c (pt.toNat : Int) (gr.toNat : Int) w (by omega) (by omega))
    have hf : grpdF u p pt gr = marksF (pt.toNat : Int) (gr.toNat : Int) := if_pos hd
    rcases marks_two (p := (pt.toNat : Int)) (g := (gr.toNat : Int)) with hm | hm
    case inr =>
      rw [hm] at HMK hf
      rw [show grpdR u p pt gr = [] from if_neg (by rw [hf]; decide), hf]
      clear hd hf hm
      go_enter Tryd.func22, Tryd.ntmps22
      go_wp2_with fail
      refine (HC.out _).mono ?_
      rintro e w1 ⟨rfl, hb⟩
      have hB := below_then hb (by go_grown : Below w.heap.size w _) (by simp only [World.size_alloc]; omega)
      clear hb
      go_wp2_with fail
      refine (HMK.out _).mono ?_
      rintro e w2 ⟨rfl, rfl⟩
      go_wp2
      go_ret2
      exact ⟨_, rfl, rfl, hB⟩
    obtain ⟨hp128, hg128, -⟩ := marks_ok hm
    rw [hm] at HMK hf
    rw [show grpdR u p pt gr = grpdL u p.toNat pt gr from if_pos hf, hf]
    obtain ⟨q, rfl⟩ : ∃ q : Nat, p = (q : Int) := ⟨p.toNat, by omega⟩
    rw [Int.toNat_natCast]
    clear hd hf hm
    have hurp := run_byte hp128
    have HUR := Lib.hid hurp
    clear hurp
    go_enter Tryd.func22, Tryd.ntmps22
    go_wp2_with fail
    refine (HC.out _).mono ?_
    rintro e w1 ⟨rfl, hb⟩
    have hX := heap_below (heap_new w (.cells #[.int .i64 u, .int .i64 (q : Int)] 40) rfl) hb
    have hB := below_then hb (by go_grown : Below w.heap.size w _) (by simp only [World.size_alloc]; omega)
    clear hb
    obtain ⟨a0, a1, -, -, a4⟩ := box2 hX
    have hz := hB.size
    obtain ⟨D, hD⟩ : ∃ D : ByteArray, (⟨(Lib.decDigits u.natAbs).toArray⟩ : ByteArray) = D := ⟨_, rfl⟩
    have hDl : D.data.toList = digL u := by rw [← hD]; rfl
    have hm200 := nat_pow200 (u := u) (by omega)
    have hDs : D.size ≤ 1000 := by
      have h1 := digL_len hm200.2
      rw [← hDl] at h1
      have : D.data.toList.length = D.size := by simp
      omega
    have HD := Lib.hid hD; have HDL := Lib.hid hDl; have H200 := Lib.hid hm200.1; have HQ := Lib.hid (show q ≤ 9 by omega); have HU := Lib.hid hdb
    clear hD hDl hm200 hdb
    go_wp2_with fail
    refine (HMK.out _).mono ?_
    rintro e w2 ⟨rfl, rfl⟩
    go_wp2_with fail
    go_region_held3 (fun w' => w'.cell? ⟨w.heap.size, 0, none⟩ = some (.int .i64 u) ∧ w'.cell? ⟨w.heap.size, 1, none⟩ = some (.int .i64 (q : Int)))
      (first | (with_reducible exact ⟨r20, r21⟩) | (with_reducible exact ⟨r30, r31⟩) | (with_reducible exact ⟨r40, r41⟩) | (with_reducible exact ⟨r50, r51⟩) | (exact ⟨a0, a1⟩) | (go_keep; done))
      (first
        | (go_at_call 63; refine (of_c u _ (by have := HU.out; omega) (by have := HU.out; omega)).mono ?_; rintro e w2 ⟨s2, A2, n2, c2, rfl, hv2, hb2⟩; (have hX2 := heap_below (w := w1.drew) hX hb2); (have hB2 := below_then hb2 hB.drew hz); obtain ⟨r20, r21, -, -, -⟩ := box2 hX2)
        | (go_at_call 64; refine (abs_c _ hv2).mono ?_; rintro e w3 ⟨s3, A3, n3, c3, rfl, hv3, hb3⟩; (have hX3 := heap_below hX2 hb3); (have hB3 := below_then hb3 hB2 hB2.size); obtain ⟨r30, r31, -, -, -⟩ := box2 hX3; (have hs3 := big_pos hv3 (by decide)); subst hs3)
        | (go_at_call 65; refine (text_c _ hv3 H200.out).mono ?_; rintro e w4 ⟨rfl, hb4⟩; rw [HD.out]; (have hX4 := heap_below hX3 hb4); (have hB4 := below_then hb4 hB3 hB3.size); obtain ⟨r40, r41, -, -, -⟩ := box2 hX4)
        | (go_at_call 62; refine (pointed_c D q _ HQ.out hDs).mono ?_; rintro e w5 ⟨hb5, ba, bb, rfl, hba, hbb⟩; (have hX5 := heap_below hX4 hb5); (have hB5 := below_then hb5 hB4 hB4.size); obtain ⟨r50, r51, -, -, -⟩ := box2 hX5))
    clear hX hX2 hX3 hX4 hb2 hb3 hb4 hb5 hB hB2 hB3 hB4 r20 r21 r30 r31 r40 r41 hv2 hv3 a0 a1
    rw [HDL.out] at hba hbb
    have hle := bef_len (u := u) HQ.out (nat_pow200 (u := u) (by have := HU.out; omega)).2
    have hbas : ba.size ≤ 40 := by have h1 : ba.data.toList.length = ba.size := by simp
                                   rw [← h1, hba]; exact hle.1
    have hbbs : bb.size ≤ 40 := by have h1 : bb.data.toList.length = bb.size := by simp
                                   rw [← h1, hbb]; exact hle.2
    have HBA := Lib.hid hba; have HBB := Lib.hid hbb
    clear hba hbb hle
    have HGC := Lib.hid (fun w => grouped_c ba gr w hg128 (by omega))
    have hSs := signS_size u
    have HSD := Lib.hid (signS_data u)
    have HSG := Lib.hid (fun w => sgn_c u (q : Int) w)
    obtain ⟨S, hS⟩ : ∃ S, signS u = S := ⟨_, rfl⟩
    rw [hS] at hSs HSD HSG
    clear hS
    have hz5 := hB5.size
    go_wp2_with fail
    refine (HSG.out _).mono ?_
    rintro e w6 ⟨rfl, hb6⟩
    have hX6 := heap_below hX5 hb6
    have hB6 := below_then hb6 hB5 hz5
    have hz6 := hB6.size
    clear hX5 hB5 hb6 r50 r51
    go_wp2_with fail
    refine (HGC.out _).mono ?_
    rintro e w7 ⟨T, rfl, hT, hb7⟩
    have hX7 := heap_below hX6 hb7
    have hB7 := below_then hb7 hB6 hz6
    have hTs : T.size ≤ 80 := by
      have h1 : T.data.toList.length = T.size := by simp
      have h2 : ba.data.toList.length = ba.size := by simp
      have h3 := grp_len gr ba.data.toList
      rw [← h1, hT]
      omega
    have HT := Lib.hid hT
    clear hX6 hB6 hb7 hT
    obtain ⟨x0, x1, -, -, -⟩ := box2 hX7
    have hcat : ¬ 9223372036854775807 < S.size + T.size := by omega
    rcases Nat.eq_zero_or_pos q with h0 | h0
    · subst h0
      go_wp2
      go_ret2
      refine ⟨_, rfl, ?_, hB7⟩
      rw [ByteArray.data_append, Array.toList_append, HSD.out, HT.out, HBA.out]
      unfold grpdL befL
      simp
    · have hcat2 : ¬ 9223372036854775807 < 1 + bb.size := by omega
      have hcat3 : ¬ 9223372036854775807 < S.size + T.size + (1 + bb.size) := by omega
      have hq0 : (0 : Int) < (q : Int) := by omega
      have hur := HUR.out
      go_wp2
      go_ret2
      refine ⟨_, rfl, ?_, hB7⟩
      simp only [ByteArray.data_append, Array.toList_append, HSD.out, HT.out, HBA.out, HBB.out]
      unfold grpdL befL behL
      rw [if_neg (by omega)]
      simp
end Go.Proofs.YtegobkaldedhhaaDoor
