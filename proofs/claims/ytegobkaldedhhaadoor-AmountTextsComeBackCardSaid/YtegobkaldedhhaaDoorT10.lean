
/- The walk of the reference's Grouped. -/
import Derived.Test.YtegobkaldedhhaaDoorT8
import Derived.Test.YtegobkaldedhhaaDoorT9
import Derived.Test.YtegobkaldedhhaaDoorA5
namespace Go.Proofs.YtegobkaldedhhaaDoor
open Go.RowKit Limb
set_option linter.unusedVariables false
set_option linter.unusedSimpArgs false

/-! ### Plain -/
theorem cutL_hit {c : UInt8} : ∀ {l r : List UInt8}, c ∉ l → cutL (l ++ c :: r) c = (l, r, true)
  | [], r, _ => by simp [cutL]
  | a :: l, r, h => by
    have h1 : a ≠ c := fun e => h (e ▸ List.mem_cons_self)
    have h2 : c ∉ l := fun e => h (List.mem_cons_of_mem _ e)
    rw [List.cons_append, cutL, cutL_hit h2]
    simp [h1]
theorem cutL_miss {c : UInt8} : ∀ {l : List UInt8}, c ∉ l → cutL l c = (l, [], false)
  | [], _ => by simp [cutL]
  | a :: l, h => by
    have h1 : a ≠ c := fun e => h (e ▸ List.mem_cons_self)
    have h2 : c ∉ l := fun e => h (List.mem_cons_of_mem _ e)
    rw [cutL, cutL_miss h2]
    simp [h1]
theorem padL_48 {u : Int} {q : Nat} : ∀ c ∈ padL (digL u) q, 48 ≤ c.toNat ∧ c.toNat ≤ 57 := by
  intro c hc
  unfold padL at hc
  rcases List.mem_append.1 hc with h | h
  · have := List.eq_of_mem_replicate h
    subst this
    decide
  · exact dec_48 _ c h
theorem bef_48 {u : Int} {q : Nat} : ∀ c ∈ befL u q, 48 ≤ c.toNat ∧ c.toNat ≤ 57 := fun c hc => padL_48 c (List.mem_of_mem_take hc)
theorem beh_48 {u : Int} {q : Nat} : ∀ c ∈ behL u q, 48 ≤ c.toNat ∧ c.toNat ≤ 57 := fun c hc => padL_48 c (List.mem_of_mem_drop hc)
theorem bef_pos {u : Int} {q : Nat} : 0 < (befL u q).length := by
  have h1 := padL_len (digL u) q
  unfold befL
  rw [List.length_take]
  omega
theorem bef_no46 {u : Int} {q : Nat} : (46 : UInt8) ∉ befL u q := fun h => by have := bef_48 _ h; revert this; decide
/-- The text without its sign, cut at the point. -/
theorem text_cut {u : Int} {q : Nat} : cutL (befL u q ++ (if q = 0 then [] else 46 :: behL u q)) 46 = (befL u q, (if q = 0 then [] else behL u q), decide (q ≠ 0)) := by
  by_cases h : q = 0
  · rw [if_pos h, if_pos h, List.append_nil, cutL_miss bef_no46]; simp [h]
  · rw [if_neg h, if_neg h, cutL_hit bef_no46]; simp [h]
theorem run_r8 {g : UInt8} (w : World) : (convert 5 21 (.int .u8 ((g.toNat : Nat) : Int))).run Tryd.prog w = .ok (.int .i32 ((g.toNat : Nat) : Int)) w := by
  have := g.toNat_lt
  go_simp
  exact IntWalk.i32_in _ (by omega)
theorem run_e8 {g : UInt8} (h : g.toNat < 128) (w : World) : (convert 21 9 (.int .i32 ((g.toNat : Nat) : Int))).run Tryd.prog w = .ok (.string (⟨#[g]⟩ : ByteArray)) w := by
  rw [run_convert_int_string _ _ _ _ _ (by kernel_rfl) (by kernel_rfl), enc_ascii h]
theorem text_head {u : Int} {q : Nat} : ((textL u q).head? == some 45) = decide (u < 0) ∧ (if decide (u < 0) = true then (textL u q).tail else textL u q) = befL u q ++ (if q = 0 then [] else 46 :: behL u q) := by
  unfold textL sgL
  by_cases h : u < 0
  · simp [h]
  · have hp := bef_pos (u := u) (q := q)
    rcases hb : befL u q with _ | ⟨c, l⟩
    · rw [hb] at hp; simp at hp
    · have h2 := bef_48 (u := u) (q := q) c (by rw [hb]; simp)
      have hc : c ≠ 45 := by rintro rfl; revert h2; decide
      simp [h, hc]
theorem text_len {u : Int} {q : Nat} (hq : q ≤ 9) (hu : u.natAbs < 10 ^ 30) : (textL u q).length ≤ 100 := by
  have h := bef_len (u := u) hq hu
  unfold textL
  simp only [List.length_append]
  have h1 : (sgL u).length ≤ 1 := by unfold sgL; split <;> simp
  split
  · simp; omega
  · simp; omega

set_option maxHeartbeats 2000000 in
set_option maxRecDepth 100000 in
theorem rgrouped_c (u p : Int) (pt gr : UInt8) (w : World) (ht : Tab w) :
    Calls Tryd.prog 32 #[.agg #[.int .i64 u, .int .i64 p], .int .u8 (pt.toNat : Int), .int .u8 (gr.toNat : Int)] w (RetST (grpdR u p pt gr) (grpdF u p pt gr) w) := by
  have HTX := Lib.hid (fun (w : World) (ht : Tab w) => rtext_c u p w ht)
  cases hd : decB u p with
  | false =>
    have hf : grpdF u p pt gr = 1 := if_neg (by rw [hd]; simp)
    rw [show grpdR u p pt gr = [] from if_neg (by rw [hf]; decide), hf]
    rw [show textR u p = [] from if_neg (by rw [hd]; decide), show decF u p = 1 from if_neg (by rw [hd]; decide)] at HTX
    have HT := Lib.hid ht
    clear hd hf ht
    go_enter Tryd.func32, Tryd.ntmps32
    go_wp2_with fail
    refine (HTX.out _ (HT.out.below (by go_grown))).mono ?_
    rintro e w1 ⟨s, rfl, hs, hb0⟩
    have hb := below_then hb0 (by go_grown : Below w.heap.size w _) (by simp only [World.size_alloc]; omega)
    clear hb0 hs
    go_wp2
    go_ret2
    exact ⟨_, rfl, rfl, hb⟩
  | true =>
    have hdb := decB_out hd
    obtain ⟨q, rfl⟩ : ∃ q : Nat, p = (q : Int) := ⟨p.toNat, by omega⟩
    rw [show textR u (q : Int) = textL u q from if_pos hd, show decF u (q : Int) = 0 from if_pos hd] at HTX
    have hpt := pt.toNat_lt
    have hgt := gr.toNat_lt
    have HMK := Lib.hid (fun w => rmarks_c (pt.toNat : Int) (gr.toNat : Int) w (by omega) (by omega))
    have hf : grpdF u (q : Int) pt gr = marksF (pt.toNat : Int) (gr.toNat : Int) := if_pos hd
    have HT := Lib.hid ht
    clear ht
    rcases marks_two (p := (pt.toNat : Int)) (g := (gr.toNat : Int)) with hm | hm
    case inr =>
      rw [decide_eq_false (show ¬ marksF (pt.toNat : Int) (gr.toNat : Int) = 0 by rw [hm]; decide)] at HMK
      rw [hm] at hf
      rw [show grpdR u (q : Int) pt gr = [] from if_neg (by rw [hf]; decide), hf]
      clear hd hf hm hdb
      go_enter Tryd.func32, Tryd.ntmps32
      go_wp2_with fail
      refine (HTX.out _ (HT.out.below (by go_grown))).mono ?_
      rintro e w1 ⟨s, rfl, hs, hb0⟩
      have hb := below_then hb0 (by go_grown : Below w.heap.size w _) (by simp only [World.size_alloc]; omega)
      clear hb0
      have HS := Lib.hid hs
      clear hs
      go_wp2_with fail
      refine (HMK.out _).mono ?_
      rintro e w2 ⟨rfl, hb2⟩
      have hB2 := below_then hb2 hb hb.size
      go_wp2
      go_ret2
      exact ⟨_, rfl, rfl, hB2⟩
    obtain ⟨hp128, hg128, -⟩ := marks_ok hm
    rw [decide_eq_true hm] at HMK
    rw [hm] at hf
    rw [show grpdR u (q : Int) pt gr = grpdL u q pt gr from if_pos hf, hf]
    clear hf hm hd
    have hm200 := nat_pow200 (u := u) (by omega)
    have hq9 : q ≤ 9 := by omega
    have HLEN := Lib.hid (text_len (u := u) hq9 hm200.2)
    have HBL := Lib.hid (bef_len (u := u) hq9 hm200.2)
    clear hm200 hdb
    go_enter Tryd.func32, Tryd.ntmps32
    go_wp2_with fail
    refine (HTX.out _ (HT.out.below (by go_grown))).mono ?_
    rintro e w1 ⟨s, rfl, hs, hb0⟩
    have hb := below_then hb0 (by go_grown : Below w.heap.size w _) (by simp only [World.size_alloc]; omega)
    clear hb0
    have hss : s.size ≤ 100 := by have h1 : s.data.toList.length = s.size := by simp
                                  rw [← h1, hs]; exact HLEN.out
    have HCP := Lib.hid (fun w => cutp_c s 45 w (by omega))
    have hth := text_head (u := u) (q := q)
    rw [← hs] at hth
    obtain ⟨bn, hbn⟩ : ∃ bn, decide (u < 0) = bn := ⟨_, rfl⟩
    rw [hbn] at hth
    have HTH := Lib.hid hth; have HBN := Lib.hid hbn
    clear hs hth hbn
    go_wp2_with fail
    refine (HMK.out _).mono ?_
    rintro e w2 ⟨rfl, hb2⟩
    have hB2 := below_then hb2 hb hb.size
    have hz2 := hB2.size
    clear hb hb2
    go_wp2_with fail
    refine (HCP.out _).mono ?_
    rintro e w3 ⟨rfl, t, rfl, ht⟩
    unfold hasB at ht ⊢
    rw [HTH.out.1, HTH.out.2] at ht
    rw [HTH.out.1]
    have hts : t.size ≤ 100 := by
      have h1 : t.data.toList.length = t.size := by simp
      have h2 := HBL.out
      rw [← h1, ht, List.length_append]
      split
      · simp; omega
      · simp; omega
    have HC := Lib.hid (fun w => cut_c t 46 w (by omega))
    have hct : cutL t.data.toList 46 = (befL u q, (if q = 0 then [] else behL u q), decide (q ≠ 0)) := by rw [ht]; exact text_cut
    obtain ⟨bi, hbi⟩ : ∃ bi, decide (q ≠ 0) = bi := ⟨_, rfl⟩
    rw [hbi] at hct
    have HCT := Lib.hid hct; have HBI := Lib.hid hbi
    clear ht hct hbi
    go_wp2_with fail
    refine (HC.out _).mono ?_
    rintro e w4 ⟨⟨n4, rfl⟩, a, b, rfl, ha, hb⟩
    rw [HCT.out] at ha hb
    rw [HCT.out]
    have hB4 := below_drewN hB2 n4
    generalize w2.drewN n4 = w4 at hB4 ⊢
    have HA := Lib.hid ha; have HB := Lib.hid hb
    have hbl := HBL.out
    have has : a.size ≤ 40 := by have h1 : a.data.toList.length = a.size := by simp
                                 rw [← h1, ha]; exact hbl.1
    have hbs : b.size ≤ 40 := by
      have h1 : b.data.toList.length = b.size := by simp
      rw [← h1, hb]
      split
      · simp
      · exact hbl.2
    have hu8 := run_r8 (g := gr)
    have hue := run_e8 hg128
    have HP8 := Lib.hid (run_r8 (g := pt)); have HPE := Lib.hid (run_e8 hp128)
    have HGA := Lib.hid (show grp gr a.data.toList = grp gr (befL u q) by rw [ha])
    clear ha hb hbl
    go_wp2_with fail
    go_loopw [11, 14] (fun d o wr => ∃ t x : ByteArray, d = .string t ∧ o = .string x ∧ grp gr t.data.toList ++ x.data.toList = grp gr a.data.toList ∧ x.size ≤ 2 * (a.size - t.size) ∧ t.size ≤ a.size ∧ wr = w4) (fun d _ _ => match d with | .string t => t.size | _ => 0)
    case atStart => exact ⟨a, ⟨#[]⟩, rfl, rfl, by simp, by show 0 ≤ _; omega, Nat.le_refl _, rfl⟩
    case round =>
      obtain ⟨t, x, rfl, rfl, heq, hx, ht, rfl⟩ := hrel
      have HE := Lib.hid heq; clear heq
      rcases Nat.lt_or_ge 3 t.size with hlt | hge
      · obtain ⟨b, hb⟩ : ∃ b, t.extract (t.size - 3) t.size = b := ⟨_, rfl⟩
        have hbs : b.size = 3 := by rw [← hb, ByteArray.size_extract]; omega
        have hbl : b.data.toList = t.data.toList.drop (t.size - 3) := by rw [← hb, Lib.extract_to_end]
        have k1 : ¬ 9223372036854775807 < 1 + b.size := by omega
        have k2 : ¬ 9223372036854775807 < 1 + b.size + x.size := by omega
        go_wp2
        have hsz : (t.extract 0 (t.size - 3)).size = t.size - 3 := by rw [ByteArray.size_extract]; omega
        refine ⟨⟨_, _, rfl, rfl, ?_, ?_, by omega, trivial⟩, ?_⟩
        · have hl : t.data.toList.length = t.size := by simp
          rw [← HE.out, grp_long (l := t.data.toList) (by omega), hl, ByteArray.data_append, ByteArray.data_append, Lib.extract_data]
          simp [hbl]
        · rw [hsz, ByteArray.size_append, ByteArray.size_append, hbs]
          show 1 + 3 + x.size ≤ _
          omega
        · show (t.extract 0 (t.size - 3)).size < t.size
          omega
      · obtain ⟨y, hy⟩ : ∃ y, t ++ x = y := ⟨_, rfl⟩
        have hyl : y.data.toList = grp gr (befL u q) := by
          have hl : t.data.toList.length = t.size := by simp
          rw [← HGA.out, ← HE.out, grp_short (by omega), ← hy, ByteArray.data_append]
          simp
        have hys : y.size ≤ 120 := by rw [← hy, ByteArray.size_append]; omega
        have HY := Lib.hid hyl
        have hcond : ¬ 9223372036854775807 < t.size + x.size := by omega
        have p8 := HP8.out; have pe := HPE.out
        have k1 : ¬ 9223372036854775807 < 1 + b.size := by omega
        have k2 : ¬ 9223372036854775807 < y.size + (1 + b.size) := by omega
        have k3 : ¬ 9223372036854775807 < 1 + y.size := by omega
        have k4 : ¬ 9223372036854775807 < 1 + (y.size + (1 + b.size)) := by omega
        clear hyl
        cases bi with
        | false =>
          have HQ := Lib.hid (show q = 0 by have := of_decide_eq_false HBI.out; omega)
          cases bn
          · go_wp2
            go_ret2
            refine ⟨_, rfl, ?_, hB4⟩
            unfold grpdL sgL
            rw [if_neg (of_decide_eq_false HBN.out), if_pos HQ.out, ← HY.out]
            simp
          · go_wp2
            go_ret2
            refine ⟨_, rfl, ?_, hB4⟩
            unfold grpdL sgL
            rw [if_pos (of_decide_eq_true HBN.out), if_pos HQ.out, ← HY.out]
            simp
        | true =>
          have HQ := Lib.hid (show ¬ q = 0 from of_decide_eq_true HBI.out)
          have hB := HB.out
          rw [if_neg HQ.out] at hB
          have HBB := Lib.hid hB
          clear hB
          cases bn
          · go_wp2
            go_ret2
            refine ⟨_, rfl, ?_, hB4⟩
            unfold grpdL sgL
            rw [if_neg (of_decide_eq_false HBN.out), if_neg HQ.out, ← HY.out, ← HBB.out]
            simp
          · go_wp2
            go_ret2
            refine ⟨_, rfl, ?_, hB4⟩
            unfold grpdL sgL
            rw [if_pos (of_decide_eq_true HBN.out), if_neg HQ.out, ← HY.out, ← HBB.out]
            simp
end Go.Proofs.YtegobkaldedhhaaDoor
