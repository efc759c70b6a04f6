/- Archive's walks: Read at the text of right records. Archive's law: alive, Turn. Archive's law: the head of what was kept proves it after more was put behind, after texts were dropped, and after it was written and read. -/
import Derived.Test.YtcfhaljkemaefaaGreatDoorARG
-- merged: ARH ARI ARJ

namespace Go.Proofs.YtcfhaljkemaefaaGreatDoor
open Go.RowKit Limb Nmb Work
set_option linter.unusedVariables false
set_option linter.unusedSimpArgs false

/-- The records read so far, in a row of the call's own. -/
def OwnR (w1 : World) (l : List Rec) (j : Nat) (X : Option Addr) (c : Nat) (w : World) : Prop := w.ownsRow w1.heap.size 45 6 (.slice X j c) j (rowsC 6 j (recV l)) ∧ Below w1.heap.size w1 w
def RetRd (l : List Rec) (w : World) (e : Ending) (w' : World) : Prop := ∃ X d, e = .returned (.tuple #[.slice X l.length d, .int .i64 0, .int .i64 0]) ∧ l.length ≤ d ∧ RecsZ w' X l ∧ Below w.heap.size w w'
set_option maxHeartbeats 4000000 in
set_option maxRecDepth 100000 in
theorem aread_c (l : List Rec) (m : Int) (w : World) (h0 : arcF dgsL l = 0) (hz : ∀ j, j < l.length → RecZ (arA l j)) (ht : (textA l).length ≤ 500000) (hm : w.cell? ⟨0, 0, none⟩ = some (.int .i64 m)) (hzc : ZCell w) :
    Calls Tryz.prog 10 #[.string (bs (textA l))] w (RetRd l w) := by
  obtain ⟨i0, hi, hz0, hz1, hz2⟩ := info_parts Tryz.infoRec
  have HRK := Lib.hid (arc_recs h0)
  have hln := text_lns (arc_mem h0)
  have HLN := Lib.hid (lines_c (bs (textA l)) m w (by show (textA l).length ≤ _; exact ht) hm)
  unfold RetLs at HLN
  rw [show lnsL (bs (textA l)).data.toList = l.map lineA from hln.1, show lnsE (bs (textA l)).data.toList = true from hln.2, List.length_map, List.map_map] at HLN
  have hs : ¬ (500000 : Int) < ((bs (textA l)).size : Int) := by have : (bs (textA l)).size = (textA l).length := rfl; omega
  obtain ⟨s, hss⟩ : ∃ s, bs (textA l) = s := ⟨_, rfl⟩
  have HM := Lib.hid hm
  have HRR := Lib.hid (fun j (hj : j < l.length) w' (hb : Below w.heap.size w w') => readrec_c (arA l j) m w' ((arc_recs h0).2 j hj) ((hb.cell (cell_lt hm)).trans hm))
  have HCK := Lib.hid (fun X d w' (hb : Below w.heap.size w w') (hr : Recs w' X l) => chkarc_c X d l w' (by have := HRK.out.1; omega) ⟨hz, hr⟩ (hzc.below hb))
  rw [h0] at HCK
  have HZ := Lib.hid hz
  obtain ⟨n, hn⟩ : ∃ n, l.length = n := ⟨_, rfl⟩
  have HN := Lib.hid hn
  have hn2 : n ≤ 2000 := by have := HRK.out.1; omega
  unfold RetRd
  rw [hss] at HLN hs ⊢
  rw [hn] at HLN HCK ⊢
  clear h0 hz hm hzc hln hss hn ht
  go_enter Tryz.func10, Tryz.ntmps10
  go_wp2_with fail
  refine HLN.out.mono ?_
  rintro e w1 ⟨A, rfl, hst, hb1⟩
  have HST := Lib.hid hst
  have HB1 := Lib.hid hb1
  clear hst hb1
  go_wp2_with fail
  go_loopw [23, 7] (fun i o wr => ∃ (j : Nat) (X : Option Addr) (c : Nat), j ≤ n ∧ i = .int .i64 j ∧ o = .slice X j c ∧ Hid (OwnR w1 l j X c wr)) (fun i o _ => n - (intOf i).toNat)
  case atStart => exact ⟨0, none, 0, by omega, rfl, rfl, Lib.hid ⟨World.ownsRow_nil _ _ _ _, Below.refl _ _⟩⟩
  case round =>
    obtain ⟨j, X, c, hj, rfl, rfl, HO⟩ := hrel
    rcases Nat.lt_or_ge j n with hlt | hge
    · have hjl : j < l.length := by rw [HN.out]; exact hlt
      obtain ⟨b, off, rfl, hbk, hc⟩ := (HST.out.below HO.out.2).cells (by rw [List.length_map]; omega)
      have cj := hc j (by rw [List.length_map]; exact hjl)
      rw [show wd (l.map (bs ∘ lineA)) j = bs (lineA (arA l j)) by unfold wd; rw [List.getD_eq_getElem?_getD, List.getElem?_map, List.getElem?_eq_getElem hjl, arA_get hjl]; rfl] at cj
      have HBR := Lib.hid (below_then HO.out.2 HB1.out HB1.out.size)
      have HRJ := Lib.hid (HRR.out j hjl wr HBR.out)
      have HRV := Lib.hid (show ∀ (r : Rec), arA l j = r → rowsC 6 (j + 1) (recV l) = rowsC 6 j (recV l) ++ [.int .i64 r.time, .string r.kind, .string r.key, .string r.dig, .bool r.drop, .string r.text] from fun r hr => by subst hr; rw [rowsC_succ]; rfl)
      obtain ⟨r, hr⟩ : ∃ r, arA l j = r := ⟨_, rfl⟩
      have HV := Lib.hid (HRV.out r hr)
      rw [hr] at cj HRJ
      obtain ⟨s', hs'⟩ : ∃ x, bs (lineA r) = x := ⟨_, rfl⟩
      rw [hs'] at cj HRJ
      obtain ⟨t, kd, ky, dg, dp, tx⟩ := r
      unfold RetRR recG at HRJ
      dsimp only at HRJ HV
      clear hc hr hs' HRV
      go_wp2_with fail
      refine HRJ.out.mono ?_
      rintro e w2 ⟨rfl, hb2⟩
      have HO2 := Lib.hid (show OwnR w1 l j X c w2 from ⟨HO.out.1.kept (row := none) (grown_of hb2 none) (Classical.em _), below_then hb2 HO.out.2 HO.out.2.size⟩)
      have HX := Lib.hid (heap_new w2 (.cells #[.int .i64 t, .string kd, .string ky, .string dg, .bool dp, .string tx] 45) rfl)
      have HO3 := Lib.hid (show OwnR w1 l j X c (w2.alloc (.cells #[.int .i64 t, .string kd, .string ky, .string dg, .bool dp, .string tx] 45)) from ⟨HO2.out.1.alloc _, HO2.out.2.alloc HO2.out.2.size _⟩)
      clear hb2 cj hbk
      go_upto_region 9 with fail
      obtain ⟨g, hg⟩ : ∃ g, w2.heap.size = g := ⟨_, rfl⟩
      rw [hg] at HX
      rw [hg]
      generalize w2.alloc (.cells #[.int .i64 t, .string kd, .string ky, .string dg, .bool dp, .string tx] 45) = w3 at HX HO3 ⊢
      clear hg
      have hX3 := HX.out
      obtain ⟨⟨x0, x1, x2, x3, x4, x5⟩, -⟩ := obox6 hX3
      have hsz3 := HO3.out.2.size
      clear hX3
      go_upto_region 12 with (at_builtin; refine wpList_zpush rfl _ _ 22 rfl w1.heap.size 45 i0 (.agg #[.int .i64 0, .string ⟨#[]⟩, .string ⟨#[]⟩, .string ⟨#[]⟩, .bool false, .string ⟨#[]⟩]) 6 80 Tryz.underlying22 hi hz0 hz1 hz2 rfl (by decide) (.slice X j c) j (rowsC 6 j (recV l)) rfl HO3.out.1 [.int .i64 t, .string kd, .string ky, .string dg, .bool dp, .string tx] rfl rfl (by intro u hu; simp at hu; rcases hu with rfl | rfl | rfl | rfl | rfl | rfl <;> rfl) (by unfold maxLen; omega) (by omega) hsz3 ?_; intro X9 c9 w9 hown9 hg9)
      have HO9 := Lib.hid (show OwnR w1 l (j + 1) X9 c9 w9 from ⟨by rw [HV.out]; exact hown9, HO3.out.2.grown hg9 hsz3 (fun k hk => (HO3.out.1.lt k hk).1)⟩)
      clear hown9 hg9
      go_wp2
      go_roundw
      case rel => first | exact ⟨j + 1, X9, c9, by omega, by go_num, rfl, HO9⟩ | ((repeat apply Exists.intro); exact ⟨⟨j + 1, X9, c9, by omega, by go_num, rfl, HO9⟩, rfl⟩)
      case measure => simp [intOf]; omega
    · obtain rfl : j = n := by omega
      have HRC := Lib.hid (show Recs wr X l by
        unfold Recs
        rw [HN.out]
        exact own_rwsZ HO.out.1 fun a ha i hi => rowsC_at ha hi)
      have HBR := Lib.hid (below_then HO.out.2 HB1.out HB1.out.size)
      have HLC := Lib.hid (own_len HO.out.1)
      go_wp2_with fail
      refine (HCK.out X c wr HBR.out HRC.out).mono ?_
      rintro e w2 ⟨rfl, hb2⟩
      go_wp2
      go_ret3
      exact ⟨X, c, rfl, HLC.out, ⟨HZ.out, Rws.below HRC.out hb2⟩, below_then hb2 HBR.out HBR.out.size⟩
end Go.Proofs.YtcfhaljkemaefaaGreatDoor

namespace Go.Proofs.YtcfhaljkemaefaaGreatDoor
open Go.RowKit Limb Nmb Work
set_option linter.unusedVariables false
set_option linter.unusedSimpArgs false

set_option maxHeartbeats 1000000 in
set_option maxRecDepth 100000 in
theorem turn_c (x : Int) (n : Nat) (w : World) (hx : -9223372036854775808 ≤ x ∧ x ≤ 9223372036854775807) (hn : n ≤ 1000000000000000) :
    Calls Tryz.prog 4 #[.int .i64 x, .int .i64 ((n : Int) + 1)] w fun e w' => ∃ k : Nat, e = .returned (.int .i64 (k : Int)) ∧ k ≤ n ∧ w = w' := by
  have h0 : ¬ ((n : Int) + 1) = 0 := by omega
  have h1 := Int.tmod_lt_of_pos x (show (0 : Int) < (n : Int) + 1 by omega)
  have h2 := Int.lt_tmod_of_pos x (show (0 : Int) < (n : Int) + 1 by omega)
  obtain ⟨q, hq⟩ : ∃ q, x.tmod ((n : Int) + 1) = q := ⟨_, rfl⟩
  rw [hq] at h1 h2
  by_cases hlt : q < 0
  · have hw : wrap64 (q + ((n : Int) + 1)) = q + ((n : Int) + 1) := IntWalk.wrap64_in _ (by omega)
    go_enter Tryz.func4, Tryz.ntmps4
    go_wp2_with (simp only [hq])
    go_ret
    exact ⟨(q + ((n : Int) + 1)).toNat, by rw [show (((q + ((n : Int) + 1)).toNat : Nat) : Int) = q + ((n : Int) + 1) by omega]; rfl, by omega, rfl⟩
  · have hge : 0 ≤ q := by omega
    go_enter Tryz.func4, Tryz.ntmps4
    go_wp2_with (simp only [hq])
    go_ret
    exact ⟨q.toNat, by rw [show ((q.toNat : Nat) : Int) = q by omega]; rfl, by omega, rfl⟩
theorem readText25 : readText [50, 46, 53] = (25, 1, 0) := by decide
theorem alive_c (w : World) : Calls Tryz.prog 6 #[] w fun e w' => e = .returned (.bool true) ∧ Below w.heap.size w w' := by
  have he : readText (⟨#[50, 46, 53]⟩ : ByteArray).data.toList = (25, 1, 0) := readText25
  go_enter Tryz.func6, Tryz.ntmps6
  go_wp2_with fail
  refine (readtext_c ⟨#[50, 46, 53]⟩ _ (by decide)).mono ?_
  rintro e w1 ⟨rfl, hb1⟩
  rw [he]
  clear he
  go_wp2
  go_ret
  exact ⟨rfl, by go_grown; exact hb1.size⟩
end Go.Proofs.YtcfhaljkemaefaaGreatDoor

namespace Go.Proofs.YtcfhaljkemaefaaGreatDoor
open Go.RowKit Limb Nmb Work
set_option linter.unusedVariables false
set_option linter.unusedSimpArgs false

theorem headB_dig (l : List Rec) (n : Nat) : isDigB (headB l n).data.toList = true := headA_ok l n
theorem headN_nat {l : List Rec} {k : Nat} (h : arcF dgsL l = 0) (hk : k ≤ l.length) : headN l (k : Int) = 0 := headN_ok h ⟨by omega, by omega⟩
set_option maxHeartbeats 4000000 in
set_option maxRecDepth 100000 in
theorem law_arch_i (A : Option Addr) (c : Nat) (l : List Rec) (n before : Int) (w : World) (hn : l.length ≤ 1000000000000000) (hc : l.length ≤ c) (hl : RecsZ w A l) (hx : -9223372036854775808 ≤ n ∧ n ≤ 9223372036854775807)
    (hm0 : ∃ m, w.cell? ⟨0, 0, none⟩ = some (.int .i64 m)) (hz : ZCell w) (ht : TabA w) :
    Calls Tryz.prog 3 #[.slice A l.length c, .int .i64 n, .int .i64 before] w fun e w' => e = .returned (.bool true) ∧ Below w.heap.size w w' := by
  obtain ⟨m, hm⟩ := hm0
  have HTU := Lib.hid (turn_c n l.length w hx hn)
  have HAL := Lib.hid alive_c
  have HWR := Lib.hid (show IntKind.i64.wrap ((l.length : Int) + 1) = (l.length : Int) + 1 from IntWalk.i64_in _ (by omega))
  obtain ⟨N, hN⟩ : ∃ N, l.length = N := ⟨_, rfl⟩
  have HN := Lib.hid hN
  have HHD := Lib.hid (fun (k : Nat) w' (hb : Below w.heap.size w w') => head_c A c l (k : Int) w' (by omega) hc (hl.below hb) (hz.below hb) (ht.below hb))
  by_cases h0 : arcF dgsL l = 0
  case neg =>
    have HNB := Lib.hid (fun (k : Nat) => headN_bad (n := (k : Int)) h0)
    obtain ⟨F, hF⟩ : ∃ F, arcF dgsL l = F := ⟨_, rfl⟩
    have hf' : (F == 0) = false := by rw [hF] at h0; simpa using h0
    rw [hF] at HNB h0
    have H0 := Lib.hid h0
    rw [hN] at HTU HWR HHD ⊢
    have hwr := HWR.out
    have hcN : (N : Int) ≤ (c : Int) := by omega
    have hN1 : (N : Int) ≤ 1000000000000000 := by omega
    clear hN hn hc hl hm hz ht h0 hF
    go_enter Tryz.func3, Tryz.ntmps3
    go_wp2_with fail
    refine HTU.out.mono ?_
    rintro e w1 ⟨k, rfl, hk, rfl⟩
    go_wp2_with fail
    refine (HHD.out k _ (Below.refl _ _)).mono ?_
    rintro e w2 ⟨H, rfl, -, hH, hb2⟩
    obtain rfl : H = ⟨#[]⟩ := hH (by rw [HNB.out]; exact H0.out)
    rw [HNB.out]
    clear hH
    go_wp2_with fail
    refine (HAL.out _).mono ?_
    rintro e w3 ⟨rfl, hb3⟩
    go_wp2
    go_ret
    exact ⟨rfl, below_then hb3 hb2 hb2.size⟩
  have HL2 := Lib.hid (arc_recs h0).1
  have HRZ := Lib.hid (drop_recZ (before := before) hl.1)
  have HDA := Lib.hid (drop_arc before h0)
  have HDL := Lib.hid ((dropL_len before l).trans hN)
  have HNB := Lib.hid (fun (k : Nat) (hk : k ≤ N) => headN_nat h0 (show k ≤ l.length by omega))
  have HNT := Lib.hid (show ∀ (k : Nat), k ≤ N → headN (l.take k) (k : Int) = 0 from fun k hk => headN_nat (arc_take h0 k) (by rw [List.length_take]; omega))
  have HND := Lib.hid (show ∀ (k : Nat), k ≤ N → headN (dropL before l) (k : Int) = 0 from fun k hk => headN_nat (drop_arc before h0) (by rw [dropL_len]; omega))
  have HHB := Lib.hid (show ∀ (k : Nat), k ≤ N → headB (dropL before l) (k : Int).toNat = headB l k from fun k hk => by
    show headB (dropL before l) k = headB l k
    unfold headB
    rw [headA_drop before (by omega)])
  have HHT := Lib.hid (show ∀ (k : Nat), k ≤ N → ∀ w', Below w.heap.size w w' → Calls Tryz.prog 5 #[.slice A k c, .int .i64 k] w' (RetHd (l.take k) k w') from fun k hk w' hb => by
    have e : (l.take k).length = k := by rw [List.length_take]; omega
    have := head_c A c (l.take k) (k : Int) w' (by omega) (by omega) ((hl.take k (by omega)).below hb) (hz.below hb) (ht.below hb)
    rwa [e] at this)
  have HDP := Lib.hid (fun w' (hb : Below w.heap.size w w') => dropped_c A c l before w' (by omega) (hl.below hb) (hz.below hb))
  have HPV := Lib.hid (show ∀ X d w', Below w.heap.size w w' → N ≤ d → RecsZ w' X (dropL before l) → ∀ (k : Nat), k ≤ N → Calls Tryz.prog 8 #[.slice X N d, .int .i64 k, .string (headB l k)] w' fun e w'' => e = .returned (.tuple #[.bool true, .int .i64 0]) ∧ Below w'.heap.size w' w'' from fun X d w' hb hd hx k hk => by
    have := proves_c X d (dropL before l) (k : Int) (headB l k) w' (by rw [HDL.out]; omega) (by rw [HDL.out]; exact hd) hx (hz.below hb) (ht.below hb) (HND.out k hk) (by rw [headB_len]; omega) (headB_dig l k) (HHB.out k hk)
    rwa [HDL.out] at this)
  have HTX := Lib.hid (show ∀ X d w', Below w.heap.size w w' → RecsZ w' X (dropL before l) → Calls Tryz.prog 9 #[.slice X N d] w' (RetTt (dropL before l) w') from fun X d w' hb hx => by
    have := atext_c X d (dropL before l) w' (by rw [HDL.out]; omega) hx (hz.below hb) (ht.below hb)
    rwa [HDL.out] at this)
  have HRD := Lib.hid (show ∀ w', Below w.heap.size w w' → txtN (dropL before l) = 0 → Calls Tryz.prog 10 #[.string (txtB (dropL before l))] w' (RetRd (dropL before l) w') from fun w' hb h2 => by
    rw [txtB_yes h2]
    refine aread_c (dropL before l) m w' HDA.out HRZ.out ?_ ((hb.cell (cell_lt hm)).trans hm) (hz.below hb)
    unfold txtN at h2
    rw [if_neg (fun k => k HDA.out)] at h2
    split at h2
    · cases h2
    · omega)
  unfold RetDp at HDP
  unfold RetRd at HRD
  rw [hN] at HTU HWR HHD HDP ⊢
  rw [HDL.out] at HRD
  have hwr := HWR.out
  have hcN : (N : Int) ≤ (c : Int) := by omega
  have hN1 : (N : Int) ≤ 1000000000000000 := by omega
  clear hN hn hc hl hm hz ht h0 hx
  go_enter Tryz.func3, Tryz.ntmps3
  go_wp2_with fail
  refine HTU.out.mono ?_
  rintro e w1 ⟨k, rfl, hk, rfl⟩
  go_wp2_with fail
  refine (HHD.out k _ (Below.refl _ _)).mono ?_
  rintro e w2 ⟨H, rfl, hH, -, hb2⟩
  obtain rfl : H = headB l k := hH (HNB.out k hk)
  rw [HNB.out k hk]
  clear hH
  have hkc : (k : Int) ≤ (c : Int) := by omega
  have hk0 : (0 : Int) ≤ (k : Int) := by omega
  obtain ⟨H, hHe⟩ : ∃ H, headB l k = H := ⟨_, rfl⟩
  have HPV2 := Lib.hid (fun X d w' hb hd hx => HPV.out X d w' hb hd hx k hk)
  have HTE := Lib.hid (show headB (l.take k) (k : Int).toNat = H from hHe ▸ headB_take)
  rw [hHe] at HPV2 ⊢
  clear hHe
  go_wp2_with fail
  refine (HHT.out k hk _ hb2).mono ?_
  rintro e w3 ⟨H2, rfl, hH, -, hb3⟩
  obtain rfl : H2 = H := (hH (HNT.out k hk)).trans HTE.out
  rw [HNT.out k hk]
  have hB3 := below_then hb3 hb2 hb2.size
  have hself : (H2.toList == H2.toList) = true := by simp
  clear hH hb2 hb3
  go_wp2_with fail
  refine (HAL.out _).mono ?_
  rintro e w4 ⟨rfl, hb4⟩
  have hB4 := below_then hb4 hB3 hB3.size
  clear hb4 hB3
  go_wp2_with fail
  refine (HDP.out _ hB4).mono ?_
  rintro e w5 (⟨hne, rfl, hb5⟩ | ⟨hz5, X, d, rfl, hd, hX, hb5⟩)
  · have hf : (drpN l before == 0) = false := by simpa using hne
    obtain ⟨F, hF⟩ : ∃ F, drpN l before = F := ⟨_, rfl⟩
    rw [hF] at hf ⊢
    clear hne hF
    go_wp2
    go_ret
    exact ⟨rfl, below_then hb5 hB4 hB4.size⟩
  have hB5 := below_then hb5 hB4 hB4.size
  have HX := Lib.hid hX
  try rw [HN.out] at hd
  have HD := Lib.hid hd
  clear hb5 hB4 hX hd hz5
  go_wp2_with fail
  refine (HPV2.out X d _ hB5 HD.out HX.out).mono ?_
  rintro e w6 ⟨rfl, hb6⟩
  have hB6 := below_then hb6 hB5 hB5.size
  have HX6 := Lib.hid (HX.out.below hb6)
  clear hb6 hB5
  go_wp2_with fail
  refine (HTX.out X d _ hB6 HX6.out).mono ?_
  rintro e w7 ⟨rfl, hb7⟩
  have hB7 := below_then hb7 hB6 hB6.size
  clear hb7 hB6
  by_cases h7 : txtN (dropL before l) = 0
  case neg =>
    rw [txtB_no h7]
    have hf : (txtN (dropL before l) == 0) = false := by simpa using h7
    obtain ⟨F, hF⟩ : ∃ F, txtN (dropL before l) = F := ⟨_, rfl⟩
    rw [hF] at hf ⊢
    clear h7 hF
    go_wp2
    go_ret
    exact ⟨rfl, hB7⟩
  have HRD2 := Lib.hid (HRD.out _ hB7 h7)
  rw [h7]
  obtain ⟨S, hS⟩ : ∃ S, txtB (dropL before l) = S := ⟨_, rfl⟩
  rw [hS] at HRD2 ⊢
  clear h7 hS
  go_wp2_with fail
  refine HRD2.out.mono ?_
  rintro e w8 ⟨Y, dy, rfl, hdy, hY, hb8⟩
  have hB8 := below_then hb8 hB7 hB7.size
  have HY := Lib.hid hY
  have HDY := Lib.hid hdy
  clear hb8 hB7 hY hdy
  go_wp2_with fail
  refine (HPV2.out Y dy _ hB8 HDY.out HY.out).mono ?_
  rintro e w9 ⟨rfl, hb9⟩
  go_wp2
  go_ret
  exact ⟨rfl, below_then hb9 hB8 hB8.size⟩
end Go.Proofs.YtcfhaljkemaefaaGreatDoor
