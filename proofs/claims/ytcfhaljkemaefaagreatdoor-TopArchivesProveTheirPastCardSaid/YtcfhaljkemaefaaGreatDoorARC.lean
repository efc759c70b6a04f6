/- Archive's walks: CheckArchive. Archive's walks: Head, Proves. -/
import Derived.Test.YtcfhaljkemaefaaGreatDoorARA
-- merged: ARB ARC

namespace Go.Proofs.YtcfhaljkemaefaaGreatDoor
open Go.RowKit Limb Nmb Work
set_option linter.unusedVariables false
set_option linter.unusedSimpArgs false

def RecZ (r : Rec) : Prop := r.kind.size ≤ 9223372036854775807 ∧ r.key.size ≤ 9223372036854775807 ∧ r.text.size ≤ 9223372036854775807 ∧ r.dig.size ≤ 9223372036854775807
/-- The records of an archive as they lie in memory. -/
def RecsZ (w : World) (A : Option Addr) (l : List Rec) : Prop := (∀ j, j < l.length → RecZ (arA l j)) ∧ Recs w A l
theorem RecsZ.below {w w' : World} {A : Option Addr} {l : List Rec} (h : RecsZ w A l) (hb : Below w.heap.size w w') : RecsZ w' A l := ⟨h.1, Rws.below h.2 hb⟩
theorem arcG_stop {dg : List UInt8 → List UInt8} {l : List Rec} {j : Nat} (h : arcG dg l j ≠ 0) : ∀ n, j ≤ n → arcG dg l n = arcG dg l j
  | 0, hn => by obtain rfl : j = 0 := by omega
                rfl
  | n + 1, hn => by
    by_cases e : j = n + 1
    · rw [e]
    · have ih := arcG_stop h n (by omega)
      rw [arcG, ih, if_pos h]
theorem arcG_hit {dg : List UInt8 → List UInt8} {l : List Rec} {j : Nat} {x : Int} (h0 : arcG dg l j = 0) (hj : j < l.length) (hx : x ≠ 0) (h : arcG dg l (j + 1) = x) : arcG dg l l.length = x := by
  have := arcG_stop (dg := dg) (l := l) (j := j + 1) (by rw [h]; exact hx) l.length (by omega)
  rw [this, h]
theorem arcG_step {dg : List UInt8 → List UInt8} {l : List Rec} {j : Nat} (h0 : arcG dg l j = 0) : arcG dg l (j + 1) = if recF dg (arA l j) ≠ 0 then recF dg (arA l j) else if 0 < j ∧ (arA l j).time < (arA l (j - 1)).time then 8 else 0 := by
  rw [arcG, h0, if_neg (fun h => h rfl)]
theorem obox6 {w : World} {g : Nat} {a b c d e f : Value} {T : TypeId} (h : w.heap[g]? = some (.cells #[a, b, c, d, e, f] T (0, 0))) :
    (w.cell? ⟨g, 0, none⟩ = some a ∧ w.cell? ⟨g, 1, none⟩ = some b ∧ w.cell? ⟨g, 2, none⟩ = some c ∧ w.cell? ⟨g, 3, none⟩ = some d ∧ w.cell? ⟨g, 4, none⟩ = some e ∧ w.cell? ⟨g, 5, none⟩ = some f) ∧ g < w.heap.size :=
  ⟨⟨cell_of_row w g 0 _ _ _ h, cell_of_row w g 1 _ _ _ h, cell_of_row w g 2 _ _ _ h, cell_of_row w g 3 _ _ _ h, cell_of_row w g 4 _ _ _ h, cell_of_row w g 5 _ _ _ h⟩, lt_heap h⟩
theorem RetFt.of {x y : Int} {w w' : World} (h : x = y) (hb : Below w.heap.size w w') : RetFt y w (.returned (.int .i64 x)) w' := ⟨by rw [h], hb⟩
set_option maxHeartbeats 2000000 in
set_option maxRecDepth 100000 in
theorem chkarc_c (A : Option Addr) (c : Nat) (l : List Rec) (w : World) (hn : l.length ≤ 9223372036854775807) (hl : RecsZ w A l) (hz : ZCell w) :
    Calls Tryz.prog 11 #[.slice A l.length c] w (RetFt (arcF dgsL l) w) := by
  obtain ⟨n, hnn⟩ : ∃ n, l.length = n := ⟨_, rfl⟩
  have HNN := Lib.hid hnn
  obtain ⟨F, hF⟩ : ∃ F, arcF dgsL l = F := ⟨_, rfl⟩
  rw [hF]
  unfold arcF at hF
  by_cases h1 : 2000 < l.length
  · obtain rfl : F = 2 := by rw [← hF, if_pos h1]
    have h1' : (2000 : Int) < (n : Int) := by omega
    rw [hnn]
    clear h1 hn hnn hF hl hz
    go_enter Tryz.func11, Tryz.ntmps11
    go_wp2
    go_ret
    exact ⟨rfl, Below.refl _ _⟩
  rw [if_neg h1] at hF
  have h1' : ¬ (2000 : Int) < (n : Int) := by omega
  have hn2 : n ≤ 2000 := by omega
  have HL := Lib.hid hl
  have HF := Lib.hid hF
  have HZ := Lib.hid hz
  rw [hnn]
  clear h1 hn hnn hF hl hz
  go_enter Tryz.func11, Tryz.ntmps11
  go_wp2
  go_loopw [11] (fun i wr => ∃ k : Nat, k ≤ n ∧ i = .int .i64 k ∧ Below w.heap.size w wr ∧ Hid (arcG dgsL l k = 0)) (fun i _ => n - (intOf i).toNat)
  case atStart => exact ⟨0, Nat.zero_le _, rfl, Below.refl _ _, Lib.hid rfl⟩
  case round =>
    obtain ⟨k, hk, rfl, hb, HK⟩ := hrel
    have hz := hb.size
    rcases Nat.lt_or_ge k n with hlt | hge
    · have hltj : k < l.length := by rw [HNN.out]; exact hlt
      obtain ⟨b, off, rfl, hbw, hc⟩ := (Rws.below HL.out.2 hb).get hltj
      have c0 := hc 0 (by decide); have c1 := hc 1 (by decide); have c2 := hc 2 (by decide); have c3 := hc 3 (by decide); have c4 := hc 4 (by decide); have c5 := hc 5 (by decide)
      simp only [recV, Nat.add_zero] at c0 c1 c2 c3 c4 c5
      obtain ⟨s1, s2, s3, s4⟩ := HL.out.1 k hltj
      obtain ⟨x, hx⟩ : ∃ x, arA l k = x := ⟨_, rfl⟩
      have HX := Lib.hid hx
      rw [hx] at c0 c1 c2 c3 c4 c5 s1 s2 s3 s4
      have HREC := Lib.hid (fun w' (hb' : Below w.heap.size w w') => record_c x w' s1 s2 s3 s4 (HZ.out.below hb'))
      have HST := Lib.hid (arcG_step HK.out)
      rw [hx] at HST
      obtain ⟨y, hy⟩ : ∃ y, (arA l (k - 1)).time = y := ⟨_, rfl⟩
      rw [hy] at HST
      have HY := Lib.hid hy
      obtain ⟨R, hR⟩ : ∃ R, recF dgsL x = R := ⟨_, rfl⟩
      rw [hR] at HST HREC
      clear hc hx hy hR s1 s2 s3 s4
      unfold recG at HREC
      obtain ⟨t, kd, ky, dg, dp, tx⟩ := x
      dsimp only at c0 c1 c2 c3 c4 c5 HREC HST
      go_wp2_with fail
      have hX := heap_new wr (.cells #[.int .i64 t, .string kd, .string ky, .string dg, .bool dp, .string tx] 45) rfl
      have hb1 : Below w.heap.size w (wr.alloc (.cells #[.int .i64 t, .string kd, .string ky, .string dg, .bool dp, .string tx] 45)) := by go_grown
      generalize wr.alloc (.cells #[.int .i64 t, .string kd, .string ky, .string dg, .bool dp, .string tx] 45) = w1 at hX hb1 ⊢
      refine (HREC.out _ hb1).mono ?_
      rintro e w2 ⟨rfl, hb2⟩
      have hX2 := heap_below hX hb2
      have hB2 := below_then hb2 hb1 hb1.size
      obtain ⟨⟨g0, -, -, -, -, -⟩, -⟩ := obox6 hX2
      have HPR2 := Lib.hid (show 0 < k → w2.cell? ⟨b, off + (k - 1) * 6, none⟩ = some (.int .i64 y) from fun h => by
        obtain ⟨b', off', e, _, hc'⟩ := (Rws.below HL.out.2 hB2).get (j := k - 1) (by omega)
        cases e
        rw [← HY.out]
        exact hc' 0 (by decide))
      clear hX hb1 hb2 c0 c1 c2 c3 c4 c5 hX2 HREC
      by_cases hR0 : R = 0
      case neg =>
        have HE := Lib.hid (show R = F by rw [← HF.out]; exact (arcG_hit HK.out hltj hR0 (by rw [HST.out, if_pos hR0])).symm)
        have hr : (R == 0) = false := by simpa using hR0
        clear hR0 hltj HST
        go_wp2
        go_ret
        exact RetFt.of HE.out hB2
      subst hR0
      have HST2 := Lib.hid (HST.out.trans (if_neg (fun h => h rfl)))
      clear HST
      rcases Nat.eq_zero_or_pos k with h0 | h0
      · subst h0
        have HK2 := Lib.hid (show arcG dgsL l 1 = 0 by rw [HST2.out, if_neg (fun h => absurd h.1 (by decide))])
        clear hltj HST2
        go_wp2
        go_quiet (fail)
        go_wp2
        go_roundw
        case rel => exact ⟨1, by omega, by go_num, below_drewN hB2 _, HK2⟩
        case measure => simp [intOf]; omega
      · have c9 := HPR2.out h0
        have k0 : (0 : Int) < (k : Int) := by omega
        obtain ⟨m, rfl⟩ : ∃ m, k = m + 1 := ⟨k - 1, by omega⟩
        rw [Nat.add_sub_cancel] at c9
        by_cases hlt2 : t < y
        · have HE := Lib.hid (show F = 8 by rw [← HF.out]; exact arcG_hit HK.out hltj (by decide) (by rw [HST2.out, if_pos ⟨by omega, hlt2⟩]))
          clear hltj h0 HST2
          go_wp2
          go_quiet (fail)
          go_wp2
          go_ret
          exact RetFt.of HE.out.symm (below_drewN hB2 _)
        · have HK2 := Lib.hid (show arcG dgsL l (m + 1 + 1) = 0 by rw [HST2.out, if_neg (fun h => hlt2 h.2)])
          clear hltj h0 HST2
          go_wp2
          go_quiet (fail)
          go_wp2
          go_roundw
          case rel => exact ⟨m + 1 + 1, by omega, by go_num, below_drewN hB2 _, HK2⟩
          case measure => simp [intOf]; omega
    · obtain rfl : k = n := by omega
      have HE := Lib.hid (show F = 0 by rw [← HF.out, HNN.out]; exact HK.out)
      go_wp2
      go_ret
      exact RetFt.of HE.out.symm hb
end Go.Proofs.YtcfhaljkemaefaaGreatDoor

namespace Go.Proofs.YtcfhaljkemaefaaGreatDoor
open Go.RowKit Limb Nmb Work
set_option linter.unusedVariables false
set_option linter.unusedSimpArgs false

theorem arc_recs {dg : List UInt8 → List UInt8} {l : List Rec} (h : arcF dg l = 0) : l.length ≤ 2000 ∧ ∀ j, j < l.length → RecK (arA l j) := by
  unfold arcF at h
  split at h; · cases h
  exact ⟨by omega, fun j hj => recF_ok (arcG_ok h j hj).1⟩
theorem arA_takeA {l : List Rec} {n j : Nat} (h : j < n) : arA (l.take n) j = arA l j := arA_take h
theorem RecsZ.take {w : World} {A : Option Addr} {l : List Rec} (h : RecsZ w A l) (k : Nat) (hk : k ≤ l.length) : RecsZ w A (l.take k) := by
  have e : (l.take k).length = k := by rw [List.length_take]; omega
  refine ⟨fun j hj => ?_, ?_⟩
  · rw [e] at hj
    rw [arA_take hj]
    exact h.1 j (by omega)
  · unfold Recs
    rw [e]
    intro hk0
    obtain ⟨b, off, eA, hlt, hc⟩ := h.2 (by omega)
    refine ⟨b, off, eA, hlt, fun j hj i hi => ?_⟩
    rw [hc j (by omega) i hi]
    unfold recV
    rw [arA_take hj]
/-- What Head answers. -/
def headN (l : List Rec) (n : Int) : Int := if arcF dgsL l ≠ 0 then arcF dgsL l else if ¬ (0 ≤ n ∧ n ≤ (l.length : Int)) then 1 else 0
def RetHd (l : List Rec) (n : Int) (w : World) (e : Ending) (w' : World) : Prop := ∃ H, e = .returned (.tuple #[.string H, .int .i64 (headN l n)]) ∧ (headN l n = 0 → H = headB l n.toNat) ∧ (headN l n ≠ 0 → H = ⟨#[]⟩) ∧ Below w.heap.size w w'
theorem headN_bad {l : List Rec} {n : Int} (h : arcF dgsL l ≠ 0) : headN l n = arcF dgsL l := by unfold headN; rw [if_pos h]
theorem headN_out {l : List Rec} {n : Int} (h : arcF dgsL l = 0) (hn : ¬ (0 ≤ n ∧ n ≤ (l.length : Int))) : headN l n = 1 := by unfold headN; rw [if_neg (fun k => k h), if_pos hn]
theorem headN_ok {l : List Rec} {n : Int} (h : arcF dgsL l = 0) (hn : 0 ≤ n ∧ n ≤ (l.length : Int)) : headN l n = 0 := by unfold headN; rw [if_neg (fun k => k h), if_neg (fun k => k hn)]
theorem headB_take {l : List Rec} {k : Nat} : headB (l.take k) k = headB l k := by unfold headB; rw [headA_take (Nat.le_refl _)]
set_option maxHeartbeats 2000000 in
set_option maxRecDepth 100000 in
theorem head_c (A : Option Addr) (c : Nat) (l : List Rec) (n : Int) (w : World) (hn : l.length ≤ 9223372036854775807) (hc : l.length ≤ c) (hl : RecsZ w A l) (hz : ZCell w) (ht : TabA w) :
    Calls Tryz.prog 5 #[.slice A l.length c, .int .i64 n] w (RetHd l n w) := by
  have HCK := Lib.hid (chkarc_c A c l w hn hl hz)
  have HL := Lib.hid hl
  have HZ := Lib.hid hz
  have HT := Lib.hid ht
  obtain ⟨m, hm⟩ : ∃ m, l.length = m := ⟨_, rfl⟩
  have HM := Lib.hid hm
  by_cases h0 : arcF dgsL l = 0
  case neg =>
    obtain ⟨F, hF⟩ : ∃ F, arcF dgsL l = F := ⟨_, rfl⟩
    have HN := Lib.hid (headN_bad (n := n) h0)
    rw [hF] at HN HCK h0
    rw [hm] at HCK ⊢
    have hf' : (F == 0) = false := by simpa using h0
    have H0 := Lib.hid h0
    clear hn hl hz ht hm hF h0 hc
    go_enter Tryz.func5, Tryz.ntmps5
    go_wp2_with fail
    refine HCK.out.mono ?_
    rintro e w1 ⟨rfl, hb1⟩
    go_wp2
    go_ret2
    exact ⟨_, by rw [HN.out]; rfl, fun h => absurd (HN.out.symm.trans h) H0.out, fun _ => rfl, hb1⟩
  have HRK := Lib.hid (arc_recs h0)
  rw [h0] at HCK
  by_cases h1 : 0 ≤ n ∧ n ≤ (m : Int)
  case neg =>
    have HN := Lib.hid (headN_out (n := n) h0 (by rw [hm]; exact h1))
    have HO := Lib.hid (fun w => out_yes n 0 m w h1)
    rw [hm] at HCK ⊢
    clear hn hl hz ht hm h0 h1 hc
    go_enter Tryz.func5, Tryz.ntmps5
    go_wp2_with fail
    refine HCK.out.mono ?_
    rintro e w1 ⟨rfl, hb1⟩
    go_wp2_with fail
    refine (HO.out _).mono ?_
    rintro e w2 ⟨rfl, rfl⟩
    go_wp2
    go_ret2
    exact ⟨_, by rw [HN.out]; rfl, fun h => absurd (HN.out.symm.trans h) (by decide), fun _ => rfl, hb1⟩
  have HN := Lib.hid (headN_ok (n := n) h0 (by rw [hm]; exact h1))
  have HO := Lib.hid (fun w => out_no n 0 m w h1)
  obtain ⟨k, rfl⟩ : ∃ k : Nat, n = k := ⟨n.toNat, by omega⟩
  have hk : k ≤ l.length := by omega
  have ek : (l.take k).length = k := by rw [List.length_take]; omega
  have hkc : (k : Int) ≤ (c : Int) := by omega
  have hk0 : (0 : Int) ≤ (k : Int) := by omega
  have HHD := Lib.hid (fun w' (hb : Below w.heap.size w w') => headof_c A c (l.take k) w' (((RecsZ.take hl k hk).below hb).2) (fun j hj => by
    rw [ek] at hj
    rw [arA_take hj]
    exact HRK.out.2 j (by omega)) (by rw [ek]; have := HRK.out.1; omega) (ht.below hb) (hz.below hb))
  rw [ek, headB_take] at HHD
  obtain ⟨H, hH⟩ : ∃ H, headB l k = H := ⟨_, rfl⟩
  have HH := Lib.hid (show H = headB l (k : Int).toNat by rw [← hH]; rfl)
  rw [hH] at HHD
  rw [hm] at HCK ⊢
  clear hn hl hz ht hm h0 hH hk ek HRK hc
  go_enter Tryz.func5, Tryz.ntmps5
  go_wp2_with fail
  refine HCK.out.mono ?_
  rintro e w1 ⟨rfl, hb1⟩
  go_wp2_with fail
  refine (HO.out _).mono ?_
  rintro e w2 ⟨rfl, rfl⟩
  go_wp2_with fail
  refine (HHD.out _ hb1).mono ?_
  rintro e w2 ⟨rfl, hb2⟩
  go_wp2
  go_ret2
  exact ⟨_, by rw [HN.out]; rfl, fun _ => HH.out, fun h => absurd HN.out h, below_then hb2 hb1 hb1.size⟩

/-- What Proves answers. -/
def prvN (l : List Rec) (n : Int) (h : ByteArray) : Int := if headN l n ≠ 0 then headN l n else if isDigB h.data.toList = false then 3 else 0
def RetPv (l : List Rec) (n : Int) (h : ByteArray) (w : World) (e : Ending) (w' : World) : Prop := ∃ b, e = .returned (.tuple #[.bool b, .int .i64 (prvN l n h)]) ∧ (prvN l n h = 0 → b = decide (headB l n.toNat = h)) ∧ Below w.heap.size w w'
set_option maxHeartbeats 2000000 in
set_option maxRecDepth 100000 in
theorem proves_c (A : Option Addr) (c : Nat) (l : List Rec) (n : Int) (h : ByteArray) (w : World) (hn : l.length ≤ 9223372036854775807) (hc : l.length ≤ c) (hl : RecsZ w A l) (hz : ZCell w) (ht : TabA w) (hh : headN l n = 0) (hs : h.size ≤ 9223372036854775807) (hd : isDigB h.data.toList = true) (he : headB l n.toNat = h) :
    Calls Tryz.prog 8 #[.slice A l.length c, .int .i64 n, .string h] w fun e w' => e = .returned (.tuple #[.bool true, .int .i64 0]) ∧ Below w.heap.size w w' := by
  have HHD := Lib.hid (head_c A c l n w hn hc hl hz ht)
  have HID := Lib.hid (fun w => isdigest_c h w hs)
  rw [hd] at HID
  have HH := Lib.hid hh
  have HE := Lib.hid he
  obtain ⟨m, hm⟩ : ∃ m, l.length = m := ⟨_, rfl⟩
  rw [hm] at HHD ⊢
  clear hn hc hl hz ht hh hs hd he hm
  go_enter Tryz.func8, Tryz.ntmps8
  go_wp2_with fail
  refine HHD.out.mono ?_
  rintro e w1 ⟨H, rfl, hH, -, hb1⟩
  obtain rfl : H = h := (hH HH.out).trans HE.out
  rw [HH.out]
  clear hH
  go_wp2_with fail
  refine (HID.out _).mono ?_
  rintro e w2 ⟨rfl, hb2⟩
  have hb : (H.toList == H.toList) = true := by simp
  go_wp2
  go_ret2
  exact ⟨by first | rfl | simp, below_then hb2 hb1 hb1.size⟩
end Go.Proofs.YtcfhaljkemaefaaGreatDoor
