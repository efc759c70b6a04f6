
/- Archive's walks: a Builder's Len, Text. -/
import Derived.Test.YtcfhaljkemaefaaGreatDoorAR2
import Derived.Test.YtcfhaljkemaefaaGreatDoorBW
namespace Go.Proofs.YtcfhaljkemaefaaGreatDoor
open Go.RowKit Limb Nmb Work
set_option linter.unusedVariables false
set_option linter.unusedSimpArgs false

theorem bld_cells {w : World} {b : Nat} {l : List UInt8} (h : Bld w b l) : ∃ p A c, w.cell? ⟨b, 1, none⟩ = some (.slice A l.length c) ∧ w.cell? ⟨b, 0, none⟩ = some p := by
  have key : ∀ p, Lib.BuilderAtF 50 5 b b p (Lib.byteCells l) w → ∃ p A c, w.cell? ⟨b, 1, none⟩ = some (.slice A l.length c) ∧ w.cell? ⟨b, 0, none⟩ = some p := by
    intro p hh
    obtain ⟨hB, v, hv, hown, hne⟩ := hh
    rw [Lib.byteCells_length] at hown
    rcases hown.2 with ⟨h1, h2⟩ | ⟨g, cap, cur, fz, h1, -⟩
    · subst h1
      exact ⟨p, none, 0, by rw [cell_of_row w b 1 _ _ _ hv, h2]; rfl, cell_of_row w b 0 _ _ _ hv⟩
    · subst h1
      exact ⟨p, _, cap, cell_of_row w b 1 _ _ _ hv, cell_of_row w b 0 _ _ _ hv⟩
  exact h.elim (key _) (key _)
theorem blen_c (b : Nat) (l : List UInt8) (w : World) (h : Bld w b l) :
    Calls Tryz.prog 19 #[.pointer (some ⟨b, 0, none⟩)] w fun e w' => e = .returned (.int .i64 (l.length : Int)) ∧ w = w' := by
  obtain ⟨p, A, c, h1, -⟩ := bld_cells h
  clear h
  go_enter Tryz.func19, Tryz.ntmps19
  go_wp2
  go_ret
  exact ⟨rfl, rfl⟩

/-- What Text answers. -/
def txtN (l : List Rec) : Int := if arcF dgsL l ≠ 0 then arcF dgsL l else if 500000 < (textA l).length then 2 else 0
def txtB (l : List Rec) : ByteArray := if txtN l ≠ 0 then ⟨#[]⟩ else bs (textA l)
theorem txtN_bad {l : List Rec} (h : arcF dgsL l ≠ 0) : txtN l = arcF dgsL l := by unfold txtN; rw [if_pos h]
theorem txtN_big {l : List Rec} (h : arcF dgsL l = 0) {j : Nat} (hj : 500000 < (textA (l.take j)).length) : txtN l = 2 := by
  unfold txtN
  have := text_le (l := l) j
  rw [if_neg (fun k => k h), if_pos (by omega)]
theorem txtN_ok {l : List Rec} (h : arcF dgsL l = 0) (hj : (textA l).length ≤ 500000) : txtN l = 0 := by
  unfold txtN
  rw [if_neg (fun k => k h), if_neg (by omega)]
theorem txtB_no {l : List Rec} (h : txtN l ≠ 0) : txtB l = ⟨#[]⟩ := by unfold txtB; rw [if_pos h]
theorem txtB_yes {l : List Rec} (h : txtN l = 0) : txtB l = bs (textA l) := by unfold txtB; rw [if_neg (fun k => k h)]
def RetTt (l : List Rec) (w : World) (e : Ending) (w' : World) : Prop := e = .returned (.tuple #[.string (txtB l), .int .i64 (txtN l)]) ∧ Below w.heap.size w w'
theorem RetTt.of {l : List Rec} {s : ByteArray} {x : Int} {w w' : World} (h1 : s = txtB l) (h2 : x = txtN l) (hb : Below w.heap.size w w') : RetTt l w (.returned (.tuple #[.string s, .int .i64 x])) w' := ⟨by rw [h1, h2], hb⟩
theorem textc_line (r : Rec) : lineA r ++ [10] = (bodyB r).data.toList ++ [32] ++ (if r.drop = true then [100, 114, 111, 112, 112, 101, 100, 10] else 58 :: r.text.data.toList ++ [10]) := by
  unfold lineA restA bodyB
  split <;> simp [wDrop]
set_option maxHeartbeats 4000000 in
set_option maxRecDepth 100000 in
theorem atext_c (A : Option Addr) (c : Nat) (l : List Rec) (w : World) (hn : l.length ≤ 9223372036854775807) (hl : RecsZ w A l) (hz : ZCell w) (ht : TabA w) :
    Calls Tryz.prog 9 #[.slice A l.length c] w (RetTt l w) := by
  have HCK := Lib.hid (chkarc_c A c l w hn hl hz)
  have HL := Lib.hid hl
  have HT := Lib.hid ht
  obtain ⟨m, hm⟩ : ∃ m, l.length = m := ⟨_, rfl⟩
  have HM := Lib.hid hm
  by_cases h0 : arcF dgsL l = 0
  case neg =>
    obtain ⟨F, hF⟩ : ∃ F, arcF dgsL l = F := ⟨_, rfl⟩
    have HN := Lib.hid (show F = txtN l by rw [txtN_bad h0, hF])
    have HB := Lib.hid (show (⟨#[]⟩ : ByteArray) = txtB l from (txtB_no (by rw [txtN_bad h0]; exact h0)).symm)
    rw [hF] at HCK h0
    rw [hm] at HCK ⊢
    have hf' : (F == 0) = false := by simpa using h0
    clear hn hl hz ht hm hF h0
    go_enter Tryz.func9, Tryz.ntmps9
    go_wp2_with fail
    refine HCK.out.mono ?_
    rintro e w1 ⟨rfl, hb1⟩
    go_wp2
    go_ret2
    exact RetTt.of HB.out HN.out hb1
  have HRK := Lib.hid (arc_recs h0)
  have H0 := Lib.hid h0
  rw [h0] at HCK
  have hm2 : m ≤ 2000 := by have := HRK.out.1; omega
  rw [hm] at HCK ⊢
  clear hn hl hz ht hm h0
  go_enter Tryz.func9, Tryz.ntmps9
  go_wp2_with fail
  refine HCK.out.mono ?_
  rintro e w1 ⟨rfl, hb1⟩
  have hB0 := Lib.hid (Bld.new w1)
  have hB2 := Lib.hid (hb1.alloc hb1.size (.cells #[.pointer none, .slice none 0 0] 50))
  have hwb : w.heap.size ≤ w1.heap.size := hb1.size
  obtain ⟨b, hb⟩ : ∃ b, w1.heap.size = b := ⟨_, rfl⟩
  rw [hb] at hB0 hwb
  clear hb1
  go_wp2
  clear hb
  generalize w1.alloc (.cells #[.pointer none, .slice none 0 0] 50) = w2 at hB0 hB2 ⊢
  go_loopw [15] (fun i wr => ∃ k : Nat, k ≤ m ∧ i = .int .i64 k ∧ Hid (Below w.heap.size w wr) ∧ Hid (Bld wr b (textA (l.take k))) ∧ Hid ((textA (l.take k)).length ≤ 500000)) (fun i _ => m - (intOf i).toNat)
  case atStart => exact ⟨0, Nat.zero_le _, rfl, hB2, hB0, Lib.hid (Nat.zero_le _)⟩
  case round =>
    obtain ⟨k, hk, rfl, HB, HD, HLN⟩ := hrel
    rcases Nat.lt_or_ge k m with hlt | hge
    · have hltj : k < l.length := by rw [HM.out]; exact hlt
      obtain ⟨rb, off, rfl, hrb, hc⟩ := (Rws.below HL.out.2 HB.out).get hltj
      have c0 := hc 0 (by decide); have c1 := hc 1 (by decide); have c2 := hc 2 (by decide); have c3 := hc 3 (by decide); have c4 := hc 4 (by decide); have c5 := hc 5 (by decide)
      simp only [recV, Nat.add_zero] at c0 c1 c2 c3 c4 c5
      obtain ⟨x, hx⟩ : ∃ x, arA l k = x := ⟨_, rfl⟩
      have HRX := Lib.hid (show RecK x by rw [← hx]; exact HRK.out.2 k hltj)
      have HTK := Lib.hid (show textA (l.take (k + 1)) = textA (l.take k) ++ ((bodyB x).data.toList ++ [32] ++ (if x.drop = true then [100, 114, 111, 112, 112, 101, 100, 10] else 58 :: x.text.data.toList ++ [10])) by rw [text_take hltj, hx, textc_line])
      have HBIG := Lib.hid (fun h => txtN_big (l := l) H0.out (j := k + 1) h)
      rw [hx] at c0 c1 c2 c3 c4 c5
      obtain ⟨L, hL⟩ : ∃ L, textA (l.take k) = L := ⟨_, rfl⟩
      rw [hL] at HTK HD HLN
      obtain ⟨L2, hL2⟩ : ∃ L2, textA (l.take (k + 1)) = L2 := ⟨_, rfl⟩
      rw [hL2] at HTK HBIG
      have HL2 := Lib.hid hL2
      have hbk := bodyB_len HRX.out
      have hxt := (recSz HRX.out).2.2.2.1
      obtain ⟨Y, hY⟩ : ∃ Y, bodyB x = Y := ⟨_, rfl⟩
      have HBO := Lib.hid (show ∀ w', Below w.heap.size w w' → Calls Tryz.prog 18 #[recG x] w' fun e w'' => e = .returned (.string Y) ∧ Below w'.heap.size w' w'' from fun w' hb => by rw [← hY]; exact body_c x w' HRX.out (HT.out.below hb))
      unfold recG at HBO
      rw [hY] at HTK hbk
      clear hc hx hL hL2 hY HRX
      obtain ⟨t, kd, ky, dg, dp, tx⟩ := x
      dsimp only at c0 c1 c2 c3 c4 c5 HBO HTK hxt
      have hc1 : ¬ 9223372036854775807 < Y.size + 1 := by omega
      have hc2 : ¬ 9223372036854775807 < 1 + tx.size := by omega
      have hc3 : ¬ 9223372036854775807 < 1 + tx.size + 1 := by omega
      have HNE := Lib.hid (show wr.heap.size ≠ b by have := HD.out.lt; omega)
      have hX0 := Lib.hid (heap_new wr (.cells #[.int .i64 t, .string kd, .string ky, .string dg, .bool dp, .string tx] 45) rfl)
      have hb1 := Lib.hid (HB.out.alloc HB.out.size (.cells #[.int .i64 t, .string kd, .string ky, .string dg, .bool dp, .string tx] 45))
      have hbw := Lib.hid (show Below wr.heap.size wr (wr.alloc (.cells #[.int .i64 t, .string kd, .string ky, .string dg, .bool dp, .string tx] 45)) from (Below.refl _ _).alloc (Nat.le_refl _) _)
      go_wp2_with fail
      generalize wr.alloc (.cells #[.int .i64 t, .string kd, .string ky, .string dg, .bool dp, .string tx] 45) = w3 at hX0 hb1 hbw ⊢
      refine (HBO.out _ hb1.out).mono ?_
      rintro e w4 ⟨rfl, hb4⟩
      have hX4 := Lib.hid (heap_below hX0.out hb4)
      have hb5 := Lib.hid (below_then hb4 hb1.out hb1.out.size)
      have HD4 := Lib.hid (HD.out.below (below_then hb4 hbw.out hbw.out.size))
      clear hb4
      go_wp2_with fail
      refine (write_c b L _ w4 HD4.out (by have := HLN.out; have e1 : (⟨#[32]⟩ : ByteArray).size = 1 := rfl; have e2 : (⟨#[58]⟩ : ByteArray).size = 1 := rfl; have e3 : (⟨#[10]⟩ : ByteArray).size = 1 := rfl; have e4 : (⟨#[100, 114, 111, 112, 112, 101, 100, 10]⟩ : ByteArray).size = 8 := rfl; simp; omega)).mono ?_
      rintro e w5 ⟨rfl, hbl, hbz, hkp⟩
      have hX5 := Lib.hid (hkp _ _ _ _ hX4.out HNE.out (by decide))
      have hb6 := Lib.hid (hb5.out.trans (hbz.mono hwb))
      rw [show (Y ++ (⟨#[32]⟩ : ByteArray)).data.toList = Y.data.toList ++ [32] by simp] at hbl
      have HBL := Lib.hid hbl
      have hX7 := hX5.out
      clear hbl hbz hkp
      obtain ⟨⟨-, -, -, -, g4, g5⟩, -⟩ := obox6 hX7
      clear hX7
      cases dp with
      | true =>
        have HTK2 := Lib.hid (show L2 = L ++ (Y.data.toList ++ [32]) ++ [100, 114, 111, 112, 112, 101, 100, 10] by rw [HTK.out]; simp)
        clear HTK g5
        go_wp2_with fail
        refine (write_c b _ _ w5 HBL.out (by have := HLN.out; have e1 : (⟨#[32]⟩ : ByteArray).size = 1 := rfl; have e2 : (⟨#[58]⟩ : ByteArray).size = 1 := rfl; have e3 : (⟨#[10]⟩ : ByteArray).size = 1 := rfl; have e4 : (⟨#[100, 114, 111, 112, 112, 101, 100, 10]⟩ : ByteArray).size = 8 := rfl; simp; omega)).mono ?_
        rintro e w6 ⟨rfl, hbl, hbz, hkp⟩
        rw [show (⟨#[100, 114, 111, 112, 112, 101, 100, 10]⟩ : ByteArray).data.toList = [100, 114, 111, 112, 112, 101, 100, 10] from rfl, ← HTK2.out] at hbl
        have HBL6 := Lib.hid hbl
        have hb7 := Lib.hid (hb6.out.trans (hbz.mono hwb))
        clear hbl hbz hkp
        by_cases hbig : 500000 < L2.length
        · have hbig' : (500000 : Int) < (L2.length : Int) := by omega
          have HN := Lib.hid (HBIG.out hbig)
          have HS := Lib.hid (show (⟨#[]⟩ : ByteArray) = txtB l from (txtB_no (by rw [HN.out]; decide)).symm)
          clear hbig HBIG
          go_wp2_with fail
          refine (blen_c b L2 w6 HBL6.out).mono ?_
          rintro e w7 ⟨rfl, rfl⟩
          go_wp2
          go_ret2
          exact RetTt.of HS.out HN.out.symm hb7.out
        · have hbig' : ¬ (500000 : Int) < (L2.length : Int) := by omega
          have HLE := Lib.hid (show L2.length ≤ 500000 by omega)
          clear hbig HBIG
          go_wp2_with fail
          refine (blen_c b L2 w6 HBL6.out).mono ?_
          rintro e w7 ⟨rfl, rfl⟩
          go_wp2
          go_roundw
          case rel => exact ⟨k + 1, by omega, by go_num, hb7, by rw [HL2.out]; exact HBL6, by rw [HL2.out]; exact HLE⟩
          case measure => simp [intOf]; omega
      | false =>
        have HTK2 := Lib.hid (show L2 = L ++ (Y.data.toList ++ [32]) ++ (58 :: tx.data.toList ++ [10]) by rw [HTK.out]; simp)
        clear HTK
        go_wp2_with fail
        refine (write_c b _ _ w5 HBL.out (by have := HLN.out; have e1 : (⟨#[32]⟩ : ByteArray).size = 1 := rfl; have e2 : (⟨#[58]⟩ : ByteArray).size = 1 := rfl; have e3 : (⟨#[10]⟩ : ByteArray).size = 1 := rfl; have e4 : (⟨#[100, 114, 111, 112, 112, 101, 100, 10]⟩ : ByteArray).size = 8 := rfl; simp; omega)).mono ?_
        rintro e w6 ⟨rfl, hbl, hbz, hkp⟩
        rw [show ((⟨#[58]⟩ : ByteArray) ++ tx ++ (⟨#[10]⟩ : ByteArray)).data.toList = 58 :: tx.data.toList ++ [10] by simp, ← HTK2.out] at hbl
        have HBL6 := Lib.hid hbl
        have hb7 := Lib.hid (hb6.out.trans (hbz.mono hwb))
        clear hbl hbz hkp
        by_cases hbig : 500000 < L2.length
        · have hbig' : (500000 : Int) < (L2.length : Int) := by omega
          have HN := Lib.hid (HBIG.out hbig)
          have HS := Lib.hid (show (⟨#[]⟩ : ByteArray) = txtB l from (txtB_no (by rw [HN.out]; decide)).symm)
          clear hbig HBIG
          go_wp2_with fail
          refine (blen_c b L2 w6 HBL6.out).mono ?_
          rintro e w7 ⟨rfl, rfl⟩
          go_wp2
          go_ret2
          exact RetTt.of HS.out HN.out.symm hb7.out
        · have hbig' : ¬ (500000 : Int) < (L2.length : Int) := by omega
          have HLE := Lib.hid (show L2.length ≤ 500000 by omega)
          clear hbig HBIG
          go_wp2_with fail
          refine (blen_c b L2 w6 HBL6.out).mono ?_
          rintro e w7 ⟨rfl, rfl⟩
          go_wp2
          go_roundw
          case rel => exact ⟨k + 1, by omega, by go_num, hb7, by rw [HL2.out]; exact HBL6, by rw [HL2.out]; exact HLE⟩
          case measure => simp [intOf]; omega
    · obtain rfl : k = m := by omega
      have HTL := Lib.hid (show textA (l.take k) = textA l by rw [← HM.out, List.take_length])
      rw [HTL.out] at HD HLN
      have HN := Lib.hid (txtN_ok H0.out HLN.out)
      have HS := Lib.hid (txtB_yes HN.out)
      go_wp2_with fail
      refine (bstr_c b _ wr HD.out).mono ?_
      rintro e w6 ⟨rfl, hbz⟩
      go_wp2
      go_ret2
      exact RetTt.of HS.out.symm HN.out.symm (HB.out.trans (hbz.mono hwb))
end Go.Proofs.YtcfhaljkemaefaaGreatDoor
