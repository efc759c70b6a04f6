
/- The walk of the law FlatFormatsMatchSpec. -/
import Derived.Test.YtfgnollclmimnaaGreatDoorH8
import Derived.Test.YtfgnollclmimnaaGreatDoorFH
namespace Go.Proofs.YtfgnollclmimnaaGreatDoor
open Go.RowKit Limb Nmb Work
set_option linter.unusedVariables false
set_option linter.unusedSimpArgs false

set_option maxHeartbeats 2000000 in
set_option maxRecDepth 100000 in
theorem law_fmts (f : Fmt) (A : Option Addr) (c : Nat) (FA : Nat → Option Addr) (FC : Nat → Nat) (m0 : Int) (w : World) (ho : Kinds w A f.kinds FA FC) (hc : f.kinds.length ≤ c) (hm : 0 ≤ f.mark ∧ f.mark ≤ 255) (hq : 0 ≤ f.quote ∧ f.quote ≤ 255) (ht : Tab6 w) (hm0 : w.cell? ⟨0, 0, none⟩ = some (.int .i64 m0)) :
    Calls Tryz.prog 4 #[fmtG f A c] w fun e w' => e = .returned (.bool true) ∧ Below w.heap.size w w' := by
  have HA := Lib.hid (fun w h ht => text_c f A c FA FC w h hc hm hq ht)
  have HB := Lib.hid (fun w h ht => rtext_c6 f A c FA FC w h hc hm hq ht)
  have HRD := Lib.hid (fun h => text_read (f := f) h hm hq)
  have HK := Lib.hid ho; have HT := Lib.hid ht; have HM := Lib.hid hm0
  obtain ⟨X, hX⟩ : ∃ x, checkF f = x := ⟨_, rfl⟩
  rw [hX] at HA HB HRD
  obtain ⟨SS, hSS⟩ : ∃ x, (if X = 0 then bs (textL f) else (⟨#[]⟩ : ByteArray)) = x := ⟨_, rfl⟩
  rw [hSS] at HA HB
  have HSS := Lib.hid (show X = 0 → bs (textL f) = SS from fun h => by rw [← hSS, if_pos h])
  clear hX hSS ho ht hm0
  have HSM := Lib.hid (fun A A' c c' FA FA' FC FC' w h h' => samefmt_c f A A' c c' FA FA' FC FC' w h h')
  obtain ⟨m, q, ks, hd, tl, ct, sm⟩ := f
  unfold fmtG at HA HB HSM ⊢
  unfold RetTx at HA HB
  simp only at HA HB HSM HK hm hq hc ⊢
  have HP := Lib.hid (heap_new w (.cells #[.int .u8 m, .int .u8 q, .slice A ks.length c, .string hd, .string tl, .string ct, .string sm] 24) rfl)
  have HB1 : Hid (Below w.heap.size w (w.alloc (.cells #[.int .u8 m, .int .u8 q, .slice A ks.length c, .string hd, .string tl, .string ct, .string sm] 24))) := Lib.hid (by go_grown)
  go_enter Tryz.func4, Tryz.ntmps4
  go_upto_region 1 with fail
  generalize w.alloc (.cells #[.int .u8 m, .int .u8 q, .slice A ks.length c, .string hd, .string tl, .string ct, .string sm] 24) = w1 at HP HB1 ⊢
  obtain ⟨⟨r0, r1, r2, r3, r4, r5, r6⟩, -, -⟩ := obox7f HP.out
  go_wp2_with fail
  refine (HA.out _ (HK.out.below HB1.out) (HT.out.below HB1.out)).mono ?_
  rintro e w2 ⟨rfl, hb2⟩
  have HP2 := Lib.hid (heap_below HP.out hb2); have HB2 := Lib.hid (below_then hb2 HB1.out HB1.out.size)
  clear r0 r1 r2 r3 r4 r5 r6 HP HB1 hb2 HA
  obtain ⟨⟨r0, r1, r2, r3, r4, r5, r6⟩, -, -⟩ := obox7f HP2.out
  go_wp2_with fail
  refine (HB.out _ (HK.out.below HB2.out) (HT.out.below HB2.out)).mono ?_
  rintro e w3 ⟨rfl, hb3⟩
  have HP3 := Lib.hid (heap_below HP2.out hb3); have HB3 := Lib.hid (below_then hb3 HB2.out HB2.out.size)
  clear r0 r1 r2 r3 r4 r5 r6 HP2 HB2 hb3 HB
  have HM3 := Lib.hid ((HB3.out.cell (p := ⟨0, 0, none⟩) (World.block_lt_of_cell? _ _ HM.out)).trans HM.out)
  go_wp2_with fail
  refine (awake6_c m0 w3 HM3.out).mono ?_
  rintro e w4 ⟨rfl, hb4⟩
  have HP4 := Lib.hid (heap_below HP3.out hb4); have HB4 := Lib.hid (below_then hb4 HB3.out HB3.out.size)
  clear HP3 HB3 hb4 HM3
  by_cases hx : X = 0
  case neg =>
    have hxa : (X != 0) = true := by simpa using hx
    have hxb : (X == 0) = false := by simpa using hx
    clear hx
    go_wp2
    go_ret
    exact ⟨rfl, HB4.out⟩
  subst hx
  have hrd := HRD.out rfl
  rw [HSS.out rfl] at hrd
  have HM4 := Lib.hid ((HB4.out.cell (p := ⟨0, 0, none⟩) (World.block_lt_of_cell? _ _ HM.out)).trans HM.out)
  have HRF := Lib.hid (readfmt_c SS m0 w4 HM4.out)
  rw [hrd] at HRF
  unfold RetRF at HRF
  clear hrd HRD HSS
  go_wp2_with fail
  refine HRF.out.mono ?_
  rintro e w5 ⟨f', A', c', FA', FC', n', x', rfl, hr, hK, -, -, -, hb5⟩
  injection hr with h1 h2
  injection h2 with h2 h3
  subst h1; subst h2; subst h3
  have HP5 := Lib.hid (heap_below HP4.out hb5); have HB5 := Lib.hid (below_then hb5 HB4.out HB4.out.size)
  have HKr := Lib.hid hK
  have HQ := Lib.hid (heap_new w5 (.cells #[.int .u8 m, .int .u8 q, .slice A' ks.length c', .string hd, .string tl, .string ct, .string sm] 24) rfl)
  have hbn : Below w5.heap.size w5 (w5.alloc (.cells #[.int .u8 m, .int .u8 q, .slice A' ks.length c', .string hd, .string tl, .string ct, .string sm] 24)) := by go_grown
  have HP6 := Lib.hid (heap_below HP5.out hbn); have HB6 := Lib.hid (below_then hbn HB5.out HB5.out.size)
  have HK6 := Lib.hid (HK.out.below HB6.out); have HKr6 := Lib.hid (HKr.out.below hbn)
  clear HP4 HB4 HP5 HB5 hb5 hK HRF HM4
  unfold fmtG
  go_upto_region 8 with fail
  obtain ⟨p2, hp2⟩ : ∃ x, w5.heap.size = x := ⟨_, rfl⟩
  rw [hp2] at HQ ⊢
  generalize w5.alloc (.cells #[.int .u8 m, .int .u8 q, .slice A' ks.length c', .string hd, .string tl, .string ct, .string sm] 24) = w6 at HQ HP6 HB6 HK6 HKr6 ⊢
  clear hbn HKr
  obtain ⟨⟨r0, r1, r2, r3, r4, r5, r6⟩, -, -⟩ := obox7f HP6.out
  obtain ⟨⟨s0, s1, s2, s3, s4, s5, s6⟩, -, -⟩ := obox7f HQ.out
  go_wp2_with fail
  refine (HSM.out A A' c c' FA FA' FC FC' w6 HK6.out HKr6.out).mono ?_
  rintro e w7 ⟨rfl, hb7⟩
  have HB7 := Lib.hid (below_then hb7 HB6.out HB6.out.size)
  go_wp2
  go_ret
  exact ⟨rfl, HB7.out⟩
theorem law_fmts_i (f : Fmt) (A : Option Addr) (c : Nat) (FA : Nat → Option Addr) (FC : Nat → Nat) (w : World) (ho : Kinds w A f.kinds FA FC) (hc : f.kinds.length ≤ c) (hm : 0 ≤ f.mark ∧ f.mark ≤ 255) (hq : 0 ≤ f.quote ∧ f.quote ≤ 255) (ht : Lib.TabIs Tryz.prog w "internal/strconv.uint64pow10" .u64 Lib.pow10Tab) (hm0 : ∃ m, w.cell? ⟨0, 0, none⟩ = some (.int .i64 m)) :
    Calls Tryz.prog 4 #[.agg #[.int .u8 f.mark, .int .u8 f.quote, .slice A f.kinds.length c, .string f.head, .string f.tail, .string f.count, .string f.sum]] w fun e w' => e = .returned (.bool true) ∧ Below w.heap.size w w' := by
  obtain ⟨m0, hm0⟩ := hm0
  exact law_fmts f A c FA FC m0 w ho hc hm hq ht hm0
end Go.Proofs.YtfgnollclmimnaaGreatDoor
