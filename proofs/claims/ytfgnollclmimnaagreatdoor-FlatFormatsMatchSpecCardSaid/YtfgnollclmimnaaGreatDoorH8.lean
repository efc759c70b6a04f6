
/- The walk of the reference's Text (under way). (Printed by genH4.py.) -/
import Derived.Test.YtfgnollclmimnaaGreatDoorH7
import Derived.Test.YtfgnollclmimnaaGreatDoorG5
namespace Go.Proofs.YtfgnollclmimnaaGreatDoor
open Go.RowKit Limb Nmb Work
set_option linter.unusedVariables false
set_option linter.unusedSimpArgs false

set_option maxHeartbeats 4000000 in
set_option maxRecDepth 100000 in
theorem rtext_c6 (f : Fmt) (A : Option Addr) (c : Nat) (FA : Nat → Option Addr) (FC : Nat → Nat) (w : World) (ho : Kinds w A f.kinds FA FC) (hc : f.kinds.length ≤ c) (hm : 0 ≤ f.mark ∧ f.mark ≤ 255) (hq : 0 ≤ f.quote ∧ f.quote ≤ 255) (ht : Tab6 w) :
    Calls Tryz.prog 10 #[fmtG f A c] w (RetTx (checkF f) (if checkF f = 0 then bs (textL f) else ⟨#[]⟩) w) := by
  obtain ⟨X, hX⟩ : ∃ x, checkF f = x := ⟨_, rfl⟩
  have HX := Lib.hid hX
  have HCH := Lib.hid (fun w h => rcheck_c f A c FA FC w h hc hm hq)
  have HKI := Lib.hid ho
  have HT0 := Lib.hid ht
  have HFR := Lib.hid (fun h => fmt_right (f := f) h hm hq)
  rw [hX] at HCH HFR ⊢
  obtain ⟨TX, hTX⟩ : ∃ x, textL f = x := ⟨_, rfl⟩
  have HTX := Lib.hid hTX
  rw [hTX]
  obtain ⟨SS, hSS⟩ : ∃ x, (if X = 0 then bs TX else (⟨#[]⟩ : ByteArray)) = x := ⟨_, rfl⟩
  have HSS := Lib.hid hSS
  rw [hSS]
  clear hSS
  have HPT := Lib.hid (text_parts f)
  rw [hTX] at HPT
  obtain ⟨m, q, ks, hd, tl, ct, sm⟩ := f
  unfold fmtG at HCH ⊢
  simp only at HCH HKI hm hq HPT hc ⊢
  obtain ⟨nk, hnk⟩ : ∃ x, ks.length = x := ⟨_, rfl⟩
  have HNK := Lib.hid hnk
  rw [hnk] at HCH hc ⊢
  have HF := Lib.hid (heap_new w (.cells #[.int .u8 m, .int .u8 q, .slice A nk c, .string hd, .string tl, .string ct, .string sm] 24) rfl)
  have HB : Hid (Below w.heap.size w (w.alloc (.cells #[.int .u8 m, .int .u8 q, .slice A nk c, .string hd, .string tl, .string ct, .string sm] 24))) := Lib.hid (by go_grown)
  have hnb : nk ≤ 9223372036854775807 := by rw [← hnk]; exact ho.1.2
  clear hX hTX hnk ho ht
  go_enter Tryz.func10, Tryz.ntmps10
  go_upto_region 1 with fail
  generalize w.alloc (.cells #[.int .u8 m, .int .u8 q, .slice A nk c, .string hd, .string tl, .string ct, .string sm] 24) = w1 at HF HB ⊢
  obtain ⟨⟨f0, f1, f2, f3, f4, f5, f6⟩, f7⟩ := obox7 HF.out
  go_wp2_with fail
  refine (HCH.out _ (HKI.out.below HB.out)).mono ?_
  rintro e w2 ⟨rfl, hb2⟩
  have HFn := Lib.hid (heap_below HF.out hb2); have HBn := Lib.hid (below_then hb2 HB.out HB.out.size)
  clear f0 f1 f2 f3 f4 f5 f6 f7
  clear HF HB hb2 HCH
  have HF := HFn; have HB := HBn
  clear HFn HBn
  obtain ⟨⟨f0, f1, f2, f3, f4, f5, f6⟩, f7⟩ := obox7 HF.out
  by_cases hx : X = 0
  case neg =>
    have hxa : (X != 0) = true := by simpa using hx
    have hxb : (X == 0) = false := by simpa using hx
    have HEND := Lib.hid (show RetTx X SS w (.returned (.tuple #[.string ⟨#[]⟩, .int .i64 X])) w2 from ⟨by rw [← HSS.out, if_neg hx], HB.out⟩)
    clear hx
    go_wp2
    go_ret2
    exact HEND.out
  subst hx
  obtain ⟨hR, hZ⟩ := HFR.out rfl
  have HR := Lib.hid hR; have HZ := Lib.hid hZ
  clear hR hZ HFR
  go_upto_if 17 with fail
  go_cut [5] (fun v wx => v = .string (bs (lnT (headT ⟨m, q, ks, hd, tl, ct, sm⟩))) ∧ Hid (wx.heap[w.heap.size]? = some (.cells #[.int .u8 m, .int .u8 q, .slice A nk c, .string hd, .string tl, .string ct, .string sm] 24 (0, 0))) ∧ Hid (Below w.heap.size w wx))
  case first =>
    by_cases hm0 : m = 0
    · have e1 : (m == 0) = true := by simpa using hm0
      have HH := Lib.hid (show bs (lnT (headT ⟨m, q, ks, hd, tl, ct, sm⟩)) = (⟨#[102, 105, 120, 101, 100, 10]⟩ : ByteArray) by unfold headT; rw [if_pos hm0]; rfl)
      clear hm0
      go_wp2_with fail
      go_meet
      exact ⟨by rw [HH.out]; rfl, HF, HB⟩
    · have e1 : (m == 0) = false := by simpa using hm0
      have HWM := Lib.hid (show headT ⟨m, q, ks, hd, tl, ct, sm⟩ = [wMarked.data.toList, Lib.itoa m, Lib.itoa q] by unfold headT; rw [if_neg hm0])
      have hwm : IntKind.i64.wrap m = m := IntWalk.i64_in _ (by omega)
      have hwq : IntKind.i64.wrap q = q := IntWalk.i64_in _ (by omega)
      have HIm := Lib.hid (fun w h => itoa6_c m w (by omega) h); have HIq := Lib.hid (fun w h => itoa6_c q w (by omega) h)
      unfold RetS6 at HIm HIq
      have hl1 := (num_all (n := m) (by omega)).2.2.2
      have hl2 := (num_all (n := q) (by omega)).2.2.2
      rw [← bs_size] at hl1 hl2
      obtain ⟨s_m, hsm⟩ : ∃ x, bs (Lib.itoa m) = x := ⟨_, rfl⟩
      obtain ⟨s_q, hsq⟩ : ∃ x, bs (Lib.itoa q) = x := ⟨_, rfl⟩
      rw [hsm] at HIm hl1
      rw [hsq] at HIq hl2
      have HSM := Lib.hid hsm; have HSQ := Lib.hid hsq
      have hc1 : ¬ (9223372036854775807 < 7 + s_m.size) := by omega
      have hc2 : ¬ (9223372036854775807 < 7 + s_m.size + 1) := by omega
      have hc3 : ¬ (9223372036854775807 < 7 + s_m.size + 1 + s_q.size) := by omega
      have hc4 : ¬ (9223372036854775807 < 7 + s_m.size + 1 + s_q.size + 1) := by omega
      clear hm0 hsm hsq
      have HSB := Lib.hid (show ∀ wx, Below w2.heap.size w2 wx → (fun w' : World => w'.cell? ⟨w.heap.size, 0, none⟩ = some (.int .u8 m) ∧ w'.cell? ⟨w.heap.size, 1, none⟩ = some (.int .u8 q)) wx from fun wx T => ⟨(T.cell (p := ⟨w.heap.size, 0, none⟩) f7).trans f0, (T.cell (p := ⟨w.heap.size, 1, none⟩) f7).trans f1⟩)
      go_upto_region 7 with fail
      refine region_till 14 (fun w' => w'.cell? ⟨w.heap.size, 0, none⟩ = some (.int .u8 m) ∧ w'.cell? ⟨w.heap.size, 1, none⟩ = some (.int .u8 q)) (by kernel_rfl) ?_
      have hT : (fun w' : World => w'.cell? ⟨w.heap.size, 0, none⟩ = some (.int .u8 m) ∧ w'.cell? ⟨w.heap.size, 1, none⟩ = some (.int .u8 q)) w2.drew := ⟨f0, f1⟩
      refine Till.take (i := 0) (v := ?_) rfl (by kernel_rfl) (by kernel_rfl) (by kernel_rfl) [13] (by kernel_rfl) (by decide) (by kernel_rfl) (by kernel_rfl) (fun _ _ _ h => h) hT (Or.inl ⟨by rfl, ?_⟩) ?_
      rotate_left
      · (intro w' hw'; obtain ⟨u1, u2⟩ := hw'; go_simp; try with_reducible rfl)
      (try simp only [Act.put, List.setIfInBounds_toArray, List.set_cons_zero, List.set_cons_succ])
      refine Till.take (i := 1) (v := ?_) rfl (by kernel_rfl) (by kernel_rfl) (by kernel_rfl) [2, 3, 4, 5, 6, 11, 12, 13] (by kernel_rfl) (by decide) (by kernel_rfl) (by kernel_rfl) (fun _ _ _ h => h) hT (Or.inl ⟨by rfl, ?_⟩) ?_
      rotate_left
      · (intro w' hw'; obtain ⟨u1, u2⟩ := hw'; go_simp; try with_reducible rfl)
      (try simp only [Act.put, List.setIfInBounds_toArray, List.set_cons_zero, List.set_cons_succ])
      refine Till.take (i := 2) (v := ?_) rfl (by kernel_rfl) (by kernel_rfl) (by kernel_rfl) [3, 4, 5, 6, 11, 12, 13] (by kernel_rfl) (by decide) (by kernel_rfl) (by kernel_rfl) (fun _ _ _ h => h) hT (Or.inl ⟨by rfl, ?_⟩) ?_
      rotate_left
      · (intro w' hw'; obtain ⟨u1, u2⟩ := hw'; go_simp; try with_reducible rfl)
      (try simp only [Act.put, List.setIfInBounds_toArray, List.set_cons_zero, List.set_cons_succ])
      refine Till.take (i := 3) (v := ?_) rfl (by kernel_rfl) (by kernel_rfl) (by kernel_rfl) [4, 5, 6, 11, 12, 13] (by kernel_rfl) (by decide) (by kernel_rfl) (by kernel_rfl) (fun _ _ _ h => h) hT (Or.inl ⟨by rfl, ?_⟩) ?_
      rotate_left
      · (intro w' hw'; obtain ⟨u1, u2⟩ := hw'; go_simp; try with_reducible rfl)
      (try simp only [Act.put, List.setIfInBounds_toArray, List.set_cons_zero, List.set_cons_succ])
      refine Till.take (i := 7) (v := ?_) rfl (by kernel_rfl) (by kernel_rfl) (by kernel_rfl) [8, 9, 10, 11, 12, 13] (by kernel_rfl) (by decide) (by kernel_rfl) (by kernel_rfl) (fun _ _ _ h => h) hT (Or.inl ⟨by rfl, ?_⟩) ?_
      rotate_left
      · (intro w' hw'; obtain ⟨u1, u2⟩ := hw'; go_simp; try with_reducible rfl)
      (try simp only [Act.put, List.setIfInBounds_toArray, List.set_cons_zero, List.set_cons_succ])
      refine Till.take (i := 8) (v := ?_) rfl (by kernel_rfl) (by kernel_rfl) (by kernel_rfl) [9, 10, 11, 12, 13] (by kernel_rfl) (by decide) (by kernel_rfl) (by kernel_rfl) (fun _ _ _ h => h) hT (Or.inl ⟨by rfl, ?_⟩) ?_
      rotate_left
      · (intro w' hw'; obtain ⟨u1, u2⟩ := hw'; go_simp; try with_reducible rfl)
      (try simp only [Act.put, List.setIfInBounds_toArray, List.set_cons_zero, List.set_cons_succ])
      refine Till.take (i := 9) (v := ?_) rfl (by kernel_rfl) (by kernel_rfl) (by kernel_rfl) [10, 11, 12, 13] (by kernel_rfl) (by decide) (by kernel_rfl) (by kernel_rfl) (fun _ _ _ h => h) hT (Or.inl ⟨by rfl, ?_⟩) ?_
      rotate_left
      · (intro w' hw'; obtain ⟨u1, u2⟩ := hw'; go_simp; try with_reducible rfl)
      (try simp only [Act.put, List.setIfInBounds_toArray, List.set_cons_zero, List.set_cons_succ])
      refine Till.step (i := 4) (by kernel_rfl) rfl ?_
      intro K hK
      go_simp
      (go_at_call 20; refine (HIm.out _ (HT0.out.below HB.out.drew)).mono ?_; rintro e a1 ⟨rfl, b1⟩; (have T1 : Below w2.heap.size w2 a1 := ⟨b1.os, b1.tape, b1.output, b1.size, b1.block⟩))
      have hT : (fun w' : World => w'.cell? ⟨w.heap.size, 0, none⟩ = some (.int .u8 m) ∧ w'.cell? ⟨w.heap.size, 1, none⟩ = some (.int .u8 q)) a1 := HSB.out _ T1
      refine hK.out _ _ (fun _ => hT) ?_
      clear hK K
      (try simp only [Act.put, List.setIfInBounds_toArray, List.set_cons_zero, List.set_cons_succ])
      refine Till.take (i := 5) (v := ?_) rfl (by kernel_rfl) (by kernel_rfl) (by kernel_rfl) [6, 11, 12, 13] (by kernel_rfl) (by decide) (by kernel_rfl) (by kernel_rfl) (fun _ _ _ h => h) hT (Or.inl ⟨by rfl, ?_⟩) ?_
      rotate_left
      · (intro w' hw'; obtain ⟨u1, u2⟩ := hw'; go_simp; try with_reducible rfl)
      (try simp only [Act.put, List.setIfInBounds_toArray, List.set_cons_zero, List.set_cons_succ])
      refine Till.take (i := 6) (v := ?_) rfl (by kernel_rfl) (by kernel_rfl) (by kernel_rfl) [11, 12, 13] (by kernel_rfl) (by decide) (by kernel_rfl) (by kernel_rfl) (fun _ _ _ h => h) hT (Or.inl ⟨by rfl, ?_⟩) ?_
      rotate_left
      · (intro w' hw'; obtain ⟨u1, u2⟩ := hw'; go_simp; try with_reducible rfl)
      (try simp only [Act.put, List.setIfInBounds_toArray, List.set_cons_zero, List.set_cons_succ])
      refine Till.step (i := 10) (by kernel_rfl) rfl ?_
      intro K hK
      go_simp
      (go_at_call 20; refine (HIq.out _ (HT0.out.below (below_then T1 HB.out HB.out.size))).mono ?_; rintro e a2 ⟨rfl, b2⟩; (have T2 : Below w2.heap.size w2 a2 := T1.trans (b2.mono T1.size)))
      have hT : (fun w' : World => w'.cell? ⟨w.heap.size, 0, none⟩ = some (.int .u8 m) ∧ w'.cell? ⟨w.heap.size, 1, none⟩ = some (.int .u8 q)) a2 := HSB.out _ T2
      refine hK.out _ _ (fun _ => hT) ?_
      clear hK K
      (try simp only [Act.put, List.setIfInBounds_toArray, List.set_cons_zero, List.set_cons_succ])
      refine Till.take (i := 11) (v := ?_) rfl (by kernel_rfl) (by kernel_rfl) (by kernel_rfl) [12, 13] (by kernel_rfl) (by decide) (by kernel_rfl) (by kernel_rfl) (fun _ _ _ h => h) hT (Or.inl ⟨by rfl, ?_⟩) ?_
      rotate_left
      · (intro w' hw'; obtain ⟨u1, u2⟩ := hw'; go_simp; try with_reducible rfl)
      (try simp only [Act.put, List.setIfInBounds_toArray, List.set_cons_zero, List.set_cons_succ])
      refine Till.take (i := 12) (v := ?_) rfl (by kernel_rfl) (by kernel_rfl) (by kernel_rfl) [13] (by kernel_rfl) (by decide) (by kernel_rfl) (by kernel_rfl) (fun _ _ _ h => h) hT (Or.inl ⟨by rfl, ?_⟩) ?_
      rotate_left
      · (intro w' hw'; obtain ⟨u1, u2⟩ := hw'; go_simp; try with_reducible rfl)
      (try simp only [Act.put, List.setIfInBounds_toArray, List.set_cons_zero, List.set_cons_succ])
      refine Till.take (i := 13) (v := ?_) rfl (by kernel_rfl) (by kernel_rfl) (by kernel_rfl) [] (by kernel_rfl) (by decide) (by kernel_rfl) (by kernel_rfl) (fun _ _ _ h => h) hT (Or.inl ⟨by rfl, ?_⟩) ?_
      rotate_left
      · (intro w' hw'; obtain ⟨u1, u2⟩ := hw'; go_simp; try with_reducible rfl)
      (try simp only [Act.put, List.setIfInBounds_toArray, List.set_cons_zero, List.set_cons_succ])
      refine Till.step (i := 14) (by kernel_rfl) rfl ?_
      intro K hK
      go_simp
      refine hK.out _ _ (fun h => absurd h (by decide)) ?_
      clear hK K
      (try simp only [Act.put, List.setIfInBounds_toArray, List.set_cons_zero, List.set_cons_succ])
      refine Till.done (by kernel_rfl) ?_ _
      go_wp2_with fail
      go_meet
      refine ⟨?_, Lib.hid (heap_below HF.out T2), Lib.hid (below_then T2 HB.out HB.out.size)⟩
      rw [HWM.out, ← HSM.out, ← HSQ.out]
      congr 1
      apply ByteArray.ext
      simp [lnT, jn, bs, ByteArray.data_append, wMarked]
  case rest =>
  clear f0 f1 f2 f3 f4 f5 f6 f7
  clear HF HB
  obtain ⟨rfl, HF, HB⟩ := hcut
  generalize wc = w4 at HF HB ⊢
  obtain ⟨⟨f0, f1, f2, f3, f4, f5, f6⟩, f7⟩ := obox7 HF.out
  have HHL := Lib.hid (head_len HR.out)
  go_wp2_with fail
  go_loopw [5, 37] (fun v i wr => ∃ j : Nat, j ≤ nk ∧ v = .string (bs (lnT (headT ⟨m, q, ks, hd, tl, ct, sm⟩) ++ (ks.take j).flatMap (kndL6 m))) ∧ i = .int .i64 j ∧ Hid (wr.heap[w.heap.size]? = some (.cells #[.int .u8 m, .int .u8 q, .slice A nk c, .string hd, .string tl, .string ct, .string sm] 24 (0, 0))) ∧ Hid (Below w.heap.size w wr) ∧ Hid ((lnT (headT ⟨m, q, ks, hd, tl, ct, sm⟩) ++ (ks.take j).flatMap (kndL6 m)).length ≤ 200 + j * 10200)) (fun _ i _ => nk - (intOf i).toNat)
  case atStart => exact ⟨0, Nat.zero_le _, by simp, rfl, HF, HB, Lib.hid (by simpa using HHL.out)⟩
  case round =>
    clear f0 f1 f2 f3 f4 f5 f6 f7
    clear HF HB
    obtain ⟨j, hj, rfl, rfl, HF, HB, HLN⟩ := hrel
    have hnk30 : nk ≤ 30 := by rw [← HNK.out]; exact HZ.out.kinds
    obtain ⟨SP, hSP⟩ : ∃ x, bs (lnT (headT ⟨m, q, ks, hd, tl, ct, sm⟩) ++ (ks.take j).flatMap (kndL6 m)) = x := ⟨_, rfl⟩
    have HSP := Lib.hid hSP
    have hspz : SP.size ≤ 200 + j * 10200 := by rw [← hSP, bs_size]; exact HLN.out
    rw [hSP]
    clear hSP
    rcases Nat.lt_or_ge j nk with hlt | hge
    · have hjL : j < ks.length := by rw [HNK.out]; exact hlt
      obtain ⟨b0, off, rfl, hb0, a0, a1, a2, a3⟩ := (HKI.out.below HB.out).cells hjL
      have hmem : kA ks j ∈ ks := by rw [← kA_get hjL]; exact List.getElem_mem _
      have HKR := Lib.hid (HR.out.kinds _ hmem); have HKZ := Lib.hid (HZ.out.each _ hmem)
      have HCO := Lib.hid (HKI.out.2.2 j hjL).1
      have HTK := Lib.hid (knd_take (m := m) hjL)
      obtain ⟨AJ, hAJ⟩ : ∃ x, FA j = x := ⟨_, rfl⟩
      obtain ⟨CJ, hCJ⟩ : ∃ x, FC j = x := ⟨_, rfl⟩
      obtain ⟨k0, hk0⟩ : ∃ x, kA ks j = x := ⟨_, rfl⟩
      rw [hAJ] at HCO
      rw [hAJ, hCJ] at a1
      rw [hk0] at a0 a1 a2 a3 HKR HKZ HCO HTK
      obtain ⟨tg, fs, ms, un⟩ := k0
      simp only at a0 a1 a2 a3 HCO
      obtain ⟨nf, hnf⟩ : ∃ x, fs.length = x := ⟨_, rfl⟩
      have HNF := Lib.hid hnf
      rw [hnf] at a1
      have hnf50 : nf ≤ 50 := by have := HKZ.out.2.2; simp only at this; omega
      have hms := HKR.out.most
      simp only at hms
      have HIms := Lib.hid (fun w h => itoa6_c ms w hms h)
      have HOR := Lib.hid (fun w => or_c un w)
      unfold RetS6 at HIms
      have hl1 := (num_all hms).2.2.2
      have hl2 := dsh_len HKZ.out.2.1
      simp only at hl2
      have hl3 : tg.size ≤ 40 := HKZ.out.1
      rw [← bs_size] at hl1 hl2
      obtain ⟨s_ms, hsms⟩ : ∃ x, bs (Lib.itoa ms) = x := ⟨_, rfl⟩
      obtain ⟨s_un, hsun⟩ : ∃ x, bs (dshL un) = x := ⟨_, rfl⟩
      rw [hsms] at HIms hl1
      rw [hsun] at HOR hl2
      have HKL := Lib.hid (kind_len HKR.out ⟨HKZ.out.1, HKZ.out.2.1⟩)
      obtain ⟨LB, hLB⟩ : ∃ x, (lnT (headT ⟨m, q, ks, hd, tl, ct, sm⟩) ++ (ks.take j).flatMap (kndL6 m)) ++ lnT (kindT ⟨tg, fs, ms, un⟩) = x := ⟨_, rfl⟩
      have HLB := Lib.hid hLB
      have HLBN := Lib.hid (show LB.length ≤ 400 + j * 10200 by rw [← hLB, List.length_append]; have := HKL.out; have := HLN.out; omega)
      have HEQ := Lib.hid (show SP ++ ((⟨#[107, 105, 110, 100, 32]⟩ : ByteArray) ++ tg ++ ⟨#[32]⟩ ++ s_ms ++ ⟨#[32]⟩ ++ s_un ++ ⟨#[10]⟩) = bs LB from by
        rw [← hLB, ← HSP.out, ← hsms, ← hsun]
        apply ByteArray.ext
        simp [lnT, jn, bs, ByteArray.data_append, wKind, kindT])
      have hc1 : ¬ (9223372036854775807 < 5 + tg.size) := by omega
      have hc2 : ¬ (9223372036854775807 < 5 + tg.size + 1) := by omega
      have hc3 : ¬ (9223372036854775807 < 5 + tg.size + 1 + s_ms.size) := by omega
      have hc4 : ¬ (9223372036854775807 < 5 + tg.size + 1 + s_ms.size + 1) := by omega
      have hc5 : ¬ (9223372036854775807 < 5 + tg.size + 1 + s_ms.size + 1 + s_un.size) := by omega
      have hc6 : ¬ (9223372036854775807 < 5 + tg.size + 1 + s_ms.size + 1 + s_un.size + 1) := by omega
      have hc7 : ¬ (9223372036854775807 < SP.size + (5 + tg.size + 1 + s_ms.size + 1 + s_un.size + 1)) := by omega
      clear hAJ hCJ hk0 hnf hms hsms hsun hmem hjL hl1 hl2 hl3 hLB hspz
      obtain ⟨⟨f0, f1, f2, f3, f4, f5, f6⟩, f7⟩ := obox7 HF.out
      go_upto_region 11 with fail
      have HKn := Lib.hid (heap_new wr (.cells #[.string tg, .slice AJ nf CJ, .int .i64 ms, .string un] 48) rfl)
      have hgw : Below wr.heap.size wr (wr.alloc (.cells #[.string tg, .slice AJ nf CJ, .int .i64 ms, .string un] 48)) := by go_grown
      have HFn := Lib.hid (heap_below HF.out hgw); have HBn := Lib.hid (below_then hgw HB.out HB.out.size)
      obtain ⟨kb, hkb⟩ : ∃ x, wr.heap.size = x := ⟨_, rfl⟩
      rw [hkb] at HKn ⊢
      generalize wr.alloc (.cells #[.string tg, .slice AJ nf CJ, .int .i64 ms, .string un] 48) = v1 at HKn HFn HBn ⊢
      clear f0 f1 f2 f3 f4 f5 f6 f7
      clear HF HB hgw a0 a1 a2 a3 hb0 hkb
      have HF := HFn; have HB := HBn; have HK := HKn
      clear HFn HBn HKn
      obtain ⟨⟨g0, g1, g2, g3⟩, -, g5⟩ := obox4 HK.out
      have HSB := Lib.hid (show ∀ wx, Below v1.heap.size v1 wx → (fun w' : World => w'.cell? ⟨kb, 0, none⟩ = some (.string tg) ∧ w'.cell? ⟨kb, 2, none⟩ = some (.int .i64 ms) ∧ w'.cell? ⟨kb, 3, none⟩ = some (.string un)) wx from fun wx T => ⟨(T.cell (p := ⟨kb, 0, none⟩) g5).trans g0, (T.cell (p := ⟨kb, 2, none⟩) g5).trans g2, (T.cell (p := ⟨kb, 3, none⟩) g5).trans g3⟩)
      refine region_till 16 (fun w' => w'.cell? ⟨kb, 0, none⟩ = some (.string tg) ∧ w'.cell? ⟨kb, 2, none⟩ = some (.int .i64 ms) ∧ w'.cell? ⟨kb, 3, none⟩ = some (.string un)) (by kernel_rfl) ?_
      have hT : (fun w' : World => w'.cell? ⟨kb, 0, none⟩ = some (.string tg) ∧ w'.cell? ⟨kb, 2, none⟩ = some (.int .i64 ms) ∧ w'.cell? ⟨kb, 3, none⟩ = some (.string un)) v1.drew := ⟨g0, g2, g3⟩
      refine Till.take (i := 0) (v := ?_) rfl (by kernel_rfl) (by kernel_rfl) (by kernel_rfl) [15] (by kernel_rfl) (by decide) (by kernel_rfl) (by kernel_rfl) (fun _ _ _ h => h) hT (Or.inl ⟨by rfl, ?_⟩) ?_
      rotate_left
      · (intro w' hw'; obtain ⟨u1, u2, u3⟩ := hw'; go_simp; try with_reducible rfl)
      (try simp only [Act.put, List.setIfInBounds_toArray, List.set_cons_zero, List.set_cons_succ])
      refine Till.take (i := 1) (v := ?_) rfl (by kernel_rfl) (by kernel_rfl) (by kernel_rfl) [2, 3, 4, 8, 9, 13, 14, 15] (by kernel_rfl) (by decide) (by kernel_rfl) (by kernel_rfl) (fun _ _ _ h => h) hT (Or.inl ⟨by rfl, ?_⟩) ?_
      rotate_left
      · (intro w' hw'; obtain ⟨u1, u2, u3⟩ := hw'; go_simp; try with_reducible rfl)
      (try simp only [Act.put, List.setIfInBounds_toArray, List.set_cons_zero, List.set_cons_succ])
      refine Till.take (i := 2) (v := ?_) rfl (by kernel_rfl) (by kernel_rfl) (by kernel_rfl) [3, 4, 8, 9, 13, 14, 15] (by kernel_rfl) (by decide) (by kernel_rfl) (by kernel_rfl) (fun _ _ _ h => h) hT (Or.inl ⟨by rfl, ?_⟩) ?_
      rotate_left
      · (intro w' hw'; obtain ⟨u1, u2, u3⟩ := hw'; go_simp; try with_reducible rfl)
      (try simp only [Act.put, List.setIfInBounds_toArray, List.set_cons_zero, List.set_cons_succ])
      refine Till.take (i := 3) (v := ?_) rfl (by kernel_rfl) (by kernel_rfl) (by kernel_rfl) [4, 8, 9, 13, 14, 15] (by kernel_rfl) (by decide) (by kernel_rfl) (by kernel_rfl) (fun _ _ _ h => h) hT (Or.inl ⟨by rfl, ?_⟩) ?_
      rotate_left
      · (intro w' hw'; obtain ⟨u1, u2, u3⟩ := hw'; go_simp; try with_reducible rfl)
      (try simp only [Act.put, List.setIfInBounds_toArray, List.set_cons_zero, List.set_cons_succ])
      refine Till.take (i := 4) (v := ?_) rfl (by kernel_rfl) (by kernel_rfl) (by kernel_rfl) [8, 9, 13, 14, 15] (by kernel_rfl) (by decide) (by kernel_rfl) (by kernel_rfl) (fun _ _ _ h => h) hT (Or.inl ⟨by rfl, ?_⟩) ?_
      rotate_left
      · (intro w' hw'; obtain ⟨u1, u2, u3⟩ := hw'; go_simp; try with_reducible rfl)
      (try simp only [Act.put, List.setIfInBounds_toArray, List.set_cons_zero, List.set_cons_succ])
      refine Till.take (i := 5) (v := ?_) rfl (by kernel_rfl) (by kernel_rfl) (by kernel_rfl) [6, 7, 8, 9, 13, 14, 15] (by kernel_rfl) (by decide) (by kernel_rfl) (by kernel_rfl) (fun _ _ _ h => h) hT (Or.inl ⟨by rfl, ?_⟩) ?_
      rotate_left
      · (intro w' hw'; obtain ⟨u1, u2, u3⟩ := hw'; go_simp; try with_reducible rfl)
      (try simp only [Act.put, List.setIfInBounds_toArray, List.set_cons_zero, List.set_cons_succ])
      refine Till.take (i := 6) (v := ?_) rfl (by kernel_rfl) (by kernel_rfl) (by kernel_rfl) [7, 8, 9, 13, 14, 15] (by kernel_rfl) (by decide) (by kernel_rfl) (by kernel_rfl) (fun _ _ _ h => h) hT (Or.inl ⟨by rfl, ?_⟩) ?_
      rotate_left
      · (intro w' hw'; obtain ⟨u1, u2, u3⟩ := hw'; go_simp; try with_reducible rfl)
      (try simp only [Act.put, List.setIfInBounds_toArray, List.set_cons_zero, List.set_cons_succ])
      refine Till.take (i := 10) (v := ?_) rfl (by kernel_rfl) (by kernel_rfl) (by kernel_rfl) [11, 12, 13, 14, 15] (by kernel_rfl) (by decide) (by kernel_rfl) (by kernel_rfl) (fun _ _ _ h => h) hT (Or.inl ⟨by rfl, ?_⟩) ?_
      rotate_left
      · (intro w' hw'; obtain ⟨u1, u2, u3⟩ := hw'; go_simp; try with_reducible rfl)
      (try simp only [Act.put, List.setIfInBounds_toArray, List.set_cons_zero, List.set_cons_succ])
      refine Till.take (i := 11) (v := ?_) rfl (by kernel_rfl) (by kernel_rfl) (by kernel_rfl) [12, 13, 14, 15] (by kernel_rfl) (by decide) (by kernel_rfl) (by kernel_rfl) (fun _ _ _ h => h) hT (Or.inl ⟨by rfl, ?_⟩) ?_
      rotate_left
      · (intro w' hw'; obtain ⟨u1, u2, u3⟩ := hw'; go_simp; try with_reducible rfl)
      (try simp only [Act.put, List.setIfInBounds_toArray, List.set_cons_zero, List.set_cons_succ])
      refine Till.step (i := 7) (by kernel_rfl) rfl ?_
      intro K hK
      go_simp
      (go_at_call 20; refine (HIms.out _ (HT0.out.below HB.out.drew)).mono ?_; rintro e a1 ⟨rfl, b1⟩; (have T1 : Below v1.heap.size v1 a1 := ⟨b1.os, b1.tape, b1.output, b1.size, b1.block⟩))
      have hT : (fun w' : World => w'.cell? ⟨kb, 0, none⟩ = some (.string tg) ∧ w'.cell? ⟨kb, 2, none⟩ = some (.int .i64 ms) ∧ w'.cell? ⟨kb, 3, none⟩ = some (.string un)) a1 := HSB.out _ T1
      refine hK.out _ _ (fun _ => hT) ?_
      clear hK K
      (try simp only [Act.put, List.setIfInBounds_toArray, List.set_cons_zero, List.set_cons_succ])
      refine Till.take (i := 8) (v := ?_) rfl (by kernel_rfl) (by kernel_rfl) (by kernel_rfl) [9, 13, 14, 15] (by kernel_rfl) (by decide) (by kernel_rfl) (by kernel_rfl) (fun _ _ _ h => h) hT (Or.inl ⟨by rfl, ?_⟩) ?_
      rotate_left
      · (intro w' hw'; obtain ⟨u1, u2, u3⟩ := hw'; go_simp; try with_reducible rfl)
      (try simp only [Act.put, List.setIfInBounds_toArray, List.set_cons_zero, List.set_cons_succ])
      refine Till.take (i := 9) (v := ?_) rfl (by kernel_rfl) (by kernel_rfl) (by kernel_rfl) [13, 14, 15] (by kernel_rfl) (by decide) (by kernel_rfl) (by kernel_rfl) (fun _ _ _ h => h) hT (Or.inl ⟨by rfl, ?_⟩) ?_
      rotate_left
      · (intro w' hw'; obtain ⟨u1, u2, u3⟩ := hw'; go_simp; try with_reducible rfl)
      (try simp only [Act.put, List.setIfInBounds_toArray, List.set_cons_zero, List.set_cons_succ])
      refine Till.step (i := 12) (by kernel_rfl) rfl ?_
      intro K hK
      go_simp
      (go_at_call 24; refine (HOR.out _).mono ?_; rintro e wD ⟨eD, rfl⟩; subst eD)
      have hT : (fun w' : World => w'.cell? ⟨kb, 0, none⟩ = some (.string tg) ∧ w'.cell? ⟨kb, 2, none⟩ = some (.int .i64 ms) ∧ w'.cell? ⟨kb, 3, none⟩ = some (.string un)) a1 := HSB.out _ T1
      refine hK.out _ _ (fun _ => hT) ?_
      clear hK K
      (try simp only [Act.put, List.setIfInBounds_toArray, List.set_cons_zero, List.set_cons_succ])
      refine Till.take (i := 13) (v := ?_) rfl (by kernel_rfl) (by kernel_rfl) (by kernel_rfl) [14, 15] (by kernel_rfl) (by decide) (by kernel_rfl) (by kernel_rfl) (fun _ _ _ h => h) hT (Or.inl ⟨by rfl, ?_⟩) ?_
      rotate_left
      · (intro w' hw'; obtain ⟨u1, u2, u3⟩ := hw'; go_simp; try with_reducible rfl)
      (try simp only [Act.put, List.setIfInBounds_toArray, List.set_cons_zero, List.set_cons_succ])
      refine Till.take (i := 14) (v := ?_) rfl (by kernel_rfl) (by kernel_rfl) (by kernel_rfl) [15] (by kernel_rfl) (by decide) (by kernel_rfl) (by kernel_rfl) (fun _ _ _ h => h) hT (Or.inl ⟨by rfl, ?_⟩) ?_
      rotate_left
      · (intro w' hw'; obtain ⟨u1, u2, u3⟩ := hw'; go_simp; try with_reducible rfl)
      (try simp only [Act.put, List.setIfInBounds_toArray, List.set_cons_zero, List.set_cons_succ])
      refine Till.take (i := 15) (v := ?_) rfl (by kernel_rfl) (by kernel_rfl) (by kernel_rfl) [] (by kernel_rfl) (by decide) (by kernel_rfl) (by kernel_rfl) (fun _ _ _ h => h) hT (Or.inl ⟨by rfl, ?_⟩) ?_
      rotate_left
      · (intro w' hw'; obtain ⟨u1, u2, u3⟩ := hw'; go_simp; try with_reducible rfl)
      (try simp only [Act.put, List.setIfInBounds_toArray, List.set_cons_zero, List.set_cons_succ])
      refine Till.step (i := 16) (by kernel_rfl) rfl ?_
      intro K hK
      go_simp
      refine hK.out _ _ (fun h => absurd h (by decide)) ?_
      clear hK K
      (try simp only [Act.put, List.setIfInBounds_toArray, List.set_cons_zero, List.set_cons_succ])
      refine Till.done (by kernel_rfl) ?_ _
      clear hT
      rw [HEQ.out]
      have HFn := Lib.hid (heap_below HF.out T1); have HBn := Lib.hid (below_then T1 HB.out HB.out.size); have HKn := Lib.hid (heap_below HK.out T1)
      clear g0 g1 g2 g3 g5 HF HB HK HSB T1 hc1 hc2 hc3 hc4 hc5 hc6 hc7 HEQ
      have HF := HFn; have HB := HBn; have HK := HKn
      clear HFn HBn HKn
      obtain ⟨⟨g0, g1, g2, g3⟩, -, g5⟩ := obox4 HK.out
      go_wp2_with fail
      clear g0 g1 g2 g3 g5 HK
      go_loopw [5, 60] (fun v i wr => ∃ t : Nat, t ≤ nf ∧ v = .string (bs (LB ++ ((fs.take t).map (colT m)).flatMap lnT)) ∧ i = .int .i64 t ∧ Hid (wr.heap[w.heap.size]? = some (.cells #[.int .u8 m, .int .u8 q, .slice (some ⟨b0, off, none⟩) nk c, .string hd, .string tl, .string ct, .string sm] 24 (0, 0))) ∧ Hid (Below w.heap.size w wr) ∧ Hid ((LB ++ ((fs.take t).map (colT m)).flatMap lnT).length ≤ 400 + j * 10200 + t * 200)) (fun _ i _ => nf - (intOf i).toNat)
      case atStart => exact ⟨0, Nat.zero_le _, by simp, rfl, HF, HB, Lib.hid (by simpa using HLBN.out)⟩
      case round =>
        clear HF HB
        obtain ⟨t, ht, rfl, rfl, HF, HB, HLN⟩ := hrel
        rcases Nat.lt_or_ge t nf with htl | htg
        · have htL : t < fs.length := by rw [HNF.out]; exact htl
          obtain ⟨b1, off1, rfl, hb1, d0, d1, d2, d3, d4, d5, d6, d7⟩ := (HCO.out.below HB.out).cells htL
          have hcm : cA fs t ∈ fs := by rw [← cA_get htL]; exact List.getElem_mem _
          have HCR := Lib.hid (HKR.out.cols _ hcm)
          have HTC := Lib.hid (col_take (m := m) htL)
          obtain ⟨co, hco⟩ : ∃ x, cA fs t = x := ⟨_, rfl⟩
          rw [hco] at d0 d1 d2 d3 d4 d5 d6 d7 HCR HTC
          have HCT := Lib.hid (fun w h => colwords_c ⟨m, q, ks, hd, tl, ct, sm⟩ (some ⟨b0, off, none⟩) c co w HCR.out h)
          have HCL := Lib.hid (col_len HCR.out)
          simp only at HCT HCL
          have hjl : (lnT (colT m co)).length = (bs (jn 32 (colT m co))).size + 1 := by rw [bs_size]; unfold lnT; simp
          obtain ⟨sc, hsc⟩ : ∃ x, bs (jn 32 (colT m co)) = x := ⟨_, rfl⟩
          rw [hsc] at hjl
          have hscz : sc.size ≤ 199 := by have := HCL.out; omega
          obtain ⟨SQ, hSQ⟩ : ∃ x, bs (LB ++ ((fs.take t).map (colT m)).flatMap lnT) = x := ⟨_, rfl⟩
          have hsqz : SQ.size ≤ 400 + j * 10200 + t * 200 := by rw [← hSQ, bs_size]; exact HLN.out
          rw [hSQ]
          have HEQ := Lib.hid (show SQ ++ (sc ++ (⟨#[10]⟩ : ByteArray)) = bs (LB ++ ((fs.take (t + 1)).map (colT m)).flatMap lnT) by
            rw [HTC.out, ← hSQ, ← hsc]
            apply ByteArray.ext
            simp [lnT, bs, ByteArray.data_append])
          have HLNn := Lib.hid (show (LB ++ ((fs.take (t + 1)).map (colT m)).flatMap lnT).length ≤ 400 + j * 10200 + (t + 1) * 200 by
            rw [HTC.out, ← List.append_assoc, List.length_append]
            have h1 := HLN.out; have h2 := HCL.out
            omega)
          have HWO := Lib.hid (col_words HCR.out)
          have HSJ := Lib.hid (fun (x : World) (g k : Nat) (hs : Sts x (some ⟨g, 0, none⟩) ((colT m co).map bs)) (hk : (colT m co).length ≤ k) => sjoin_c (colT m co) g k x hs (List.length_pos_iff.2 HWO.out.1) hk (Nat.le_trans HCL.out (by decide)))
          rw [hsc] at HSJ
          unfold RetCW at HCT
          obtain ⟨WC, hWC⟩ : ∃ x, colT m co = x := ⟨_, rfl⟩
          rw [hWC] at HCT HSJ
          obtain ⟨nw, hnw⟩ : ∃ x, WC.length = x := ⟨_, rfl⟩
          rw [hnw] at HCT HSJ
          unfold RetS6 at HSJ
          obtain ⟨nm, kd, wi, pl, fo, rt, fi, ne⟩ := co
          unfold fmtG colG at HCT
          simp only at d0 d1 d2 d3 d4 d5 d6 d7 HCT
          rw [HNK.out] at HCT
          have hc1 : ¬ (9223372036854775807 < sc.size + 1) := by omega
          have hc2 : ¬ (9223372036854775807 < SQ.size + (sc.size + 1)) := by omega
          clear hco hsc hcm htL HCL hSQ hsqz hscz hjl hWC hnw HTC HLN
          obtain ⟨⟨f0, f1, f2, f3, f4, f5, f6⟩, f7⟩ := obox7 HF.out
          go_upto_region 15 with fail
          have HCn := Lib.hid (heap_new wr (.cells #[.string nm, .int .i64 kd, .int .i64 wi, .int .i64 pl, .int .i64 fo, .bool rt, .int .u8 fi, .bool ne] 51) rfl)
          have hgw : Below wr.heap.size wr (wr.alloc (.cells #[.string nm, .int .i64 kd, .int .i64 wi, .int .i64 pl, .int .i64 fo, .bool rt, .int .u8 fi, .bool ne] 51)) := by go_grown
          have HFn := Lib.hid (heap_below HF.out hgw); have HBn := Lib.hid (below_then hgw HB.out HB.out.size)
          obtain ⟨cb, hcb⟩ : ∃ x, wr.heap.size = x := ⟨_, rfl⟩
          rw [hcb] at HCn ⊢
          generalize wr.alloc (.cells #[.string nm, .int .i64 kd, .int .i64 wi, .int .i64 pl, .int .i64 fo, .bool rt, .int .u8 fi, .bool ne] 51) = x1 at HCn HFn HBn ⊢
          clear f0 f1 f2 f3 f4 f5 f6 f7
          clear HF HB hgw d0 d1 d2 d3 d4 d5 d6 d7 hb1 hcb
          have HF := HFn; have HB := HBn
          clear HFn HBn
          obtain ⟨⟨h0, h1, h2, h3, h4, h5, h6, h7⟩, -, h8⟩ := obox8f HCn.out
          obtain ⟨⟨f0, f1, f2, f3, f4, f5, f6⟩, f7⟩ := obox7 HF.out
          go_wp2_with fail
          refine (HCT.out _ (HT0.out.below HB.out)).mono ?_
          rintro e x2 ⟨g9, c9, rfl, hle, hst, hb2⟩
          go_wp2_with fail
          refine (HSJ.out x2 g9 c9 hst hle).mono ?_
          rintro e x3 ⟨rfl, hb3⟩
          have hb4 := hb2.trans (hb3.mono hb2.size)
          have HFn := Lib.hid (heap_below HF.out hb4)
          have HBn := Lib.hid (below_then hb4 HB.out HB.out.size)
          clear hb2 hb3 hb4 hst hle HCn h0 h1 h2 h3 h4 h5 h6 h7 h8 HF HB
          clear f0 f1 f2 f3 f4 f5 f6 f7
          go_wp2
          go_roundw
          case rel => exact ⟨t + 1, by omega, congrArg Value.string HEQ.out, by go_num, HFn, HBn, HLNn⟩
          case measure => simp [intOf]; omega
        · obtain rfl : t = nf := by omega
          have HEQ : LB ++ ((fs.take fs.length).map (colT m)).flatMap lnT = (lnT (headT ⟨m, q, ks, hd, tl, ct, sm⟩) ++ (ks.take (j + 1)).flatMap (kndL6 m)) := by
            rw [HTK.out, show kndL6 m ⟨tg, fs, ms, un⟩ = lnT (kindT ⟨tg, fs, ms, un⟩) ++ (fs.map (colT m)).flatMap lnT from rfl, ← HLB.out, List.take_length, List.append_assoc, List.append_assoc]
          rw [HNF.out] at HEQ
          have HLNn := Lib.hid (show (lnT (headT ⟨m, q, ks, hd, tl, ct, sm⟩) ++ (ks.take (j + 1)).flatMap (kndL6 m)).length ≤ 200 + (j + 1) * 10200 by
            rw [← HEQ]
            have h1 := HLN.out
            omega)
          rw [HEQ]
          clear HLN HEQ
          go_wp2
          go_roundw
          case rel => exact ⟨j + 1, by omega, rfl, by go_num, HF, HB, HLNn⟩
          case measure => simp [intOf]; omega
    · obtain rfl : j = nk := by omega
      have hz1 := dsh_len HZ.out.head; have hz2 := dsh_len HZ.out.tail; have hz3 := dsh_len HZ.out.count; have hz4 := dsh_len HZ.out.sum
      simp only at hz1 hz2 hz3 hz4
      rw [← bs_size] at hz1 hz2 hz3 hz4
      have HO1 := Lib.hid (fun w => or_c hd w); have HO2 := Lib.hid (fun w => or_c tl w); have HO3 := Lib.hid (fun w => or_c ct w); have HO4 := Lib.hid (fun w => or_c sm w)
      have HPN := Lib.hid (show TX = (lnT (headT ⟨m, q, ks, hd, tl, ct, sm⟩) ++ (ks.take j).flatMap (kndL6 m)) ++ lnT (endsT ⟨m, q, ks, hd, tl, ct, sm⟩) by rw [HPT.out, ← HNK.out, List.take_length])
      obtain ⟨s1, hs1⟩ : ∃ x, bs (dshL hd) = x := ⟨_, rfl⟩
      obtain ⟨s2, hs2⟩ : ∃ x, bs (dshL tl) = x := ⟨_, rfl⟩
      obtain ⟨s3, hs3⟩ : ∃ x, bs (dshL ct) = x := ⟨_, rfl⟩
      obtain ⟨s4, hs4⟩ : ∃ x, bs (dshL sm) = x := ⟨_, rfl⟩
      rw [hs1] at HO1 hz1
      rw [hs2] at HO2 hz2
      rw [hs3] at HO3 hz3
      rw [hs4] at HO4 hz4
      have HEQ := Lib.hid (show SP ++ ((⟨#[101, 110, 100, 115, 32]⟩ : ByteArray) ++ s1 ++ ⟨#[32]⟩ ++ s2 ++ ⟨#[32]⟩ ++ s3 ++ ⟨#[32]⟩ ++ s4 ++ ⟨#[10]⟩) = SS by
        have h0 := HSS.out
        simp only [if_true] at h0
        rw [← h0, HPN.out, ← HSP.out, ← hs1, ← hs2, ← hs3, ← hs4]
        apply ByteArray.ext
        simp [lnT, jn, bs, ByteArray.data_append, wEnds, endsT])
      have hc1 : ¬ (9223372036854775807 < 5 + s1.size) := by omega
      have hc2 : ¬ (9223372036854775807 < 5 + s1.size + 1) := by omega
      have hc3 : ¬ (9223372036854775807 < 5 + s1.size + 1 + s2.size) := by omega
      have hc4 : ¬ (9223372036854775807 < 5 + s1.size + 1 + s2.size + 1) := by omega
      have hc5 : ¬ (9223372036854775807 < 5 + s1.size + 1 + s2.size + 1 + s3.size) := by omega
      have hc6 : ¬ (9223372036854775807 < 5 + s1.size + 1 + s2.size + 1 + s3.size + 1) := by omega
      have hc7 : ¬ (9223372036854775807 < 5 + s1.size + 1 + s2.size + 1 + s3.size + 1 + s4.size) := by omega
      have hc8 : ¬ (9223372036854775807 < 5 + s1.size + 1 + s2.size + 1 + s3.size + 1 + s4.size + 1) := by omega
      have hc9 : ¬ (9223372036854775807 < SP.size + (5 + s1.size + 1 + s2.size + 1 + s3.size + 1 + s4.size + 1)) := by omega
      clear hs1 hs2 hs3 hs4 hz1 hz2 hz3 hz4 HPN
      obtain ⟨⟨f0, f1, f2, f3, f4, f5, f6⟩, f7⟩ := obox7 HF.out
      have HBD := Lib.hid HB.out.drew
      go_upto_region 18 with fail
      refine region_till 22 (fun w' => w'.cell? ⟨w.heap.size, 3, none⟩ = some (.string hd) ∧ w'.cell? ⟨w.heap.size, 4, none⟩ = some (.string tl) ∧ w'.cell? ⟨w.heap.size, 5, none⟩ = some (.string ct) ∧ w'.cell? ⟨w.heap.size, 6, none⟩ = some (.string sm)) (by kernel_rfl) ?_
      have hT : (fun w' : World => w'.cell? ⟨w.heap.size, 3, none⟩ = some (.string hd) ∧ w'.cell? ⟨w.heap.size, 4, none⟩ = some (.string tl) ∧ w'.cell? ⟨w.heap.size, 5, none⟩ = some (.string ct) ∧ w'.cell? ⟨w.heap.size, 6, none⟩ = some (.string sm)) wr.drew := ⟨f3, f4, f5, f6⟩
      refine Till.take (i := 0) (v := ?_) rfl (by kernel_rfl) (by kernel_rfl) (by kernel_rfl) [21] (by kernel_rfl) (by decide) (by kernel_rfl) (by kernel_rfl) (fun _ _ _ h => h) hT (Or.inl ⟨by rfl, ?_⟩) ?_
      rotate_left
      · (intro w' hw'; obtain ⟨u1, u2, u3, u4⟩ := hw'; go_simp; try with_reducible rfl)
      (try simp only [Act.put, List.setIfInBounds_toArray, List.set_cons_zero, List.set_cons_succ])
      refine Till.take (i := 1) (v := ?_) rfl (by kernel_rfl) (by kernel_rfl) (by kernel_rfl) [2, 3, 8, 13, 18, 19, 20, 21] (by kernel_rfl) (by decide) (by kernel_rfl) (by kernel_rfl) (fun _ _ _ h => h) hT (Or.inl ⟨by rfl, ?_⟩) ?_
      rotate_left
      · (intro w' hw'; obtain ⟨u1, u2, u3, u4⟩ := hw'; go_simp; try with_reducible rfl)
      (try simp only [Act.put, List.setIfInBounds_toArray, List.set_cons_zero, List.set_cons_succ])
      refine Till.take (i := 2) (v := ?_) rfl (by kernel_rfl) (by kernel_rfl) (by kernel_rfl) [3, 8, 13, 18, 19, 20, 21] (by kernel_rfl) (by decide) (by kernel_rfl) (by kernel_rfl) (fun _ _ _ h => h) hT (Or.inl ⟨by rfl, ?_⟩) ?_
      rotate_left
      · (intro w' hw'; obtain ⟨u1, u2, u3, u4⟩ := hw'; go_simp; try with_reducible rfl)
      (try simp only [Act.put, List.setIfInBounds_toArray, List.set_cons_zero, List.set_cons_succ])
      refine Till.take (i := 6) (v := ?_) rfl (by kernel_rfl) (by kernel_rfl) (by kernel_rfl) [7, 8, 13, 18, 19, 20, 21] (by kernel_rfl) (by decide) (by kernel_rfl) (by kernel_rfl) (fun _ _ _ h => h) hT (Or.inl ⟨by rfl, ?_⟩) ?_
      rotate_left
      · (intro w' hw'; obtain ⟨u1, u2, u3, u4⟩ := hw'; go_simp; try with_reducible rfl)
      (try simp only [Act.put, List.setIfInBounds_toArray, List.set_cons_zero, List.set_cons_succ])
      refine Till.take (i := 7) (v := ?_) rfl (by kernel_rfl) (by kernel_rfl) (by kernel_rfl) [8, 13, 18, 19, 20, 21] (by kernel_rfl) (by decide) (by kernel_rfl) (by kernel_rfl) (fun _ _ _ h => h) hT (Or.inl ⟨by rfl, ?_⟩) ?_
      rotate_left
      · (intro w' hw'; obtain ⟨u1, u2, u3, u4⟩ := hw'; go_simp; try with_reducible rfl)
      (try simp only [Act.put, List.setIfInBounds_toArray, List.set_cons_zero, List.set_cons_succ])
      refine Till.take (i := 11) (v := ?_) rfl (by kernel_rfl) (by kernel_rfl) (by kernel_rfl) [12, 13, 18, 19, 20, 21] (by kernel_rfl) (by decide) (by kernel_rfl) (by kernel_rfl) (fun _ _ _ h => h) hT (Or.inl ⟨by rfl, ?_⟩) ?_
      rotate_left
      · (intro w' hw'; obtain ⟨u1, u2, u3, u4⟩ := hw'; go_simp; try with_reducible rfl)
      (try simp only [Act.put, List.setIfInBounds_toArray, List.set_cons_zero, List.set_cons_succ])
      refine Till.take (i := 12) (v := ?_) rfl (by kernel_rfl) (by kernel_rfl) (by kernel_rfl) [13, 18, 19, 20, 21] (by kernel_rfl) (by decide) (by kernel_rfl) (by kernel_rfl) (fun _ _ _ h => h) hT (Or.inl ⟨by rfl, ?_⟩) ?_
      rotate_left
      · (intro w' hw'; obtain ⟨u1, u2, u3, u4⟩ := hw'; go_simp; try with_reducible rfl)
      (try simp only [Act.put, List.setIfInBounds_toArray, List.set_cons_zero, List.set_cons_succ])
      refine Till.take (i := 16) (v := ?_) rfl (by kernel_rfl) (by kernel_rfl) (by kernel_rfl) [17, 18, 19, 20, 21] (by kernel_rfl) (by decide) (by kernel_rfl) (by kernel_rfl) (fun _ _ _ h => h) hT (Or.inl ⟨by rfl, ?_⟩) ?_
      rotate_left
      · (intro w' hw'; obtain ⟨u1, u2, u3, u4⟩ := hw'; go_simp; try with_reducible rfl)
      (try simp only [Act.put, List.setIfInBounds_toArray, List.set_cons_zero, List.set_cons_succ])
      refine Till.take (i := 17) (v := ?_) rfl (by kernel_rfl) (by kernel_rfl) (by kernel_rfl) [18, 19, 20, 21] (by kernel_rfl) (by decide) (by kernel_rfl) (by kernel_rfl) (fun _ _ _ h => h) hT (Or.inl ⟨by rfl, ?_⟩) ?_
      rotate_left
      · (intro w' hw'; obtain ⟨u1, u2, u3, u4⟩ := hw'; go_simp; try with_reducible rfl)
      (try simp only [Act.put, List.setIfInBounds_toArray, List.set_cons_zero, List.set_cons_succ])
      refine Till.step (i := 3) (by kernel_rfl) rfl ?_
      intro K hK
      go_simp
      (go_at_call 24; refine (HO1.out _).mono ?_; rintro e wD ⟨eD, rfl⟩; subst eD)
      have hT : (fun w' : World => w'.cell? ⟨w.heap.size, 3, none⟩ = some (.string hd) ∧ w'.cell? ⟨w.heap.size, 4, none⟩ = some (.string tl) ∧ w'.cell? ⟨w.heap.size, 5, none⟩ = some (.string ct) ∧ w'.cell? ⟨w.heap.size, 6, none⟩ = some (.string sm)) wr.drew := ⟨f3, f4, f5, f6⟩
      refine hK.out _ _ (fun _ => hT) ?_
      clear hK K
      (try simp only [Act.put, List.setIfInBounds_toArray, List.set_cons_zero, List.set_cons_succ])
      refine Till.take (i := 4) (v := ?_) rfl (by kernel_rfl) (by kernel_rfl) (by kernel_rfl) [5, 9, 10, 14, 15, 19, 20, 21] (by kernel_rfl) (by decide) (by kernel_rfl) (by kernel_rfl) (fun _ _ _ h => h) hT (Or.inl ⟨by rfl, ?_⟩) ?_
      rotate_left
      · (intro w' hw'; obtain ⟨u1, u2, u3, u4⟩ := hw'; go_simp; try with_reducible rfl)
      (try simp only [Act.put, List.setIfInBounds_toArray, List.set_cons_zero, List.set_cons_succ])
      refine Till.take (i := 5) (v := ?_) rfl (by kernel_rfl) (by kernel_rfl) (by kernel_rfl) [9, 10, 14, 15, 19, 20, 21] (by kernel_rfl) (by decide) (by kernel_rfl) (by kernel_rfl) (fun _ _ _ h => h) hT (Or.inl ⟨by rfl, ?_⟩) ?_
      rotate_left
      · (intro w' hw'; obtain ⟨u1, u2, u3, u4⟩ := hw'; go_simp; try with_reducible rfl)
      (try simp only [Act.put, List.setIfInBounds_toArray, List.set_cons_zero, List.set_cons_succ])
      refine Till.step (i := 8) (by kernel_rfl) rfl ?_
      intro K hK
      go_simp
      (go_at_call 24; refine (HO2.out _).mono ?_; rintro e wD ⟨eD, rfl⟩; subst eD)
      have hT : (fun w' : World => w'.cell? ⟨w.heap.size, 3, none⟩ = some (.string hd) ∧ w'.cell? ⟨w.heap.size, 4, none⟩ = some (.string tl) ∧ w'.cell? ⟨w.heap.size, 5, none⟩ = some (.string ct) ∧ w'.cell? ⟨w.heap.size, 6, none⟩ = some (.string sm)) wr.drew := ⟨f3, f4, f5, f6⟩
      refine hK.out _ _ (fun _ => hT) ?_
      clear hK K
      (try simp only [Act.put, List.setIfInBounds_toArray, List.set_cons_zero, List.set_cons_succ])
      refine Till.take (i := 9) (v := ?_) rfl (by kernel_rfl) (by kernel_rfl) (by kernel_rfl) [10, 14, 15, 19, 20, 21] (by kernel_rfl) (by decide) (by kernel_rfl) (by kernel_rfl) (fun _ _ _ h => h) hT (Or.inl ⟨by rfl, ?_⟩) ?_
      rotate_left
      · (intro w' hw'; obtain ⟨u1, u2, u3, u4⟩ := hw'; go_simp; try with_reducible rfl)
      (try simp only [Act.put, List.setIfInBounds_toArray, List.set_cons_zero, List.set_cons_succ])
      refine Till.take (i := 10) (v := ?_) rfl (by kernel_rfl) (by kernel_rfl) (by kernel_rfl) [14, 15, 19, 20, 21] (by kernel_rfl) (by decide) (by kernel_rfl) (by kernel_rfl) (fun _ _ _ h => h) hT (Or.inl ⟨by rfl, ?_⟩) ?_
      rotate_left
      · (intro w' hw'; obtain ⟨u1, u2, u3, u4⟩ := hw'; go_simp; try with_reducible rfl)
      (try simp only [Act.put, List.setIfInBounds_toArray, List.set_cons_zero, List.set_cons_succ])
      refine Till.step (i := 13) (by kernel_rfl) rfl ?_
      intro K hK
      go_simp
      (go_at_call 24; refine (HO3.out _).mono ?_; rintro e wD ⟨eD, rfl⟩; subst eD)
      have hT : (fun w' : World => w'.cell? ⟨w.heap.size, 3, none⟩ = some (.string hd) ∧ w'.cell? ⟨w.heap.size, 4, none⟩ = some (.string tl) ∧ w'.cell? ⟨w.heap.size, 5, none⟩ = some (.string ct) ∧ w'.cell? ⟨w.heap.size, 6, none⟩ = some (.string sm)) wr.drew := ⟨f3, f4, f5, f6⟩
      refine hK.out _ _ (fun _ => hT) ?_
      clear hK K
      (try simp only [Act.put, List.setIfInBounds_toArray, List.set_cons_zero, List.set_cons_succ])
      refine Till.take (i := 14) (v := ?_) rfl (by kernel_rfl) (by kernel_rfl) (by kernel_rfl) [15, 19, 20, 21] (by kernel_rfl) (by decide) (by kernel_rfl) (by kernel_rfl) (fun _ _ _ h => h) hT (Or.inl ⟨by rfl, ?_⟩) ?_
      rotate_left
      · (intro w' hw'; obtain ⟨u1, u2, u3, u4⟩ := hw'; go_simp; try with_reducible rfl)
      (try simp only [Act.put, List.setIfInBounds_toArray, List.set_cons_zero, List.set_cons_succ])
      refine Till.take (i := 15) (v := ?_) rfl (by kernel_rfl) (by kernel_rfl) (by kernel_rfl) [19, 20, 21] (by kernel_rfl) (by decide) (by kernel_rfl) (by kernel_rfl) (fun _ _ _ h => h) hT (Or.inl ⟨by rfl, ?_⟩) ?_
      rotate_left
      · (intro w' hw'; obtain ⟨u1, u2, u3, u4⟩ := hw'; go_simp; try with_reducible rfl)
      (try simp only [Act.put, List.setIfInBounds_toArray, List.set_cons_zero, List.set_cons_succ])
      refine Till.step (i := 18) (by kernel_rfl) rfl ?_
      intro K hK
      go_simp
      (go_at_call 24; refine (HO4.out _).mono ?_; rintro e wD ⟨eD, rfl⟩; subst eD)
      have hT : (fun w' : World => w'.cell? ⟨w.heap.size, 3, none⟩ = some (.string hd) ∧ w'.cell? ⟨w.heap.size, 4, none⟩ = some (.string tl) ∧ w'.cell? ⟨w.heap.size, 5, none⟩ = some (.string ct) ∧ w'.cell? ⟨w.heap.size, 6, none⟩ = some (.string sm)) wr.drew := ⟨f3, f4, f5, f6⟩
      refine hK.out _ _ (fun _ => hT) ?_
      clear hK K
      (try simp only [Act.put, List.setIfInBounds_toArray, List.set_cons_zero, List.set_cons_succ])
      refine Till.take (i := 19) (v := ?_) rfl (by kernel_rfl) (by kernel_rfl) (by kernel_rfl) [20, 21] (by kernel_rfl) (by decide) (by kernel_rfl) (by kernel_rfl) (fun _ _ _ h => h) hT (Or.inl ⟨by rfl, ?_⟩) ?_
      rotate_left
      · (intro w' hw'; obtain ⟨u1, u2, u3, u4⟩ := hw'; go_simp; try with_reducible rfl)
      (try simp only [Act.put, List.setIfInBounds_toArray, List.set_cons_zero, List.set_cons_succ])
      refine Till.take (i := 20) (v := ?_) rfl (by kernel_rfl) (by kernel_rfl) (by kernel_rfl) [21] (by kernel_rfl) (by decide) (by kernel_rfl) (by kernel_rfl) (fun _ _ _ h => h) hT (Or.inl ⟨by rfl, ?_⟩) ?_
      rotate_left
      · (intro w' hw'; obtain ⟨u1, u2, u3, u4⟩ := hw'; go_simp; try with_reducible rfl)
      (try simp only [Act.put, List.setIfInBounds_toArray, List.set_cons_zero, List.set_cons_succ])
      refine Till.take (i := 21) (v := ?_) rfl (by kernel_rfl) (by kernel_rfl) (by kernel_rfl) [] (by kernel_rfl) (by decide) (by kernel_rfl) (by kernel_rfl) (fun _ _ _ h => h) hT (Or.inl ⟨by rfl, ?_⟩) ?_
      rotate_left
      · (intro w' hw'; obtain ⟨u1, u2, u3, u4⟩ := hw'; go_simp; try with_reducible rfl)
      (try simp only [Act.put, List.setIfInBounds_toArray, List.set_cons_zero, List.set_cons_succ])
      refine Till.step (i := 22) (by kernel_rfl) rfl ?_
      intro K hK
      go_simp
      refine hK.out _ _ (fun h => absurd h (by decide)) ?_
      clear hK K
      (try simp only [Act.put, List.setIfInBounds_toArray, List.set_cons_zero, List.set_cons_succ])
      refine Till.done (by kernel_rfl) ?_ _
      clear hT hc1 hc2 hc3 hc4 hc5 hc6 hc7 hc8 hc9
      rw [HEQ.out]
      go_wp2
      go_ret2
      exact ⟨rfl, HBD.out⟩
end Go.Proofs.YtfgnollclmimnaaGreatDoor
