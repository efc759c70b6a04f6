
/- The walk of the program's Text. (Printed by genH4.py.) -/
import Derived.Test.YtfgnollclmimnaaGreatDoorH6
import Derived.Test.YtfgnollclmimnaaGreatDoorF8
namespace Go.Proofs.YtfgnollclmimnaaGreatDoor
open Go.RowKit Limb Nmb Work
set_option linter.unusedVariables false
set_option linter.unusedSimpArgs false

def RetTx (x : Int) (s : ByteArray) (w : World) (e : Ending) (w' : World) : Prop := e = .returned (.tuple #[.string s, .int .i64 x]) ∧ Below w.heap.size w w'
theorem ends_len {f : Fmt} (h : FmtR f) (hz : FmtZ f) : (lnT (endsT f)).length ≤ 200 := by
  rw [ln_len (ends_words h).1]
  unfold endsT
  have z1 := dsh_len hz.head; have z2 := dsh_len hz.tail; have z3 := dsh_len hz.count; have z4 := dsh_len hz.sum
  have hw : wEnds.data.toList.length = 4 := by decide
  simp only [List.map_cons, List.map_nil, List.sum_cons, List.sum_nil]
  omega
theorem head_len {f : Fmt} (h : FmtR f) : (lnT (headT f)).length ≤ 200 := by
  rw [ln_len (head_words h).1]
  unfold headT
  have h2 := h.mark; have h3 := h.quote
  split
  · decide
  · have := (num_all (n := f.mark) (by omega)).2.2.2
    have := (num_all (n := f.quote) (by omega)).2.2.2
    have hw : wMarked.data.toList.length = 6 := by decide
    simp only [List.map_cons, List.map_nil, List.sum_cons, List.sum_nil]
    omega
set_option maxHeartbeats 4000000 in
set_option maxRecDepth 100000 in
theorem text_c (f : Fmt) (A : Option Addr) (c : Nat) (FA : Nat → Option Addr) (FC : Nat → Nat) (w : World) (ho : Kinds w A f.kinds FA FC) (hc : f.kinds.length ≤ c) (hm : 0 ≤ f.mark ∧ f.mark ≤ 255) (hq : 0 ≤ f.quote ∧ f.quote ≤ 255) (ht : Tab6 w) :
    Calls Tryz.prog 9 #[fmtG f A c] w (RetTx (checkF f) (if checkF f = 0 then bs (textL f) else ⟨#[]⟩) w) := by
  obtain ⟨X, hX⟩ : ∃ x, checkF f = x := ⟨_, rfl⟩
  have HX := Lib.hid hX
  have HCH := Lib.hid (fun w h => check_c f A c FA FC w h hc hm hq)
  have HKI := Lib.hid ho
  have HT0 := Lib.hid ht
  have HFR := Lib.hid (fun h => fmt_right (f := f) h hm hq)
  rw [hX] at HCH HFR ⊢
  obtain ⟨TX, hTX⟩ : ∃ x, textL f = x := ⟨_, rfl⟩
  have HTX := Lib.hid hTX
  rw [hTX]
  obtain ⟨SS, hSS⟩ : ∃ x, (if X = 0 then bs TX else (⟨#[]⟩ : ByteArray)) = x := ⟨_, rfl⟩
  have HSS := Lib.hid hSS
  rw [hSS]
  clear hSS
  have HPT := Lib.hid (text_parts f)
  rw [hTX] at HPT
  obtain ⟨m, q, ks, hd, tl, ct, sm⟩ := f
  unfold fmtG at HCH ⊢
  simp only at HCH HKI hm hq HPT hc ⊢
  obtain ⟨nk, hnk⟩ : ∃ x, ks.length = x := ⟨_, rfl⟩
  have HNK := Lib.hid hnk
  rw [hnk] at HCH hc ⊢
  have HF := Lib.hid (heap_new w (.cells #[.int .u8 m, .int .u8 q, .slice A nk c, .string hd, .string tl, .string ct, .string sm] 24) rfl)
  have HB : Hid (Below w.heap.size w (w.alloc (.cells #[.int .u8 m, .int .u8 q, .slice A nk c, .string hd, .string tl, .string ct, .string sm] 24))) := Lib.hid (by go_grown)
  have hnb : nk ≤ 9223372036854775807 := by rw [← hnk]; exact ho.1.2
  clear hX hTX hnk ho ht
  go_enter Tryz.func9, Tryz.ntmps9
  go_upto_region 1 with fail
  generalize w.alloc (.cells #[.int .u8 m, .int .u8 q, .slice A nk c, .string hd, .string tl, .string ct, .string sm] 24) = w1 at HF HB ⊢
  obtain ⟨⟨f0, f1, f2, f3, f4, f5, f6⟩, f7⟩ := obox7 HF.out
  go_wp2_with fail
  refine (HCH.out _ (HKI.out.below HB.out)).mono ?_
  rintro e w2 ⟨rfl, hb2⟩
  have HFn := Lib.hid (heap_below HF.out hb2); have HBn := Lib.hid (below_then hb2 HB.out HB.out.size)
  clear f0 f1 f2 f3 f4 f5 f6 f7
  clear HF HB hb2 HCH
  have HF := HFn; have HB := HBn
  clear HFn HBn
  obtain ⟨⟨f0, f1, f2, f3, f4, f5, f6⟩, f7⟩ := obox7 HF.out
  by_cases hx : X = 0
  case neg =>
    have hxa : (X != 0) = true := by simpa using hx
    have hxb : (X == 0) = false := by simpa using hx
    have HEND := Lib.hid (show RetTx X SS w (.returned (.tuple #[.string ⟨#[]⟩, .int .i64 X])) w2 from ⟨by rw [← HSS.out, if_neg hx], HB.out⟩)
    clear hx
    go_wp2
    go_ret2
    exact HEND.out
  subst hx
  obtain ⟨hR, hZ⟩ := HFR.out rfl
  have HR := Lib.hid hR; have HZ := Lib.hid hZ
  clear hR hZ HFR
  go_upto_region 5 with fail
  obtain ⟨b, hbb⟩ : ∃ x, w2.heap.size = x := ⟨_, rfl⟩
  have hwb : w.heap.size < b := by have := lt_heap HF.out; omega
  have HL := Lib.hid (Bld.new w2)
  have HFn := Lib.hid (heap_old HF.out (.cells #[.pointer none, .slice none 0 0] 55)); have HBn : Hid (Below w.heap.size w (w2.alloc (.cells #[.pointer none, .slice none 0 0] 55))) := Lib.hid (HB.out.alloc HB.out.size _)
  rw [hbb] at HL ⊢
  generalize w2.alloc (.cells #[.pointer none, .slice none 0 0] 55) = w3 at HL HFn HBn ⊢
  clear f0 f1 f2 f3 f4 f5 f6 f7
  clear HF HB
  have HF := HFn; have HB := HBn
  clear HFn HBn hbb
  obtain ⟨⟨f0, f1, f2, f3, f4, f5, f6⟩, f7⟩ := obox7 HF.out
  have HNE : Hid (w.heap.size ≠ b) := Lib.hid (by omega)
  go_upto_if 17 with fail
  go_cut [] (fun wx => Hid (Bld wx b (lnT (headT ⟨m, q, ks, hd, tl, ct, sm⟩))) ∧ Hid (wx.heap[w.heap.size]? = some (.cells #[.int .u8 m, .int .u8 q, .slice A nk c, .string hd, .string tl, .string ct, .string sm] 24 (0, 0))) ∧ Hid (Below w.heap.size w wx))
  case first =>
    by_cases hm0 : m = 0
    · have e1 : (m == 0) = true := by simpa using hm0
      have HH := Lib.hid (show lnT (headT ⟨m, q, ks, hd, tl, ct, sm⟩) = (⟨#[102, 105, 120, 101, 100, 10]⟩ : ByteArray).data.toList by unfold headT; rw [if_pos hm0]; rfl)
      clear hm0
      go_wp2_with fail
      refine (write_c b [] ⟨#[102, 105, 120, 101, 100, 10]⟩ w3 HL.out (by decide)).mono ?_
      rintro e w4 ⟨rfl, hbl, hbz, hkp⟩
      go_wp2_with fail
      go_meet
      exact ⟨Lib.hid (by rw [HH.out]; exact hbl), Lib.hid (hkp _ _ _ _ HF.out HNE.out (by decide)), Lib.hid (HB.out.trans (hbz.mono (Nat.le_of_lt hwb)))⟩
    · have e1 : (m == 0) = false := by simpa using hm0
      have HWM := Lib.hid (show headT ⟨m, q, ks, hd, tl, ct, sm⟩ = [wMarked.data.toList, Lib.itoa m, Lib.itoa q] by unfold headT; rw [if_neg hm0])
      have HHL := Lib.hid (show (lnT (headT ⟨m, q, ks, hd, tl, ct, sm⟩)).length ≤ 200 by
        rw [ln_len (head_words HR.out).1]
        unfold headT
        split
        · decide
        · have := (num_all (n := m) (by omega)).2.2.2
          have := (num_all (n := q) (by omega)).2.2.2
          have hw : wMarked.data.toList.length = 6 := by decide
          simp only [List.map_cons, List.map_nil, List.sum_cons, List.sum_nil]
          omega)
      have hwm : IntKind.i64.wrap m = m := IntWalk.i64_in _ (by omega)
      have hwq : IntKind.i64.wrap q = q := IntWalk.i64_in _ (by omega)
      have HIm := Lib.hid (fun w h => itoa6_c m w (by omega) h); have HIq := Lib.hid (fun w h => itoa6_c q w (by omega) h)
      unfold RetS6 at HIm HIq
      obtain ⟨s_m, hsm⟩ : ∃ x, bs (Lib.itoa m) = x := ⟨_, rfl⟩
      obtain ⟨s_q, hsq⟩ : ∃ x, bs (Lib.itoa q) = x := ⟨_, rfl⟩
      rw [hsm] at HIm
      rw [hsq] at HIq
      have HWW := Lib.hid (show (headT ⟨m, q, ks, hd, tl, ct, sm⟩).map bs = [⟨#[109, 97, 114, 107, 101, 100]⟩, s_m, s_q] by rw [HWM.out, ← hsm, ← hsq]; rfl)
      have HWWl := Lib.hid (show (headT ⟨m, q, ks, hd, tl, ct, sm⟩).length = 3 by rw [HWM.out]; rfl)
      clear hm0 hsm hsq
      obtain ⟨sj, hsj⟩ : ∃ x, bs (lnT (headT ⟨m, q, ks, hd, tl, ct, sm⟩)) = x := ⟨_, rfl⟩
      have HSJ := Lib.hid (show sj.data.toList = lnT (headT ⟨m, q, ks, hd, tl, ct, sm⟩) by rw [← hsj, bs_toList])
      have HSZ := Lib.hid (show sj.size ≤ 200 by rw [← hsj, bs_size]; exact HHL.out)
      have HJ := Lib.hid (show ∀ (x : World) (g : Nat), x.heap[g]? = some (.cells #[.string ⟨#[109, 97, 114, 107, 101, 100]⟩, .string s_m, .string s_q] 9 (0, 0)) → Calls Tryz.prog 19 #[.slice (some ⟨g, 0, none⟩) 3 3] x (RetS6 sj x) from fun x g hh => by
        have h1 := kjoin_c (headT ⟨m, q, ks, hd, tl, ct, sm⟩) g 3 x (by rw [HWW.out]; exact sts_new hh) (by rw [HWWl.out]; decide) (by rw [HWWl.out]; decide) (Nat.le_trans HHL.out (by decide))
        rw [HWWl.out, hsj] at h1
        exact h1)
      clear hsj
      have HSB := Lib.hid (show ∀ wx, Below w3.heap.size w3 wx → (fun w' : World => w'.cell? ⟨w.heap.size, 0, none⟩ = some (.int .u8 m) ∧ w'.cell? ⟨w.heap.size, 1, none⟩ = some (.int .u8 q)) wx from fun wx T => ⟨(T.cell (p := ⟨w.heap.size, 0, none⟩) f7).trans f0, (T.cell (p := ⟨w.heap.size, 1, none⟩) f7).trans f1⟩)
      go_upto_region 7 with fail
      refine region_till 10 (fun w' => w'.cell? ⟨w.heap.size, 0, none⟩ = some (.int .u8 m) ∧ w'.cell? ⟨w.heap.size, 1, none⟩ = some (.int .u8 q)) (by kernel_rfl) ?_
      have aT0 : Below w3.heap.size w3 w3.drew := (Below.refl _ _).drew
      have hT : (fun w' : World => w'.cell? ⟨w.heap.size, 0, none⟩ = some (.int .u8 m) ∧ w'.cell? ⟨w.heap.size, 1, none⟩ = some (.int .u8 q)) w3.drew := ⟨f0, f1⟩
      refine Till.take (i := 0) (v := ?_) rfl (by kernel_rfl) (by kernel_rfl) (by kernel_rfl) [1, 2, 3, 7, 8, 9] (by kernel_rfl) (by decide) (by kernel_rfl) (by kernel_rfl) (fun _ _ _ h => h) hT (Or.inl ⟨by rfl, ?_⟩) ?_
      rotate_left
      · (intro w' hw'; obtain ⟨u1, u2⟩ := hw'; go_simp; try with_reducible rfl)
      (try simp only [Act.put, List.setIfInBounds_toArray, List.set_cons_zero, List.set_cons_succ])
      refine Till.take (i := 1) (v := ?_) rfl (by kernel_rfl) (by kernel_rfl) (by kernel_rfl) [2, 3, 7, 8, 9] (by kernel_rfl) (by decide) (by kernel_rfl) (by kernel_rfl) (fun _ _ _ h => h) hT (Or.inl ⟨by rfl, ?_⟩) ?_
      rotate_left
      · (intro w' hw'; obtain ⟨u1, u2⟩ := hw'; go_simp; try with_reducible rfl)
      (try simp only [Act.put, List.setIfInBounds_toArray, List.set_cons_zero, List.set_cons_succ])
      refine Till.take (i := 2) (v := ?_) rfl (by kernel_rfl) (by kernel_rfl) (by kernel_rfl) [3, 7, 8, 9] (by kernel_rfl) (by decide) (by kernel_rfl) (by kernel_rfl) (fun _ _ _ h => h) hT (Or.inl ⟨by rfl, ?_⟩) ?_
      rotate_left
      · (intro w' hw'; obtain ⟨u1, u2⟩ := hw'; go_simp; try with_reducible rfl)
      (try simp only [Act.put, List.setIfInBounds_toArray, List.set_cons_zero, List.set_cons_succ])
      refine Till.take (i := 4) (v := ?_) rfl (by kernel_rfl) (by kernel_rfl) (by kernel_rfl) [5, 6, 7, 8, 9] (by kernel_rfl) (by decide) (by kernel_rfl) (by kernel_rfl) (fun _ _ _ h => h) hT (Or.inl ⟨by rfl, ?_⟩) ?_
      rotate_left
      · (intro w' hw'; obtain ⟨u1, u2⟩ := hw'; go_simp; try with_reducible rfl)
      (try simp only [Act.put, List.setIfInBounds_toArray, List.set_cons_zero, List.set_cons_succ])
      refine Till.take (i := 5) (v := ?_) rfl (by kernel_rfl) (by kernel_rfl) (by kernel_rfl) [6, 7, 8, 9] (by kernel_rfl) (by decide) (by kernel_rfl) (by kernel_rfl) (fun _ _ _ h => h) hT (Or.inl ⟨by rfl, ?_⟩) ?_
      rotate_left
      · (intro w' hw'; obtain ⟨u1, u2⟩ := hw'; go_simp; try with_reducible rfl)
      (try simp only [Act.put, List.setIfInBounds_toArray, List.set_cons_zero, List.set_cons_succ])
      refine Till.take (i := 6) (v := ?_) rfl (by kernel_rfl) (by kernel_rfl) (by kernel_rfl) [7, 8, 9] (by kernel_rfl) (by decide) (by kernel_rfl) (by kernel_rfl) (fun _ _ _ h => h) hT (Or.inl ⟨by rfl, ?_⟩) ?_
      rotate_left
      · (intro w' hw'; obtain ⟨u1, u2⟩ := hw'; go_simp; try with_reducible rfl)
      (try simp only [Act.put, List.setIfInBounds_toArray, List.set_cons_zero, List.set_cons_succ])
      refine Till.step (i := 3) (by kernel_rfl) rfl ?_
      intro K hK
      go_simp
      (go_at_call 20; refine (HIm.out _ (HT0.out.below (below_then aT0 HB.out HB.out.size))).mono ?_; rintro e aw1 ⟨rfl, ab1⟩; (have aT1 : Below w3.heap.size w3 aw1 := aT0.trans (ab1.mono aT0.size)))
      have hT : (fun w' : World => w'.cell? ⟨w.heap.size, 0, none⟩ = some (.int .u8 m) ∧ w'.cell? ⟨w.heap.size, 1, none⟩ = some (.int .u8 q)) aw1 := HSB.out _ aT1
      refine hK.out _ _ (fun _ => hT) ?_
      clear hK K
      (try simp only [Act.put, List.setIfInBounds_toArray, List.set_cons_zero, List.set_cons_succ])
      refine Till.step (i := 7) (by kernel_rfl) rfl ?_
      intro K hK
      go_simp
      (go_at_call 20; refine (HIq.out _ (HT0.out.below (below_then aT1 HB.out HB.out.size))).mono ?_; rintro e aw2 ⟨rfl, ab2⟩; (have aT2 : Below w3.heap.size w3 aw2 := aT1.trans (ab2.mono aT1.size)))
      have hT : (fun w' : World => w'.cell? ⟨w.heap.size, 0, none⟩ = some (.int .u8 m) ∧ w'.cell? ⟨w.heap.size, 1, none⟩ = some (.int .u8 q)) aw2 := HSB.out _ aT2
      refine hK.out _ _ (fun _ => hT) ?_
      clear hK K
      (try simp only [Act.put, List.setIfInBounds_toArray, List.set_cons_zero, List.set_cons_succ])
      refine Till.step (i := 8) (by kernel_rfl) rfl ?_
      intro K hK
      go_simp
      have hT : (fun w' : World => w'.cell? ⟨w.heap.size, 0, none⟩ = some (.int .u8 m) ∧ w'.cell? ⟨w.heap.size, 1, none⟩ = some (.int .u8 q)) (aw2.alloc (.cells #[.string ⟨#[109, 97, 114, 107, 101, 100]⟩, .string s_m, .string s_q] 9)) := HSB.out _ (by first | exact aT2.alloc aT2.size _ | go_grown)
      refine hK.out _ _ (fun _ => hT) ?_
      clear hK K
      (try simp only [Act.put, List.setIfInBounds_toArray, List.set_cons_zero, List.set_cons_succ])
      have aTA : Below w3.heap.size w3 (aw2.alloc (.cells #[.string ⟨#[109, 97, 114, 107, 101, 100]⟩, .string s_m, .string s_q] 9)) := by first | exact aT2.alloc aT2.size _ | go_grown
      have ahh : (aw2.alloc (.cells #[.string ⟨#[109, 97, 114, 107, 101, 100]⟩, .string s_m, .string s_q] 9)).heap[aw2.heap.size]? = some (.cells #[.string ⟨#[109, 97, 114, 107, 101, 100]⟩, .string s_m, .string s_q] 9 (0, 0)) := heap_new _ _ rfl
      refine Till.step (i := 9) (by kernel_rfl) rfl ?_
      intro K hK
      go_simp
      (go_at_call 19; refine (HJ.out _ _ ahh).mono ?_; rintro e awj ⟨rfl, abj⟩; (have aTJ : Below w3.heap.size w3 awj := aTA.trans (abj.mono aTA.size)))
      have hT : (fun w' : World => w'.cell? ⟨w.heap.size, 0, none⟩ = some (.int .u8 m) ∧ w'.cell? ⟨w.heap.size, 1, none⟩ = some (.int .u8 q)) awj := HSB.out _ aTJ
      refine hK.out _ _ (fun _ => hT) ?_
      clear hK K
      (try simp only [Act.put, List.setIfInBounds_toArray, List.set_cons_zero, List.set_cons_succ])
      refine Till.step (i := 10) (by kernel_rfl) rfl ?_
      intro K hK
      go_simp
      (go_at_call 18; refine (write_c b ([]) sj awj (HL.out.below aTJ) (by have := HSZ.out; simp; omega)).mono ?_; rintro e awz ⟨rfl, abl, abz, akp⟩)
      refine hK.out _ _ (fun h => absurd h (by decide)) ?_
      clear hK K
      (try simp only [Act.put, List.setIfInBounds_toArray, List.set_cons_zero, List.set_cons_succ])
      refine Till.done (by kernel_rfl) ?_ _
      clear hT
      have HFn := Lib.hid (akp _ _ _ _ (heap_below HF.out aTJ) (by omega) (by decide))
      have HBn := Lib.hid ((below_then aTJ HB.out HB.out.size).trans (abz.mono (Nat.le_of_lt hwb)))
      have HLn := Lib.hid abl
      go_wp2_with fail
      go_meet
      rw [HSJ.out] at HLn
      exact ⟨HLn, HFn, HBn⟩
  case rest =>
  clear f0 f1 f2 f3 f4 f5 f6 f7
  clear HL HF HB
  obtain ⟨HL, HF, HB⟩ := hcut
  generalize wc = w4 at HL HF HB ⊢
  obtain ⟨⟨f0, f1, f2, f3, f4, f5, f6⟩, f7⟩ := obox7 HF.out
  have HHL := Lib.hid (head_len HR.out)
  go_wp2_with fail
  go_loopw [33] (fun i wr => ∃ j : Nat, j ≤ nk ∧ i = .int .i64 j ∧ Hid (Bld wr b (lnT (headT ⟨m, q, ks, hd, tl, ct, sm⟩) ++ (ks.take j).flatMap (kndL6 m))) ∧ Hid (wr.heap[w.heap.size]? = some (.cells #[.int .u8 m, .int .u8 q, .slice A nk c, .string hd, .string tl, .string ct, .string sm] 24 (0, 0))) ∧ Hid (Below w.heap.size w wr) ∧ Hid ((lnT (headT ⟨m, q, ks, hd, tl, ct, sm⟩) ++ (ks.take j).flatMap (kndL6 m)).length ≤ 200 + j * 10200)) (fun i _ => nk - (intOf i).toNat)
  case atStart => exact ⟨0, Nat.zero_le _, rfl, Lib.hid (by simpa using HL.out), HF, HB, Lib.hid (by simpa using HHL.out)⟩
  case round =>
    clear f0 f1 f2 f3 f4 f5 f6 f7
    clear HL HF HB
    obtain ⟨j, hj, rfl, HL, HF, HB, HLN⟩ := hrel
    have hnk30 : nk ≤ 30 := by rw [← HNK.out]; exact HZ.out.kinds
    rcases Nat.lt_or_ge j nk with hlt | hge
    · have hjL : j < ks.length := by rw [HNK.out]; exact hlt
      obtain ⟨b0, off, rfl, hb0, a0, a1, a2, a3⟩ := (HKI.out.below HB.out).cells hjL
      have hmem : kA ks j ∈ ks := by rw [← kA_get hjL]; exact List.getElem_mem _
      have HKR := Lib.hid (HR.out.kinds _ hmem); have HKZ := Lib.hid (HZ.out.each _ hmem)
      have HCO := Lib.hid (HKI.out.2.2 j hjL).1
      have HTK := Lib.hid (knd_take (m := m) hjL)
      obtain ⟨AJ, hAJ⟩ : ∃ x, FA j = x := ⟨_, rfl⟩
      obtain ⟨CJ, hCJ⟩ : ∃ x, FC j = x := ⟨_, rfl⟩
      obtain ⟨k0, hk0⟩ : ∃ x, kA ks j = x := ⟨_, rfl⟩
      rw [hAJ] at HCO
      rw [hAJ, hCJ] at a1
      rw [hk0] at a0 a1 a2 a3 HKR HKZ HCO HTK
      obtain ⟨tg, fs, ms, un⟩ := k0
      simp only at a0 a1 a2 a3 HCO
      obtain ⟨nf, hnf⟩ : ∃ x, fs.length = x := ⟨_, rfl⟩
      have HNF := Lib.hid hnf
      rw [hnf] at a1
      have hnf50 : nf ≤ 50 := by have := HKZ.out.2.2; simp only at this; omega
      have hms := HKR.out.most
      simp only at hms
      have HIms := Lib.hid (fun w h => itoa6_c ms w hms h)
      unfold RetS6 at HIms
      obtain ⟨s_ms, hsms⟩ : ∃ x, bs (Lib.itoa ms) = x := ⟨_, rfl⟩
      rw [hsms] at HIms
      have HWK := Lib.hid (show (kindT ⟨tg, fs, ms, un⟩).map bs = [⟨#[107, 105, 110, 100]⟩, tg, s_ms, bs (dshL un)] by rw [← hsms]; simp [kindT, bs_self]; rfl)
      have HWKl := Lib.hid (show (kindT ⟨tg, fs, ms, un⟩).length = 4 from rfl)
      have HKL := Lib.hid (kind_len HKR.out ⟨HKZ.out.1, HKZ.out.2.1⟩)
      clear hAJ hCJ hk0 hnf hms hsms hmem hjL
      obtain ⟨⟨f0, f1, f2, f3, f4, f5, f6⟩, f7⟩ := obox7 HF.out
      go_upto_region 11 with fail
      have HKn := Lib.hid (heap_new wr (.cells #[.string tg, .slice AJ nf CJ, .int .i64 ms, .string un] 48) rfl)
      have hgw : Below wr.heap.size wr (wr.alloc (.cells #[.string tg, .slice AJ nf CJ, .int .i64 ms, .string un] 48)) := by go_grown
      have HFn := Lib.hid (heap_below HF.out hgw); have HBn := Lib.hid (below_then hgw HB.out HB.out.size); have HLn := Lib.hid (HL.out.below hgw)
      have hbk := HL.out.lt
      obtain ⟨kb, hkb⟩ : ∃ x, wr.heap.size = x := ⟨_, rfl⟩
      rw [hkb] at HKn hbk ⊢
      generalize wr.alloc (.cells #[.string tg, .slice AJ nf CJ, .int .i64 ms, .string un] 48) = v1 at HKn HFn HBn HLn ⊢
      clear f0 f1 f2 f3 f4 f5 f6 f7
      clear HF HB HL hgw a0 a1 a2 a3 hb0 hkb
      have HF := HFn; have HB := HBn; have HL := HLn; have HK := HKn
      clear HFn HBn HLn HKn
      obtain ⟨⟨g0, g1, g2, g3⟩, -, g5⟩ := obox4 HK.out
      obtain ⟨sj, hsj⟩ : ∃ x, bs (lnT (kindT ⟨tg, fs, ms, un⟩)) = x := ⟨_, rfl⟩
      have HSJ := Lib.hid (show sj.data.toList = lnT (kindT ⟨tg, fs, ms, un⟩) by rw [← hsj, bs_toList])
      have HSZ := Lib.hid (show sj.size ≤ 200 by rw [← hsj, bs_size]; exact HKL.out)
      have HJ := Lib.hid (show ∀ (x : World) (g : Nat), x.heap[g]? = some (.cells #[.string ⟨#[107, 105, 110, 100]⟩, .string tg, .string s_ms, .string (bs (dshL un))] 9 (0, 0)) → Calls Tryz.prog 19 #[.slice (some ⟨g, 0, none⟩) 4 4] x (RetS6 sj x) from fun x g hh => by
        have h1 := kjoin_c (kindT ⟨tg, fs, ms, un⟩) g 4 x (by rw [HWK.out]; exact sts_new hh) (by rw [HWKl.out]; decide) (by rw [HWKl.out]; decide) (Nat.le_trans HKL.out (by decide))
        rw [HWKl.out, hsj] at h1
        exact h1)
      clear hsj
      have HSB := Lib.hid (show ∀ wx, Below v1.heap.size v1 wx → (fun w' : World => w'.cell? ⟨kb, 0, none⟩ = some (.string tg) ∧ w'.cell? ⟨kb, 2, none⟩ = some (.int .i64 ms) ∧ w'.cell? ⟨kb, 3, none⟩ = some (.string un)) wx from fun wx T => ⟨(T.cell (p := ⟨kb, 0, none⟩) g5).trans g0, (T.cell (p := ⟨kb, 2, none⟩) g5).trans g2, (T.cell (p := ⟨kb, 3, none⟩) g5).trans g3⟩)
      refine region_till 10 (fun w' => w'.cell? ⟨kb, 0, none⟩ = some (.string tg) ∧ w'.cell? ⟨kb, 2, none⟩ = some (.int .i64 ms) ∧ w'.cell? ⟨kb, 3, none⟩ = some (.string un)) (by kernel_rfl) ?_
      have kT0 : Below v1.heap.size v1 v1.drew := (Below.refl _ _).drew
      have hT : (fun w' : World => w'.cell? ⟨kb, 0, none⟩ = some (.string tg) ∧ w'.cell? ⟨kb, 2, none⟩ = some (.int .i64 ms) ∧ w'.cell? ⟨kb, 3, none⟩ = some (.string un)) v1.drew := ⟨g0, g2, g3⟩
      refine Till.take (i := 0) (v := ?_) rfl (by kernel_rfl) (by kernel_rfl) (by kernel_rfl) [1, 8, 9] (by kernel_rfl) (by decide) (by kernel_rfl) (by kernel_rfl) (fun _ _ _ h => h) hT (Or.inl ⟨by rfl, ?_⟩) ?_
      rotate_left
      · (intro w' hw'; obtain ⟨u1, u2, u3⟩ := hw'; go_simp; try with_reducible rfl)
      (try simp only [Act.put, List.setIfInBounds_toArray, List.set_cons_zero, List.set_cons_succ])
      refine Till.take (i := 1) (v := ?_) rfl (by kernel_rfl) (by kernel_rfl) (by kernel_rfl) [8, 9] (by kernel_rfl) (by decide) (by kernel_rfl) (by kernel_rfl) (fun _ _ _ h => h) hT (Or.inl ⟨by rfl, ?_⟩) ?_
      rotate_left
      · (intro w' hw'; obtain ⟨u1, u2, u3⟩ := hw'; go_simp; try with_reducible rfl)
      (try simp only [Act.put, List.setIfInBounds_toArray, List.set_cons_zero, List.set_cons_succ])
      refine Till.take (i := 2) (v := ?_) rfl (by kernel_rfl) (by kernel_rfl) (by kernel_rfl) [3, 4, 7, 8, 9] (by kernel_rfl) (by decide) (by kernel_rfl) (by kernel_rfl) (fun _ _ _ h => h) hT (Or.inl ⟨by rfl, ?_⟩) ?_
      rotate_left
      · (intro w' hw'; obtain ⟨u1, u2, u3⟩ := hw'; go_simp; try with_reducible rfl)
      (try simp only [Act.put, List.setIfInBounds_toArray, List.set_cons_zero, List.set_cons_succ])
      refine Till.take (i := 3) (v := ?_) rfl (by kernel_rfl) (by kernel_rfl) (by kernel_rfl) [4, 7, 8, 9] (by kernel_rfl) (by decide) (by kernel_rfl) (by kernel_rfl) (fun _ _ _ h => h) hT (Or.inl ⟨by rfl, ?_⟩) ?_
      rotate_left
      · (intro w' hw'; obtain ⟨u1, u2, u3⟩ := hw'; go_simp; try with_reducible rfl)
      (try simp only [Act.put, List.setIfInBounds_toArray, List.set_cons_zero, List.set_cons_succ])
      refine Till.take (i := 5) (v := ?_) rfl (by kernel_rfl) (by kernel_rfl) (by kernel_rfl) [6, 7, 8, 9] (by kernel_rfl) (by decide) (by kernel_rfl) (by kernel_rfl) (fun _ _ _ h => h) hT (Or.inl ⟨by rfl, ?_⟩) ?_
      rotate_left
      · (intro w' hw'; obtain ⟨u1, u2, u3⟩ := hw'; go_simp; try with_reducible rfl)
      (try simp only [Act.put, List.setIfInBounds_toArray, List.set_cons_zero, List.set_cons_succ])
      refine Till.take (i := 6) (v := ?_) rfl (by kernel_rfl) (by kernel_rfl) (by kernel_rfl) [7, 8, 9] (by kernel_rfl) (by decide) (by kernel_rfl) (by kernel_rfl) (fun _ _ _ h => h) hT (Or.inl ⟨by rfl, ?_⟩) ?_
      rotate_left
      · (intro w' hw'; obtain ⟨u1, u2, u3⟩ := hw'; go_simp; try with_reducible rfl)
      (try simp only [Act.put, List.setIfInBounds_toArray, List.set_cons_zero, List.set_cons_succ])
      refine Till.step (i := 4) (by kernel_rfl) rfl ?_
      intro K hK
      go_simp
      (go_at_call 20; refine (HIms.out _ (HT0.out.below (below_then kT0 HB.out HB.out.size))).mono ?_; rintro e kw1 ⟨rfl, kb1⟩; (have kT1 : Below v1.heap.size v1 kw1 := kT0.trans (kb1.mono kT0.size)))
      have hT : (fun w' : World => w'.cell? ⟨kb, 0, none⟩ = some (.string tg) ∧ w'.cell? ⟨kb, 2, none⟩ = some (.int .i64 ms) ∧ w'.cell? ⟨kb, 3, none⟩ = some (.string un)) kw1 := HSB.out _ kT1
      refine hK.out _ _ (fun _ => hT) ?_
      clear hK K
      (try simp only [Act.put, List.setIfInBounds_toArray, List.set_cons_zero, List.set_cons_succ])
      refine Till.step (i := 7) (by kernel_rfl) rfl ?_
      intro K hK
      go_simp
      (go_at_call 21; refine (dash_c _ _).mono ?_; rintro e wD ⟨eD, rfl⟩; subst eD)
      have hT : (fun w' : World => w'.cell? ⟨kb, 0, none⟩ = some (.string tg) ∧ w'.cell? ⟨kb, 2, none⟩ = some (.int .i64 ms) ∧ w'.cell? ⟨kb, 3, none⟩ = some (.string un)) kw1 := HSB.out _ kT1
      refine hK.out _ _ (fun _ => hT) ?_
      clear hK K
      (try simp only [Act.put, List.setIfInBounds_toArray, List.set_cons_zero, List.set_cons_succ])
      refine Till.step (i := 8) (by kernel_rfl) rfl ?_
      intro K hK
      go_simp
      have hT : (fun w' : World => w'.cell? ⟨kb, 0, none⟩ = some (.string tg) ∧ w'.cell? ⟨kb, 2, none⟩ = some (.int .i64 ms) ∧ w'.cell? ⟨kb, 3, none⟩ = some (.string un)) (kw1.alloc (.cells #[.string ⟨#[107, 105, 110, 100]⟩, .string tg, .string s_ms, .string (bs (dshL un))] 9)) := HSB.out _ (by first | exact kT1.alloc kT1.size _ | go_grown)
      refine hK.out _ _ (fun _ => hT) ?_
      clear hK K
      (try simp only [Act.put, List.setIfInBounds_toArray, List.set_cons_zero, List.set_cons_succ])
      have kTA : Below v1.heap.size v1 (kw1.alloc (.cells #[.string ⟨#[107, 105, 110, 100]⟩, .string tg, .string s_ms, .string (bs (dshL un))] 9)) := by first | exact kT1.alloc kT1.size _ | go_grown
      have khh : (kw1.alloc (.cells #[.string ⟨#[107, 105, 110, 100]⟩, .string tg, .string s_ms, .string (bs (dshL un))] 9)).heap[kw1.heap.size]? = some (.cells #[.string ⟨#[107, 105, 110, 100]⟩, .string tg, .string s_ms, .string (bs (dshL un))] 9 (0, 0)) := heap_new _ _ rfl
      refine Till.step (i := 9) (by kernel_rfl) rfl ?_
      intro K hK
      go_simp
      (go_at_call 19; refine (HJ.out _ _ khh).mono ?_; rintro e kwj ⟨rfl, kbj⟩; (have kTJ : Below v1.heap.size v1 kwj := kTA.trans (kbj.mono kTA.size)))
      have hT : (fun w' : World => w'.cell? ⟨kb, 0, none⟩ = some (.string tg) ∧ w'.cell? ⟨kb, 2, none⟩ = some (.int .i64 ms) ∧ w'.cell? ⟨kb, 3, none⟩ = some (.string un)) kwj := HSB.out _ kTJ
      refine hK.out _ _ (fun _ => hT) ?_
      clear hK K
      (try simp only [Act.put, List.setIfInBounds_toArray, List.set_cons_zero, List.set_cons_succ])
      refine Till.step (i := 10) (by kernel_rfl) rfl ?_
      intro K hK
      go_simp
      (go_at_call 18; refine (write_c b ((lnT (headT ⟨m, q, ks, hd, tl, ct, sm⟩) ++ (ks.take j).flatMap (kndL6 m))) sj kwj (HL.out.below kTJ) (by have := HSZ.out; have := HLN.out; omega)).mono ?_; rintro e kwz ⟨rfl, kbl, kbz, kkp⟩)
      refine hK.out _ _ (fun h => absurd h (by decide)) ?_
      clear hK K
      (try simp only [Act.put, List.setIfInBounds_toArray, List.set_cons_zero, List.set_cons_succ])
      refine Till.done (by kernel_rfl) ?_ _
      clear hT
      have HFn := Lib.hid (kkp _ _ _ _ (heap_below HF.out kTJ) (by omega) (by decide))
      have HBn := Lib.hid ((below_then kTJ HB.out HB.out.size).trans (kbz.mono (Nat.le_of_lt hwb)))
      have HLn := Lib.hid kbl
      have HKn := Lib.hid (kkp _ _ _ _ (heap_below HK.out kTJ) (by omega) (by decide))
      obtain ⟨LB, hLB⟩ : ∃ x, (lnT (headT ⟨m, q, ks, hd, tl, ct, sm⟩) ++ (ks.take j).flatMap (kndL6 m)) ++ sj.data.toList = x := ⟨_, rfl⟩
      have HLB := Lib.hid (show LB = (lnT (headT ⟨m, q, ks, hd, tl, ct, sm⟩) ++ (ks.take j).flatMap (kndL6 m)) ++ lnT (kindT ⟨tg, fs, ms, un⟩) by rw [← hLB, HSJ.out])
      have HLBN := Lib.hid (show LB.length ≤ 400 + j * 10200 by rw [← hLB, List.length_append, HSJ.out]; have := HKL.out; have := HLN.out; omega)
      rw [hLB] at HLn
      clear hLB HJ HSB HIms kbl kbz kkp kTJ kbj kTA khh kT0 kT1 kb1 g0 g1 g2 g3 g5 HF HB HL HK HLN
      generalize kwz = v2 at HFn HBn HLn HKn ⊢
      have HF := HFn; have HB := HBn; have HL := HLn; have HK := HKn
      clear HFn HBn HLn HKn
      obtain ⟨⟨g0, g1, g2, g3⟩, -, g5⟩ := obox4 HK.out
      go_wp2_with fail
      clear g0 g1 g2 g3 g5 HK
      go_loopw [51] (fun i wr => ∃ t : Nat, t ≤ nf ∧ i = .int .i64 t ∧ Hid (Bld wr b (LB ++ ((fs.take t).map (colT m)).flatMap lnT)) ∧ Hid (wr.heap[w.heap.size]? = some (.cells #[.int .u8 m, .int .u8 q, .slice (some ⟨b0, off, none⟩) nk c, .string hd, .string tl, .string ct, .string sm] 24 (0, 0))) ∧ Hid (Below w.heap.size w wr) ∧ Hid ((LB ++ ((fs.take t).map (colT m)).flatMap lnT).length ≤ 400 + j * 10200 + t * 200)) (fun i _ => nf - (intOf i).toNat)
      case atStart => exact ⟨0, Nat.zero_le _, rfl, Lib.hid (by simpa using HL.out), HF, HB, Lib.hid (by simpa using HLBN.out)⟩
      case round =>
        clear HL HF HB
        obtain ⟨t, ht, rfl, HL, HF, HB, HLN⟩ := hrel
        rcases Nat.lt_or_ge t nf with htl | htg
        · have htL : t < fs.length := by rw [HNF.out]; exact htl
          obtain ⟨b1, off1, rfl, hb1, d0, d1, d2, d3, d4, d5, d6, d7⟩ := (HCO.out.below HB.out).cells htL
          have hcm : cA fs t ∈ fs := by rw [← cA_get htL]; exact List.getElem_mem _
          have HCR := Lib.hid (HKR.out.cols _ hcm)
          have HTC := Lib.hid (col_take (m := m) htL)
          obtain ⟨co, hco⟩ : ∃ x, cA fs t = x := ⟨_, rfl⟩
          rw [hco] at d0 d1 d2 d3 d4 d5 d6 d7 HCR HTC
          have HCT := Lib.hid (fun w h => coltext_c ⟨m, q, ks, hd, tl, ct, sm⟩ (some ⟨b0, off, none⟩) c co w HCR.out h)
          have HCL := Lib.hid (col_len HCR.out)
          simp only at HCT HCL
          obtain ⟨sc, hsc⟩ : ∃ x, bs (lnT (colT m co)) = x := ⟨_, rfl⟩
          have HSC := Lib.hid (show sc.data.toList = lnT (colT m co) by rw [← hsc, bs_toList])
          have HSCZ := Lib.hid (show sc.size ≤ 200 by rw [← hsc, bs_size]; exact HCL.out)
          rw [hsc] at HCT
          obtain ⟨nm, kd, wi, pl, fo, rt, fi, ne⟩ := co
          unfold fmtG colG RetS6 at HCT
          simp only at d0 d1 d2 d3 d4 d5 d6 d7 HCT
          rw [HNK.out] at HCT
          clear hco hsc hcm htL HCL
          obtain ⟨⟨f0, f1, f2, f3, f4, f5, f6⟩, f7⟩ := obox7 HF.out
          go_upto_region 15 with fail
          have HCn := Lib.hid (heap_new wr (.cells #[.string nm, .int .i64 kd, .int .i64 wi, .int .i64 pl, .int .i64 fo, .bool rt, .int .u8 fi, .bool ne] 51) rfl)
          have hgw : Below wr.heap.size wr (wr.alloc (.cells #[.string nm, .int .i64 kd, .int .i64 wi, .int .i64 pl, .int .i64 fo, .bool rt, .int .u8 fi, .bool ne] 51)) := by go_grown
          have HFn := Lib.hid (heap_below HF.out hgw); have HBn := Lib.hid (below_then hgw HB.out HB.out.size); have HLn := Lib.hid (HL.out.below hgw)
          obtain ⟨cb, hcb⟩ : ∃ x, wr.heap.size = x := ⟨_, rfl⟩
          rw [hcb] at HCn ⊢
          generalize wr.alloc (.cells #[.string nm, .int .i64 kd, .int .i64 wi, .int .i64 pl, .int .i64 fo, .bool rt, .int .u8 fi, .bool ne] 51) = x1 at HCn HFn HBn HLn ⊢
          clear f0 f1 f2 f3 f4 f5 f6 f7
          clear HF HB HL hgw d0 d1 d2 d3 d4 d5 d6 d7 hb1 hcb
          have HF := HFn; have HB := HBn; have HL := HLn
          clear HFn HBn HLn
          obtain ⟨⟨h0, h1, h2, h3, h4, h5, h6, h7⟩, -, h8⟩ := obox8f HCn.out
          obtain ⟨⟨f0, f1, f2, f3, f4, f5, f6⟩, f7⟩ := obox7 HF.out
          go_wp2_with fail
          refine (HCT.out _ (HT0.out.below HB.out)).mono ?_
          rintro e x2 ⟨rfl, hb2⟩
          go_wp2_with fail
          refine (write_c b _ sc x2 (HL.out.below hb2) (by have := HSCZ.out; have := HLN.out; omega)).mono ?_
          rintro e x3 ⟨rfl, hbl, hbz, hkp⟩
          have HFn := Lib.hid (hkp _ _ _ _ (heap_below HF.out hb2) HNE.out (by decide))
          have HBn := Lib.hid ((below_then hb2 HB.out HB.out.size).trans (hbz.mono (Nat.le_of_lt hwb)))
          rw [HSC.out, List.append_assoc, ← HTC.out] at hbl
          have HLn := Lib.hid hbl
          have HLNn := Lib.hid (show (LB ++ ((fs.take (t + 1)).map (colT m)).flatMap lnT).length ≤ 400 + j * 10200 + (t + 1) * 200 by
            rw [HTC.out, ← List.append_assoc, List.length_append, ← HSC.out]
            have h1 := HLN.out; have h2 := HSCZ.out
            have h3 : sc.data.toList.length = sc.size := by simp
            omega)
          clear hbl hbz hkp hb2 HCn h0 h1 h2 h3 h4 h5 h6 h7 h8 HF HB HL HLN HTC
          clear f0 f1 f2 f3 f4 f5 f6 f7
          go_wp2
          go_roundw
          case rel => exact ⟨t + 1, by omega, by go_num, HLn, HFn, HBn, HLNn⟩
          case measure => simp [intOf]; omega
        · obtain rfl : t = nf := by omega
          have HLn := Lib.hid (show Bld wr b (lnT (headT ⟨m, q, ks, hd, tl, ct, sm⟩) ++ (ks.take (j + 1)).flatMap (kndL6 m)) by
            rw [HTK.out, show kndL6 m ⟨tg, fs, ms, un⟩ = lnT (kindT ⟨tg, fs, ms, un⟩) ++ (fs.map (colT m)).flatMap lnT from rfl]
            have h1 := HL.out
            rw [HLB.out, ← HNF.out, List.take_length, List.append_assoc, List.append_assoc] at h1
            exact h1)
          have HLNn := Lib.hid (show (lnT (headT ⟨m, q, ks, hd, tl, ct, sm⟩) ++ (ks.take (j + 1)).flatMap (kndL6 m)).length ≤ 200 + (j + 1) * 10200 by
            rw [HTK.out, show kndL6 m ⟨tg, fs, ms, un⟩ = lnT (kindT ⟨tg, fs, ms, un⟩) ++ (fs.map (colT m)).flatMap lnT from rfl]
            have h1 := HLN.out
            rw [HLB.out, ← HNF.out, List.take_length, List.append_assoc, List.append_assoc] at h1
            have h2 : fs.length ≤ 50 := by rw [HNF.out]; exact hnf50
            omega)
          clear HL HLN
          go_wp2
          go_roundw
          case rel => exact ⟨j + 1, by omega, by go_num, HLn, HF, HB, HLNn⟩
          case measure => simp [intOf]; omega
    · obtain rfl : j = nk := by omega
      have HWE := Lib.hid (show (endsT ⟨m, q, ks, hd, tl, ct, sm⟩).map bs = [⟨#[101, 110, 100, 115]⟩, bs (dshL hd), bs (dshL tl), bs (dshL ct), bs (dshL sm)] by unfold endsT; simp only [List.map_cons, List.map_nil]; rfl)
      have HWEl := Lib.hid (show (endsT ⟨m, q, ks, hd, tl, ct, sm⟩).length = 5 from rfl)
      have HEL := Lib.hid (ends_len HR.out HZ.out)
      have HPN := Lib.hid (show TX = (lnT (headT ⟨m, q, ks, hd, tl, ct, sm⟩) ++ (ks.take j).flatMap (kndL6 m)) ++ lnT (endsT ⟨m, q, ks, hd, tl, ct, sm⟩) by rw [HPT.out, ← HNK.out, List.take_length])
      have hbk := HL.out.lt
      obtain ⟨sj, hsj⟩ : ∃ x, bs (lnT (endsT ⟨m, q, ks, hd, tl, ct, sm⟩)) = x := ⟨_, rfl⟩
      have HSJ := Lib.hid (show sj.data.toList = lnT (endsT ⟨m, q, ks, hd, tl, ct, sm⟩) by rw [← hsj, bs_toList])
      have HSZ := Lib.hid (show sj.size ≤ 200 by rw [← hsj, bs_size]; exact HEL.out)
      have HJ := Lib.hid (show ∀ (x : World) (g : Nat), x.heap[g]? = some (.cells #[.string ⟨#[101, 110, 100, 115]⟩, .string (bs (dshL hd)), .string (bs (dshL tl)), .string (bs (dshL ct)), .string (bs (dshL sm))] 9 (0, 0)) → Calls Tryz.prog 19 #[.slice (some ⟨g, 0, none⟩) 5 5] x (RetS6 sj x) from fun x g hh => by
        have h1 := kjoin_c (endsT ⟨m, q, ks, hd, tl, ct, sm⟩) g 5 x (by rw [HWE.out]; exact sts_new hh) (by rw [HWEl.out]; decide) (by rw [HWEl.out]; decide) (Nat.le_trans HEL.out (by decide))
        rw [HWEl.out, hsj] at h1
        exact h1)
      clear hsj
      obtain ⟨⟨f0, f1, f2, f3, f4, f5, f6⟩, f7⟩ := obox7 HF.out
      have HSB := Lib.hid (show ∀ wx, Below wr.heap.size wr wx → (fun w' : World => w'.cell? ⟨w.heap.size, 3, none⟩ = some (.string hd) ∧ w'.cell? ⟨w.heap.size, 4, none⟩ = some (.string tl) ∧ w'.cell? ⟨w.heap.size, 5, none⟩ = some (.string ct) ∧ w'.cell? ⟨w.heap.size, 6, none⟩ = some (.string sm)) wx from fun wx T => ⟨(T.cell (p := ⟨w.heap.size, 3, none⟩) f7).trans f3, (T.cell (p := ⟨w.heap.size, 4, none⟩) f7).trans f4, (T.cell (p := ⟨w.heap.size, 5, none⟩) f7).trans f5, (T.cell (p := ⟨w.heap.size, 6, none⟩) f7).trans f6⟩)
      go_upto_region 18 with fail
      refine region_till 14 (fun w' => w'.cell? ⟨w.heap.size, 3, none⟩ = some (.string hd) ∧ w'.cell? ⟨w.heap.size, 4, none⟩ = some (.string tl) ∧ w'.cell? ⟨w.heap.size, 5, none⟩ = some (.string ct) ∧ w'.cell? ⟨w.heap.size, 6, none⟩ = some (.string sm)) (by kernel_rfl) ?_
      have eT0 : Below wr.heap.size wr wr.drew := (Below.refl _ _).drew
      have hT : (fun w' : World => w'.cell? ⟨w.heap.size, 3, none⟩ = some (.string hd) ∧ w'.cell? ⟨w.heap.size, 4, none⟩ = some (.string tl) ∧ w'.cell? ⟨w.heap.size, 5, none⟩ = some (.string ct) ∧ w'.cell? ⟨w.heap.size, 6, none⟩ = some (.string sm)) wr.drew := ⟨f3, f4, f5, f6⟩
      refine Till.take (i := 0) (v := ?_) rfl (by kernel_rfl) (by kernel_rfl) (by kernel_rfl) [1, 2, 5, 8, 11, 12, 13] (by kernel_rfl) (by decide) (by kernel_rfl) (by kernel_rfl) (fun _ _ _ h => h) hT (Or.inl ⟨by rfl, ?_⟩) ?_
      rotate_left
      · (intro w' hw'; obtain ⟨u1, u2, u3, u4⟩ := hw'; go_simp; try with_reducible rfl)
      (try simp only [Act.put, List.setIfInBounds_toArray, List.set_cons_zero, List.set_cons_succ])
      refine Till.take (i := 1) (v := ?_) rfl (by kernel_rfl) (by kernel_rfl) (by kernel_rfl) [2, 5, 8, 11, 12, 13] (by kernel_rfl) (by decide) (by kernel_rfl) (by kernel_rfl) (fun _ _ _ h => h) hT (Or.inl ⟨by rfl, ?_⟩) ?_
      rotate_left
      · (intro w' hw'; obtain ⟨u1, u2, u3, u4⟩ := hw'; go_simp; try with_reducible rfl)
      (try simp only [Act.put, List.setIfInBounds_toArray, List.set_cons_zero, List.set_cons_succ])
      refine Till.take (i := 3) (v := ?_) rfl (by kernel_rfl) (by kernel_rfl) (by kernel_rfl) [4, 5, 8, 11, 12, 13] (by kernel_rfl) (by decide) (by kernel_rfl) (by kernel_rfl) (fun _ _ _ h => h) hT (Or.inl ⟨by rfl, ?_⟩) ?_
      rotate_left
      · (intro w' hw'; obtain ⟨u1, u2, u3, u4⟩ := hw'; go_simp; try with_reducible rfl)
      (try simp only [Act.put, List.setIfInBounds_toArray, List.set_cons_zero, List.set_cons_succ])
      refine Till.take (i := 4) (v := ?_) rfl (by kernel_rfl) (by kernel_rfl) (by kernel_rfl) [5, 8, 11, 12, 13] (by kernel_rfl) (by decide) (by kernel_rfl) (by kernel_rfl) (fun _ _ _ h => h) hT (Or.inl ⟨by rfl, ?_⟩) ?_
      rotate_left
      · (intro w' hw'; obtain ⟨u1, u2, u3, u4⟩ := hw'; go_simp; try with_reducible rfl)
      (try simp only [Act.put, List.setIfInBounds_toArray, List.set_cons_zero, List.set_cons_succ])
      refine Till.take (i := 6) (v := ?_) rfl (by kernel_rfl) (by kernel_rfl) (by kernel_rfl) [7, 8, 11, 12, 13] (by kernel_rfl) (by decide) (by kernel_rfl) (by kernel_rfl) (fun _ _ _ h => h) hT (Or.inl ⟨by rfl, ?_⟩) ?_
      rotate_left
      · (intro w' hw'; obtain ⟨u1, u2, u3, u4⟩ := hw'; go_simp; try with_reducible rfl)
      (try simp only [Act.put, List.setIfInBounds_toArray, List.set_cons_zero, List.set_cons_succ])
      refine Till.take (i := 7) (v := ?_) rfl (by kernel_rfl) (by kernel_rfl) (by kernel_rfl) [8, 11, 12, 13] (by kernel_rfl) (by decide) (by kernel_rfl) (by kernel_rfl) (fun _ _ _ h => h) hT (Or.inl ⟨by rfl, ?_⟩) ?_
      rotate_left
      · (intro w' hw'; obtain ⟨u1, u2, u3, u4⟩ := hw'; go_simp; try with_reducible rfl)
      (try simp only [Act.put, List.setIfInBounds_toArray, List.set_cons_zero, List.set_cons_succ])
      refine Till.take (i := 9) (v := ?_) rfl (by kernel_rfl) (by kernel_rfl) (by kernel_rfl) [10, 11, 12, 13] (by kernel_rfl) (by decide) (by kernel_rfl) (by kernel_rfl) (fun _ _ _ h => h) hT (Or.inl ⟨by rfl, ?_⟩) ?_
      rotate_left
      · (intro w' hw'; obtain ⟨u1, u2, u3, u4⟩ := hw'; go_simp; try with_reducible rfl)
      (try simp only [Act.put, List.setIfInBounds_toArray, List.set_cons_zero, List.set_cons_succ])
      refine Till.take (i := 10) (v := ?_) rfl (by kernel_rfl) (by kernel_rfl) (by kernel_rfl) [11, 12, 13] (by kernel_rfl) (by decide) (by kernel_rfl) (by kernel_rfl) (fun _ _ _ h => h) hT (Or.inl ⟨by rfl, ?_⟩) ?_
      rotate_left
      · (intro w' hw'; obtain ⟨u1, u2, u3, u4⟩ := hw'; go_simp; try with_reducible rfl)
      (try simp only [Act.put, List.setIfInBounds_toArray, List.set_cons_zero, List.set_cons_succ])
      refine Till.step (i := 2) (by kernel_rfl) rfl ?_
      intro K hK
      go_simp
      (go_at_call 21; refine (dash_c _ _).mono ?_; rintro e wD ⟨eD, rfl⟩; subst eD)
      have hT : (fun w' : World => w'.cell? ⟨w.heap.size, 3, none⟩ = some (.string hd) ∧ w'.cell? ⟨w.heap.size, 4, none⟩ = some (.string tl) ∧ w'.cell? ⟨w.heap.size, 5, none⟩ = some (.string ct) ∧ w'.cell? ⟨w.heap.size, 6, none⟩ = some (.string sm)) wr.drew := HSB.out _ eT0
      refine hK.out _ _ (fun _ => hT) ?_
      clear hK K
      (try simp only [Act.put, List.setIfInBounds_toArray, List.set_cons_zero, List.set_cons_succ])
      refine Till.step (i := 5) (by kernel_rfl) rfl ?_
      intro K hK
      go_simp
      (go_at_call 21; refine (dash_c _ _).mono ?_; rintro e wD ⟨eD, rfl⟩; subst eD)
      have hT : (fun w' : World => w'.cell? ⟨w.heap.size, 3, none⟩ = some (.string hd) ∧ w'.cell? ⟨w.heap.size, 4, none⟩ = some (.string tl) ∧ w'.cell? ⟨w.heap.size, 5, none⟩ = some (.string ct) ∧ w'.cell? ⟨w.heap.size, 6, none⟩ = some (.string sm)) wr.drew := HSB.out _ eT0
      refine hK.out _ _ (fun _ => hT) ?_
      clear hK K
      (try simp only [Act.put, List.setIfInBounds_toArray, List.set_cons_zero, List.set_cons_succ])
      refine Till.step (i := 8) (by kernel_rfl) rfl ?_
      intro K hK
      go_simp
      (go_at_call 21; refine (dash_c _ _).mono ?_; rintro e wD ⟨eD, rfl⟩; subst eD)
      have hT : (fun w' : World => w'.cell? ⟨w.heap.size, 3, none⟩ = some (.string hd) ∧ w'.cell? ⟨w.heap.size, 4, none⟩ = some (.string tl) ∧ w'.cell? ⟨w.heap.size, 5, none⟩ = some (.string ct) ∧ w'.cell? ⟨w.heap.size, 6, none⟩ = some (.string sm)) wr.drew := HSB.out _ eT0
      refine hK.out _ _ (fun _ => hT) ?_
      clear hK K
      (try simp only [Act.put, List.setIfInBounds_toArray, List.set_cons_zero, List.set_cons_succ])
      refine Till.step (i := 11) (by kernel_rfl) rfl ?_
      intro K hK
      go_simp
      (go_at_call 21; refine (dash_c _ _).mono ?_; rintro e wD ⟨eD, rfl⟩; subst eD)
      have hT : (fun w' : World => w'.cell? ⟨w.heap.size, 3, none⟩ = some (.string hd) ∧ w'.cell? ⟨w.heap.size, 4, none⟩ = some (.string tl) ∧ w'.cell? ⟨w.heap.size, 5, none⟩ = some (.string ct) ∧ w'.cell? ⟨w.heap.size, 6, none⟩ = some (.string sm)) wr.drew := HSB.out _ eT0
      refine hK.out _ _ (fun _ => hT) ?_
      clear hK K
      (try simp only [Act.put, List.setIfInBounds_toArray, List.set_cons_zero, List.set_cons_succ])
      refine Till.step (i := 12) (by kernel_rfl) rfl ?_
      intro K hK
      go_simp
      have hT : (fun w' : World => w'.cell? ⟨w.heap.size, 3, none⟩ = some (.string hd) ∧ w'.cell? ⟨w.heap.size, 4, none⟩ = some (.string tl) ∧ w'.cell? ⟨w.heap.size, 5, none⟩ = some (.string ct) ∧ w'.cell? ⟨w.heap.size, 6, none⟩ = some (.string sm)) ((wr.alloc (.cells #[.string ⟨#[101, 110, 100, 115]⟩, .string (bs (dshL hd)), .string (bs (dshL tl)), .string (bs (dshL ct)), .string (bs (dshL sm))] 9)).drew) := HSB.out _ (by first | exact eT0.alloc eT0.size _ | go_grown)
      refine hK.out _ _ (fun _ => hT) ?_
      clear hK K
      (try simp only [Act.put, List.setIfInBounds_toArray, List.set_cons_zero, List.set_cons_succ])
      have eTA : Below wr.heap.size wr ((wr.alloc (.cells #[.string ⟨#[101, 110, 100, 115]⟩, .string (bs (dshL hd)), .string (bs (dshL tl)), .string (bs (dshL ct)), .string (bs (dshL sm))] 9)).drew) := by first | exact eT0.alloc eT0.size _ | go_grown
      have ehh : ((wr.alloc (.cells #[.string ⟨#[101, 110, 100, 115]⟩, .string (bs (dshL hd)), .string (bs (dshL tl)), .string (bs (dshL ct)), .string (bs (dshL sm))] 9)).drew).heap[wr.heap.size]? = some (.cells #[.string ⟨#[101, 110, 100, 115]⟩, .string (bs (dshL hd)), .string (bs (dshL tl)), .string (bs (dshL ct)), .string (bs (dshL sm))] 9 (0, 0)) := heap_new _ _ rfl
      refine Till.step (i := 13) (by kernel_rfl) rfl ?_
      intro K hK
      go_simp
      (go_at_call 19; refine (HJ.out _ _ ehh).mono ?_; rintro e ewj ⟨rfl, ebj⟩; (have eTJ : Below wr.heap.size wr ewj := eTA.trans (ebj.mono eTA.size)))
      have hT : (fun w' : World => w'.cell? ⟨w.heap.size, 3, none⟩ = some (.string hd) ∧ w'.cell? ⟨w.heap.size, 4, none⟩ = some (.string tl) ∧ w'.cell? ⟨w.heap.size, 5, none⟩ = some (.string ct) ∧ w'.cell? ⟨w.heap.size, 6, none⟩ = some (.string sm)) ewj := HSB.out _ eTJ
      refine hK.out _ _ (fun _ => hT) ?_
      clear hK K
      (try simp only [Act.put, List.setIfInBounds_toArray, List.set_cons_zero, List.set_cons_succ])
      refine Till.step (i := 14) (by kernel_rfl) rfl ?_
      intro K hK
      go_simp
      (go_at_call 18; refine (write_c b ((lnT (headT ⟨m, q, ks, hd, tl, ct, sm⟩) ++ (ks.take j).flatMap (kndL6 m))) sj ewj (HL.out.below eTJ) (by have := HSZ.out; have := HLN.out; omega)).mono ?_; rintro e ewz ⟨rfl, ebl, ebz, ekp⟩)
      refine hK.out _ _ (fun h => absurd h (by decide)) ?_
      clear hK K
      (try simp only [Act.put, List.setIfInBounds_toArray, List.set_cons_zero, List.set_cons_succ])
      refine Till.done (by kernel_rfl) ?_ _
      clear hT
      have HFn := Lib.hid (ekp _ _ _ _ (heap_below HF.out eTJ) (by omega) (by decide))
      have HBn := Lib.hid ((below_then eTJ HB.out HB.out.size).trans (ebz.mono (Nat.le_of_lt hwb)))
      have HLn := Lib.hid ebl
      rw [HSJ.out, ← HPN.out] at HLn
      have HSTR := Lib.hid (bstr_c b TX ewz HLn.out)
      have HSS2 := Lib.hid (show bs TX = SS by have := HSS.out; simpa using this)
      rw [HSS2.out] at HSTR
      clear HPN ebl ebz ekp eTJ ebj eTA ehh eT0 HSB HJ
      clear f0 f1 f2 f3 f4 f5 f6 f7
      go_wp2_with fail
      refine HSTR.out.mono ?_
      rintro e ww ⟨rfl, hbw⟩
      have HEND := Lib.hid (show Below w.heap.size w ww from HBn.out.trans (hbw.mono (Nat.le_of_lt hwb)))
      go_wp2
      go_ret2
      exact ⟨rfl, HEND.out⟩
end Go.Proofs.YtfgnollclmimnaaGreatDoor
