/- The walks of the reference's line and Line. (Printed by genV9.py.) The walk of the law FlatLinesMatchSpec. Words for the join of a walk and a card: a world in which the listed tables are laid. The table of powers, as a row lists it, lies in memory. -/
import Derived.Test.YtklblmbacnnoeaaGreatDoorV9
import Derived.Test.YtklblmbacnnoeaaGreatDoorUN
import Derived.Test.YtklblmbacnnoeaaGreatDoorFA
import Derived.Test.YtklblmbacnnoeaaGreatDoorCards
import Derived.Test.YtklblmbacnnoeaaGreatDoorTie
import Derived.Deep.DeepHandedRow
import Derived.LaidLaws
import Derived.Test.YtklblmbacnnoeaaGreatDoorE4
import Derived.Lib.LaidU8
import Derived.MakeChecks
-- merged: VA VC J3 J5

namespace Go.Proofs.YtklblmbacnnoeaaGreatDoor
open Go.RowKit Limb Nmb Work
set_option linter.unusedVariables false
set_option linter.unusedSimpArgs false

set_option maxHeartbeats 8000000 in
set_option maxRecDepth 100000 in
theorem rline6_c (f : Fmt) (A : Option Addr) (cp : Nat) (FA : Nat → Option Addr) (FC : Nat → Nat) (r : RowP) (RA : Option Addr) (RC : Nat) (m0 : Int) (w : World) (ho : Kinds w A f.kinds FA FC) (hr : RowM w r RA RC) (hcp : f.kinds.length ≤ cp) (hf : checkF f = 0) (h0 : (rowF f r).2 = 0) (hm : 0 ≤ f.mark ∧ f.mark ≤ 255) (ht : Tab w) (hM : w.cell? ⟨0, 0, none⟩ = some (.int .i64 m0)) :
    Calls Tryz.prog 32 #[fmtG f A cp, rowG r RA RC] w (RetS (bs (lineL f r)) w) := by
  have HKA := Lib.hid (fun w h => rkindof_c f A cp FA FC r.tag w h)
  have hfk := checkF_ok hf
  have HRK := Lib.hid (rowF_ok h0)
  have hqr : f.quote = 0 ∨ (0 ≤ f.quote ∧ f.quote < 128) := by
    by_cases h1 : f.quote = 0
    · exact .inl h1
    · right
      by_cases h2 : f.mark = 0
      · exact absurd (hfk.none h2) h1
      · have := markF_rng ((hfk.marks h2).2.1 h1); omega
  have hmr : f.mark = 0 ∨ (0 ≤ f.mark ∧ f.mark < 128) := by
    by_cases h2 : f.mark = 0
    · exact .inl h2
    · right
      have := markF_rng (hfk.marks h2).1; omega
  have HFIL := Lib.hid (fun c s w hs hv hk hm0 hw ht => pad6_c f A f.kinds.length cp c s w hs hv hk hm0 hw ht)
  have HMRK := Lib.hid (fun c s w hs hv hk hw ht hM => quot6_c f A f.kinds.length cp c s m0 w hs hv hk hm hqr hw ht hM)
  have HFK := Lib.hid hfk
  have HCS := Lib.hid (kat_cases f FA FC r.tag)
  have hnk := ho.1.2
  have HKI := Lib.hid ho; have HRM := Lib.hid hr; have HTB := Lib.hid ht; have HMX := Lib.hid hM
  obtain ⟨R, hR⟩ : ∃ x, bs (lineL f r) = x := ⟨_, rfl⟩
  have HR := Lib.hid hR
  rw [hR]
  clear ho hr ht hf hR h0 hM hfk hqr
  obtain ⟨m, q, ks, hd, tl, ct, sm⟩ := f
  obtain ⟨tg, vs⟩ := r
  unfold fmtG at HKA ⊢
  unfold rowG
  simp only at HKA HFIL HMRK HCS HKI hm hmr hcp hnk ⊢
  obtain ⟨n, hn⟩ : ∃ x, ks.length = x := ⟨_, rfl⟩
  have HN := Lib.hid hn
  obtain ⟨nv, hnv⟩ : ∃ x, vs.length = x := ⟨_, rfl⟩
  have HNV := Lib.hid hnv
  have hnvb : nv ≤ RC := by rw [← hnv]; exact HRM.out.len.1
  have hrcb := HRM.out.len.2
  rw [hn] at HKA HFIL HMRK hcp hnk ⊢
  rw [hnv]
  clear hn hnv
  have hF0 := heap_old (heap_new w (.cells #[.int .u8 m, .int .u8 q, .slice A n cp, .string hd, .string tl, .string ct, .string sm] 24) rfl) (.cells #[.string tg, .slice RA nv RC] 27)
  have hR0 := heap_new (w.alloc (.cells #[.int .u8 m, .int .u8 q, .slice A n cp, .string hd, .string tl, .string ct, .string sm] 24)) (.cells #[.string tg, .slice RA nv RC] 27) (g := w.heap.size + 1) (by simp)
  have hB0 : Below w.heap.size w ((w.alloc (.cells #[.int .u8 m, .int .u8 q, .slice A n cp, .string hd, .string tl, .string ct, .string sm] 24)).alloc (.cells #[.string tg, .slice RA nv RC] 27)) := by go_grown
  rcases HCS.out with ⟨h1, -, -, -⟩ | ⟨k, hk, h1, h2, h3, h4⟩
  · have := HRK.out.kind
    simp only at this
    omega
  have hmany := HRK.out.many
  have HVK := Lib.hid HRK.out.vals
  simp only at hmany HVK
  have HLL := Lib.hid (show lineL ⟨m, q, ks, hd, tl, ct, sm⟩ ⟨tg, vs⟩ = tg.data.toList ++ fldsL m q (kA ks k).fields vs (kA ks k).fields.length by unfold lineL; simp only; rw [h2])
  rw [h2] at hmany HVK
  have HKK := Lib.hid (HFK.out.kinds k hk)
  have HCO := Lib.hid ((HKI.out).2.2 k hk)
  simp only at HKK
  have htagz : tg.size ≤ 6 := by
    have h5 : (kA ks k).tag = tg := by
      have := h1
      unfold katI at this
      simp only at this
      rcases ixF_spec (tagIs tg) ks with ⟨e1, -⟩ | ⟨k', hk', e1, e2, -⟩
      · omega
      · obtain rfl : k = k' := by omega
        rw [← kA_get hk']
        exact of_decide_eq_true e2
    have := HKK.out.tag.2
    rw [h5] at this
    exact this
  obtain ⟨kb, ko, hA, hkb, kc⟩ := (HKI.out).2.1.get hk
  subst hA
  have kc1 : w.cell? ⟨kb, ko + k * 4 + 1, none⟩ = some (.slice (FA k) (kA ks k).fields.length (FC k)) := kc 1 (by decide)
  have hkn : k < n := by rw [← HN.out]; exact hk
  clear kc
  obtain ⟨K, hK⟩ : ∃ x, kA ks k = x := ⟨_, rfl⟩
  have HKc := Lib.hid (fun j (hj : j < K.fields.length) => (show ColK m (cA K.fields j) by rw [← hK] at hj ⊢; exact HKK.out.cols j hj))
  have hn50 : K.fields.length ≤ 50 := by rw [← hK]; exact HKK.out.many
  rw [hK] at HLL HCO HVK hmany kc1
  clear h2 h3 h4 hK
  obtain ⟨kt, fs, km, ku⟩ := K
  simp only at HLL HCO HKc HVK hmany hn50 kc1 ⊢
  obtain ⟨KA, hKA⟩ : ∃ x, FA k = x := ⟨_, rfl⟩
  obtain ⟨KC, hKC⟩ : ∃ x, FC k = x := ⟨_, rfl⟩
  have hnf : fs.length = nv := by rw [← hmany]; exact HNV.out
  have HNF := Lib.hid hnf
  rw [hnf, hKA, hKC] at HCO kc1
  rw [hnf] at HKc HVK HLL hn50
  have hnfc : nv ≤ KC := HCO.out.2
  have HVO := Lib.hid (fun j (hj : j < nv) => valF_ok (by have := (HKc.out j hj).width; omega) (HVK.out j hj))
  have HLN0 := Lib.hid (flds_len (m := m) (q := q) (fs := fs) (vs := vs) (n := nv) (fun j hj => ⟨(HKc.out j hj).width, (HVO.out j hj).2⟩))
  clear hnf hKA hKC HKK hmany
  have h1' : ixF (tagIs tg) ks = (k : Int) := h1
  rw [h1'] at HKA
  clear h1 h1'
  go_enter Tryz.func32, Tryz.ntmps32
  obtain ⟨⟨f0, f1, f2, f3, f4, f5, f6⟩, f7⟩ := obox7 hF0
  obtain ⟨r0, r1, -, -, r2⟩ := box2 hR0
  have HKW := Lib.hid (HKI.out.below hB0)
  have HB0 := Lib.hid hB0
  have HF0 := Lib.hid hF0; have HR0 := Lib.hid hR0
  have hz0 := hB0.size
  go_upto_region 2 with fail
  generalize (w.alloc (.cells #[.int .u8 m, .int .u8 q, .slice (some ⟨kb, ko, none⟩) n cp, .string hd, .string tl, .string ct, .string sm] 24)).alloc (.cells #[.string tg, .slice RA nv RC] 27) = w1 at f0 f1 f2 f3 f4 f5 f6 f7 r0 r1 r2 HKW HB0 HF0 HR0 hz0 ⊢
  have hkb1 : kb < w1.heap.size := Nat.lt_of_lt_of_le hkb hz0
  have HKC := Lib.hid ((HB0.out.cell (p := ⟨kb, ko + k * 4 + 1, none⟩) hkb).trans kc1)
  have HSB := Lib.hid (show ∀ wx, Below w1.heap.size w1 wx → (fun w' : World => w'.cell? ⟨w.heap.size, 0, none⟩ = some (.int .u8 m) ∧ w'.cell? ⟨w.heap.size, 1, none⟩ = some (.int .u8 q) ∧ w'.cell? ⟨w.heap.size, 2, none⟩ = some (.slice (some ⟨kb, ko, none⟩) n cp) ∧ w'.cell? ⟨w.heap.size, 3, none⟩ = some (.string hd) ∧ w'.cell? ⟨w.heap.size, 4, none⟩ = some (.string tl) ∧ w'.cell? ⟨w.heap.size, 5, none⟩ = some (.string ct) ∧ w'.cell? ⟨w.heap.size, 6, none⟩ = some (.string sm) ∧ w'.cell? ⟨w.heap.size + 1, 0, none⟩ = some (.string tg) ∧ w'.cell? ⟨kb, ko + k * 4 + 1, none⟩ = some (.slice KA nv KC)) wx from fun wx h => by
    obtain ⟨⟨f0, f1, f2, f3, f4, f5, f6⟩, f7⟩ := obox7 (heap_below HF0.out h)
    obtain ⟨r0, r1, -, -, r2⟩ := box2 (heap_below HR0.out h)
    exact ⟨f0, f1, f2, f3, f4, f5, f6, r0, (h.cell (p := ⟨kb, ko + k * 4 + 1, none⟩) hkb1).trans HKC.out⟩)
  have T1 : Below w1.heap.size w1 w1 := Below.refl _ _
  clear f0 f1 f2 f3 f4 f5 f6 f7 r0 r1 r2 hF0 hR0 hB0 kc1
  go_region_held3 (fun w' : World => w'.cell? ⟨w.heap.size, 0, none⟩ = some (.int .u8 m) ∧ w'.cell? ⟨w.heap.size, 1, none⟩ = some (.int .u8 q) ∧ w'.cell? ⟨w.heap.size, 2, none⟩ = some (.slice (some ⟨kb, ko, none⟩) n cp) ∧ w'.cell? ⟨w.heap.size, 3, none⟩ = some (.string hd) ∧ w'.cell? ⟨w.heap.size, 4, none⟩ = some (.string tl) ∧ w'.cell? ⟨w.heap.size, 5, none⟩ = some (.string ct) ∧ w'.cell? ⟨w.heap.size, 6, none⟩ = some (.string sm) ∧ w'.cell? ⟨w.heap.size + 1, 0, none⟩ = some (.string tg) ∧ w'.cell? ⟨kb, ko + k * 4 + 1, none⟩ = some (.slice KA nv KC))
    (first | (with_reducible exact HSB.out _ T2) | (refine HSB.out _ ?_; go_grown))
    (first | (go_at_call 29; refine (HKA.out _ (by exact HKW.out)).mono ?_; rintro e w2 ⟨rfl, hb2'⟩; (have T2 : Below w1.heap.size w1 w2 := by exact ⟨hb2'.os, hb2'.tape, hb2'.output, hb2'.size, hb2'.block⟩)))
  trace "LOOP"
  have HF2 := Lib.hid (heap_below HF0.out T2); have HR2 := Lib.hid (heap_below HR0.out T2)
  have HB2 := Lib.hid (below_then T2 HB0.out hz0)
  have hz2 := HB2.out.size
  clear T1
  go_wp2_with fail
  go_loopw [5, 20] (fun o i wr => ∃ (j : Nat) (O : ByteArray), j ≤ nv ∧ o = .string O ∧ i = .int .i64 j ∧ Hid (O.data.toList = tg.data.toList ++ fldsL m q fs vs j) ∧ Hid (Below w2.heap.size w2 wr)) (fun _ i _ => nv - (intOf i).toNat)
  case atStart => exact ⟨0, tg, Nat.zero_le _, rfl, rfl, Lib.hid (by rw [fldsL_zero, List.append_nil]), Lib.hid (Below.refl _ _)⟩
  case round =>
    obtain ⟨j, O, hj, rfl, rfl, HO, HB⟩ := hrel
    have HBW := Lib.hid (below_then HB.out HB2.out hz2)
    rcases Nat.lt_or_ge j nv with hlt | hge
    · have HF := Lib.hid (heap_below HF2.out HB.out)
      have HR := Lib.hid (heap_below HR2.out HB.out)
      obtain ⟨⟨f0, f1, f2, f3, f4, f5, f6⟩, f7⟩ := obox7 HF.out
      obtain ⟨cb, off, rfl, hbw, c0, c1, c2, c3, c4, c5, c6, c7⟩ := (HCO.out.1.below HBW.out).cells (j := j) (by rw [HNF.out]; exact hlt)
      obtain ⟨b2, off2, rfl, hbw2, hcs⟩ := (HRM.out.vals.below HBW.out).cells (by rw [HNV.out]; omega)
      have s0 := hcs j (by rw [HNV.out]; exact hlt)
      have hsz := wd_size HRM.out.size j
      have HCJ := Lib.hid (HKc.out j hlt)
      have HVJ := Lib.hid (HVO.out j hlt)
      have hlj := HLN0.out j (by omega)
      have HLN := Lib.hid (show (tg.data.toList ++ fldsL m q fs vs j).length ≤ 60000 by rw [List.length_append, data_len]; omega)
      have HNX := Lib.hid (fldsL_succ m q fs vs j)
      simp only at s0 hsz
      obtain ⟨s, hs⟩ : ∃ x, wd vs j = x := ⟨_, rfl⟩
      obtain ⟨co, hco⟩ : ∃ x, cA fs j = x := ⟨_, rfl⟩
      rw [hco] at HCJ c0 c1 c2 c3 c4 c5 c6 c7
      rw [hs] at s0 hsz
      rw [hco, hs] at HVJ HNX
      clear hs hco hcs hlj
      have HFI0 := Lib.hid (fun hm0 w ht => HFIL.out co s w hsz HVJ.out.1 HCJ.out hm0 HVJ.out.2 ht)
      have HMK0 := Lib.hid (fun w ht hM => HMRK.out co s w hsz HVJ.out.1 HCJ.out (by have := HVJ.out.2; have := HCJ.out.width; omega) ht hM)
      have HZ1 := Lib.hid (fil_len (m := m) HCJ.out.width HVJ.out.2)
      have HZ2 := Lib.hid (mrk_len (m := m) (q := q) HCJ.out.width HVJ.out.2)
      obtain ⟨nm, kd, wi, pl, fm, rt, fl, nd⟩ := co
      unfold colG at HFI0 HMK0
      simp only at HFI0 HMK0 c0 c1 c2 c3 c4 c5 c6 c7
      have hF5 := heap_old HF.out (.cells #[.string nm, .int .i64 kd, .int .i64 wi, .int .i64 pl, .int .i64 fm, .bool rt, .int .u8 fl, .bool nd] 60)
      have hR5 := heap_old HR.out (.cells #[.string nm, .int .i64 kd, .int .i64 wi, .int .i64 pl, .int .i64 fm, .bool rt, .int .u8 fl, .bool nd] 60)
      have hC5 := heap_new wr (.cells #[.string nm, .int .i64 kd, .int .i64 wi, .int .i64 pl, .int .i64 fm, .bool rt, .int .u8 fl, .bool nd] 60) rfl
      have hb5 : Below wr.heap.size wr (wr.alloc (.cells #[.string nm, .int .i64 kd, .int .i64 wi, .int .i64 pl, .int .i64 fm, .bool rt, .int .u8 fl, .bool nd] 60)) := by go_grown
      have s5 := (hb5.cell (p := ⟨b2, off2 + j, none⟩) hbw2).trans s0
      have hOz : O.size ≤ 60000 := by rw [← data_len, HO.out]; exact HLN.out
      go_upto_region 5 with fail
      obtain ⟨c0n, hc0n⟩ : ∃ x, wr.heap.size = x := ⟨_, rfl⟩
      rw [hc0n] at hC5 ⊢
      have hB25 : Below w2.heap.size w2 (wr.alloc (.cells #[.string nm, .int .i64 kd, .int .i64 wi, .int .i64 pl, .int .i64 fm, .bool rt, .int .u8 fl, .bool nd] 60)) := below_then hb5 HB.out HB.out.size
      generalize wr.alloc (.cells #[.string nm, .int .i64 kd, .int .i64 wi, .int .i64 pl, .int .i64 fm, .bool rt, .int .u8 fl, .bool nd] 60) = w5 at hF5 hR5 hC5 hb5 s5 hB25 ⊢
      clear f0 f1 f2 f3 f4 f5 f6 f7 c0 c1 c2 c3 c4 c5 c6 c7 s0 HF HR hbw
      obtain ⟨⟨f0, f1, f2, f3, f4, f5, f6⟩, f7⟩ := obox7 hF5
      have HBW5 := Lib.hid (below_then hb5 HBW.out HBW.out.size)
      have HT4 := Lib.hid (HTB.out.below HBW5.out)
      have HM4 := Lib.hid ((HBW5.out.cell (p := ⟨0, 0, none⟩) (World.block_lt_of_cell? _ _ HMX.out)).trans HMX.out)
      have HF5 := Lib.hid hF5; have HR5 := Lib.hid hR5; have HC5 := Lib.hid hC5; have HS5 := Lib.hid s5; have HB25 := Lib.hid hB25
      have hb2w : b2 < w5.heap.size := Nat.lt_of_lt_of_le hbw2 hb5.size
      have HSC := Lib.hid (show ∀ wx, Below w5.heap.size w5 wx → (fun w' : World => w'.cell? ⟨w.heap.size, 0, none⟩ = some (.int .u8 m) ∧ w'.cell? ⟨w.heap.size, 1, none⟩ = some (.int .u8 q) ∧ w'.cell? ⟨w.heap.size, 2, none⟩ = some (.slice (some ⟨kb, ko, none⟩) n cp) ∧ w'.cell? ⟨w.heap.size, 3, none⟩ = some (.string hd) ∧ w'.cell? ⟨w.heap.size, 4, none⟩ = some (.string tl) ∧ w'.cell? ⟨w.heap.size, 5, none⟩ = some (.string ct) ∧ w'.cell? ⟨w.heap.size, 6, none⟩ = some (.string sm) ∧ w'.cell? ⟨c0n, 0, none⟩ = some (.string nm) ∧ w'.cell? ⟨c0n, 1, none⟩ = some (.int .i64 kd) ∧ w'.cell? ⟨c0n, 2, none⟩ = some (.int .i64 wi) ∧ w'.cell? ⟨c0n, 3, none⟩ = some (.int .i64 pl) ∧ w'.cell? ⟨c0n, 4, none⟩ = some (.int .i64 fm) ∧ w'.cell? ⟨c0n, 5, none⟩ = some (.bool rt) ∧ w'.cell? ⟨c0n, 6, none⟩ = some (.int .u8 fl) ∧ w'.cell? ⟨c0n, 7, none⟩ = some (.bool nd) ∧ w'.cell? ⟨w.heap.size + 1, 1, none⟩ = some (.slice (some ⟨b2, off2, none⟩) nv RC) ∧ w'.cell? ⟨b2, off2 + j, none⟩ = some (.string s)) wx from fun wx h => by
        obtain ⟨⟨f0, f1, f2, f3, f4, f5, f6⟩, f7⟩ := obox7 (heap_below HF5.out h)
        obtain ⟨⟨x0, x1, x2, x3, x4, x5, x6, x7⟩, x8⟩ := obox8 (heap_below HC5.out h)
        obtain ⟨r0, r1, -, -, r2⟩ := box2 (heap_below HR5.out h)
        exact ⟨f0, f1, f2, f3, f4, f5, f6, x0, x1, x2, x3, x4, x5, x6, x7, r1, (h.cell (p := ⟨b2, off2 + j, none⟩) hb2w).trans HS5.out⟩)
      have T1 : Below w5.heap.size w5 w5 := Below.refl _ _
      have hz5 : w2.heap.size ≤ w5.heap.size := hB25.size
      clear hF5 hR5 hC5 s5 hB25 hb5 hc0n hbw2 T2
      by_cases h0 : m = 0
      · have HFI := Lib.hid (HFI0.out h0)
        obtain ⟨X, hX⟩ : ∃ x, filS m ⟨nm, kd, wi, pl, fm, rt, fl, nd⟩ s = x := ⟨_, rfl⟩
        rw [hX] at HFI HZ1
        unfold RetS at HFI
        have hXz := HZ1.out
        have hcat : ¬ 9223372036854775807 < O.size + X.size := by omega
        have HLX := Lib.hid (show (O ++ X).data.toList = tg.data.toList ++ fldsL m q fs vs (j + 1) by rw [HNX.out, ← List.append_assoc, ByteArray.data_append, Array.toList_append, HO.out]; unfold fldL; rw [if_pos h0, hX])
        have k0 : (m == 0) = true := by simpa using h0
        clear h0 hX HMK0 HFI0 HZ1 HZ2
        go_upto_region 6 with fail
        clear f0 f1 f2 f3 f4 f5 f6 f7
        go_region_held3 (fun w' : World => w'.cell? ⟨w.heap.size, 0, none⟩ = some (.int .u8 m) ∧ w'.cell? ⟨w.heap.size, 1, none⟩ = some (.int .u8 q) ∧ w'.cell? ⟨w.heap.size, 2, none⟩ = some (.slice (some ⟨kb, ko, none⟩) n cp) ∧ w'.cell? ⟨w.heap.size, 3, none⟩ = some (.string hd) ∧ w'.cell? ⟨w.heap.size, 4, none⟩ = some (.string tl) ∧ w'.cell? ⟨w.heap.size, 5, none⟩ = some (.string ct) ∧ w'.cell? ⟨w.heap.size, 6, none⟩ = some (.string sm) ∧ w'.cell? ⟨c0n, 0, none⟩ = some (.string nm) ∧ w'.cell? ⟨c0n, 1, none⟩ = some (.int .i64 kd) ∧ w'.cell? ⟨c0n, 2, none⟩ = some (.int .i64 wi) ∧ w'.cell? ⟨c0n, 3, none⟩ = some (.int .i64 pl) ∧ w'.cell? ⟨c0n, 4, none⟩ = some (.int .i64 fm) ∧ w'.cell? ⟨c0n, 5, none⟩ = some (.bool rt) ∧ w'.cell? ⟨c0n, 6, none⟩ = some (.int .u8 fl) ∧ w'.cell? ⟨c0n, 7, none⟩ = some (.bool nd) ∧ w'.cell? ⟨w.heap.size + 1, 1, none⟩ = some (.slice (some ⟨b2, off2, none⟩) nv RC) ∧ w'.cell? ⟨b2, off2 + j, none⟩ = some (.string s))
          (first | (with_reducible exact HSC.out _ T2) | (refine HSC.out _ ?_; go_grown))
          (first | (go_at_call 67; refine (HFI.out _ (by exact HT4.out)).mono ?_; rintro e w6 ⟨rfl, hb6'⟩; (have T2 : Below w5.heap.size w5 w6 := by exact ⟨hb6'.os, hb6'.tape, hb6'.output, hb6'.size, hb6'.block⟩)))
        have HBN := Lib.hid (below_then T2 HB25.out hz5)
        clear T2
        go_wp2
        go_roundw
        case rel => exact ⟨j + 1, O ++ X, by omega, rfl, by go_num, HLX, HBN⟩
        case measure => simp [intOf]; omega
      · have HMK := HMK0
        obtain ⟨X, hX⟩ : ∃ x, mrkS m q ⟨nm, kd, wi, pl, fm, rt, fl, nd⟩ s = x := ⟨_, rfl⟩
        rw [hX] at HMK HZ2
        unfold RetS at HMK
        have hmr2 : 0 ≤ m ∧ m < 128 := by rcases hmr with h | h; exact absurd h h0; exact h
        have henc := enc_small hmr2.1 hmr2.2
        obtain ⟨MB, hMB⟩ : ∃ x, (⟨#[UInt8.ofNat m.toNat]⟩ : ByteArray) = x := ⟨_, rfl⟩
        have hMs : MB.size = 1 := by rw [← hMB]; rfl
        have HMD := Lib.hid (show MB.data.toList = [qB m] by rw [← hMB]; rfl)
        rw [hMB] at henc
        have hcr : ∀ w, (convert 5 21 (.int .u8 m)).run Tryz.prog w = .ok (.int .i32 m) w := fun w => run_rune6 m w hmr2
        have hcv2 : ∀ w, (convert 21 9 (.int .i32 m)).run Tryz.prog w = .ok (.string MB) w := fun w => run_enc6 henc w
        have hXz := HZ2.out
        have hcat : ¬ 9223372036854775807 < 1 + X.size := by omega
        have hcat2 : ¬ 9223372036854775807 < O.size + (1 + X.size) := by omega
        have HLX := Lib.hid (show (O ++ (MB ++ X)).data.toList = tg.data.toList ++ fldsL m q fs vs (j + 1) by rw [HNX.out, ← List.append_assoc, ByteArray.data_append, Array.toList_append, ByteArray.data_append, Array.toList_append, HO.out, HMD.out]; unfold fldL; rw [if_neg h0, hX]; rfl)
        have k0 : (m == 0) = false := beq_eq_false_iff_ne.2 h0
        clear h0 hX HMK0 HFI0 HZ1 HZ2 hMB henc
        go_upto_region 7 with fail
        clear f0 f1 f2 f3 f4 f5 f6 f7
        go_region_held3 (fun w' : World => w'.cell? ⟨w.heap.size, 0, none⟩ = some (.int .u8 m) ∧ w'.cell? ⟨w.heap.size, 1, none⟩ = some (.int .u8 q) ∧ w'.cell? ⟨w.heap.size, 2, none⟩ = some (.slice (some ⟨kb, ko, none⟩) n cp) ∧ w'.cell? ⟨w.heap.size, 3, none⟩ = some (.string hd) ∧ w'.cell? ⟨w.heap.size, 4, none⟩ = some (.string tl) ∧ w'.cell? ⟨w.heap.size, 5, none⟩ = some (.string ct) ∧ w'.cell? ⟨w.heap.size, 6, none⟩ = some (.string sm) ∧ w'.cell? ⟨c0n, 0, none⟩ = some (.string nm) ∧ w'.cell? ⟨c0n, 1, none⟩ = some (.int .i64 kd) ∧ w'.cell? ⟨c0n, 2, none⟩ = some (.int .i64 wi) ∧ w'.cell? ⟨c0n, 3, none⟩ = some (.int .i64 pl) ∧ w'.cell? ⟨c0n, 4, none⟩ = some (.int .i64 fm) ∧ w'.cell? ⟨c0n, 5, none⟩ = some (.bool rt) ∧ w'.cell? ⟨c0n, 6, none⟩ = some (.int .u8 fl) ∧ w'.cell? ⟨c0n, 7, none⟩ = some (.bool nd) ∧ w'.cell? ⟨w.heap.size + 1, 1, none⟩ = some (.slice (some ⟨b2, off2, none⟩) nv RC) ∧ w'.cell? ⟨b2, off2 + j, none⟩ = some (.string s))
          (first | (with_reducible exact HSC.out _ T2) | (refine HSC.out _ ?_; go_grown))
          (first | (go_at_call 68; refine (HMK.out _ (by exact HT4.out) (by exact HM4.out)).mono ?_; rintro e w6 ⟨rfl, hb6'⟩; (have T2 : Below w5.heap.size w5 w6 := by exact ⟨hb6'.os, hb6'.tape, hb6'.output, hb6'.size, hb6'.block⟩)))
        have HBN := Lib.hid (below_then T2 HB25.out hz5)
        clear T2
        go_wp2
        go_roundw
        case rel => exact ⟨j + 1, O ++ (MB ++ X), by omega, rfl, by go_num, HLX, HBN⟩
        case measure => simp [intOf]; omega
    · obtain rfl : j = nv := by omega
      have HX := Lib.hid (show O = R by rw [← HR.out, HLL.out, ← HO.out]; exact (bs_self O).symm)
      go_wp2
      go_ret
      exact ⟨congrArg (fun b => Ending.returned (Value.string b)) HX.out, HBW.out⟩
set_option maxHeartbeats 2000000 in
set_option maxRecDepth 100000 in
theorem rLine_c (f : Fmt) (A : Option Addr) (cp : Nat) (FA : Nat → Option Addr) (FC : Nat → Nat) (r : RowP) (RA : Option Addr) (RC : Nat) (m0 : Int) (w : World) (ho : Kinds w A f.kinds FA FC) (hr : RowM w r RA RC) (hc : f.kinds.length ≤ cp) (hm : 0 ≤ f.mark ∧ f.mark ≤ 255) (hq : 0 ≤ f.quote ∧ f.quote ≤ 255) (ht : Tab w) (hM : w.cell? ⟨0, 0, none⟩ = some (.int .i64 m0)) :
    Calls Tryz.prog 11 #[fmtG f A cp, rowG r RA RC] w (RetL3 (lineR f r) w) := by
  have HCH := Lib.hid (fun w h h2 ht => rCheckRow_c f A cp FA FC r RA RC w h h2 hc hm hq ht)
  have HLO := Lib.hid (fun h0 w h h2 ht hM => rline6_c f A cp FA FC r RA RC m0 w h h2 hc (chk_zero h0).1 (chk_zero h0).2 hm ht hM)
  have HKI := Lib.hid ho; have HRM := Lib.hid hr; have HTB := Lib.hid ht; have HMX := Lib.hid hM
  obtain ⟨R, hR⟩ : ∃ x, lineR f r = x := ⟨_, rfl⟩
  rw [hR]
  unfold lineR at hR
  obtain ⟨⟨i, e⟩, hX⟩ : ∃ x, chkRowF f r = x := ⟨_, rfl⟩
  rw [hX] at hR HCH HLO
  have HR := Lib.hid hR
  obtain ⟨S, hS⟩ : ∃ x, bs (lineL f r) = x := ⟨_, rfl⟩
  rw [hS] at HLO HR
  unfold RetNF at HCH
  unfold RetS at HLO
  simp only at HCH HR HLO
  clear ho hr ht hM hR hX hS
  obtain ⟨m, q, ks, hd, tl, ct, sm⟩ := f
  obtain ⟨tg, vs⟩ := r
  unfold fmtG at HCH HLO ⊢
  unfold rowG at HCH HLO ⊢
  simp only at HCH HLO HKI hc ⊢
  obtain ⟨n, hn⟩ : ∃ x, ks.length = x := ⟨_, rfl⟩
  obtain ⟨nv, hnv⟩ : ∃ x, vs.length = x := ⟨_, rfl⟩
  rw [hn] at HCH HLO hc ⊢
  rw [hnv] at HCH HLO ⊢
  clear hn hnv
  have hF0 := heap_old (heap_new w (.cells #[.int .u8 m, .int .u8 q, .slice A n cp, .string hd, .string tl, .string ct, .string sm] 24) rfl) (.cells #[.string tg, .slice RA nv RC] 27)
  have hR0 := heap_new (w.alloc (.cells #[.int .u8 m, .int .u8 q, .slice A n cp, .string hd, .string tl, .string ct, .string sm] 24)) (.cells #[.string tg, .slice RA nv RC] 27) (g := w.heap.size + 1) (by simp)
  have hB0 : Below w.heap.size w ((w.alloc (.cells #[.int .u8 m, .int .u8 q, .slice A n cp, .string hd, .string tl, .string ct, .string sm] 24)).alloc (.cells #[.string tg, .slice RA nv RC] 27)) := by go_grown
  go_enter Tryz.func11, Tryz.ntmps11
  obtain ⟨⟨f0, f1, f2, f3, f4, f5, f6⟩, f7⟩ := obox7 hF0
  obtain ⟨r0, r1, -, -, r2⟩ := box2 hR0
  go_wp2_with fail
  refine (HCH.out _ (HKI.out.below hB0) (HRM.out.below hB0) (HTB.out.below hB0)).mono ?_
  rintro _ w2 ⟨rfl, hb2⟩
  have hF2 := heap_below hF0 hb2
  have hR2 := heap_below hR0 hb2
  have hB2 := below_then hb2 hB0 hB0.size
  clear hF0 hR0 hb2 f0 f1 f2 f3 f4 f5 f6 f7 r0 r1 r2 hB0
  obtain ⟨⟨f0, f1, f2, f3, f4, f5, f6⟩, f7⟩ := obox7 hF2
  obtain ⟨r0, r1, -, -, r2⟩ := box2 hR2
  by_cases h0 : e = 0
  · subst h0
    have HE := Lib.hid (show R = (S, 0, 0) by rw [← HR.out, if_neg (by simp)])
    have HM2 := Lib.hid ((hB2.cell (p := ⟨0, 0, none⟩) (World.block_lt_of_cell? _ _ HMX.out)).trans HMX.out)
    go_wp2_with fail
    refine (HLO.out trivial _ (HKI.out.below hB2) (HRM.out.below hB2) (HTB.out.below hB2) HM2.out).mono ?_
    rintro _ w3 ⟨rfl, hb3⟩
    have hB3 := below_then hb3 hB2 hB2.size
    go_wp2
    go_ret3
    exact ⟨by rw [HE.out]; rfl, hB3⟩
  · have HE := Lib.hid (show R = (⟨#[]⟩, i, e) by rw [← HR.out, if_pos h0])
    have h0a : (e != 0) = true := by simpa using h0
    clear h0
    go_wp2
    go_ret3
    exact ⟨by rw [HE.out]; rfl, hB2⟩
end Go.Proofs.YtklblmbacnnoeaaGreatDoor

namespace Go.Proofs.YtklblmbacnnoeaaGreatDoor
open Go.RowKit Limb Nmb Work
set_option linter.unusedVariables false
set_option linter.unusedSimpArgs false

set_option maxHeartbeats 4000000 in
set_option maxRecDepth 100000 in
theorem law_lines (f : Fmt) (A : Option Addr) (c : Nat) (FA : Nat → Option Addr) (FC : Nat → Nat) (r : RowP) (RA : Option Addr) (RC : Nat) (m0 : Int) (w : World) (ho : Kinds w A f.kinds FA FC) (hr : RowM w r RA RC) (hc : f.kinds.length ≤ c) (hm : 0 ≤ f.mark ∧ f.mark ≤ 255) (hq : 0 ≤ f.quote ∧ f.quote ≤ 255) (ht : Tab w) (hm0 : w.cell? ⟨0, 0, none⟩ = some (.int .i64 m0)) :
    Calls Tryz.prog 3 #[fmtG f A c, rowG r RA RC] w fun e w' => e = .returned (.bool true) ∧ Below w.heap.size w w' := by
  have HC1 := Lib.hid (fun w h h2 ht => CheckRow_c f A c FA FC r RA RC w h h2 hc hm hq ht)
  have HC2 := Lib.hid (fun w h h2 ht => rCheckRow_c f A c FA FC r RA RC w h h2 hc hm hq ht)
  have HF1 := Lib.hid (fun w h => check_c f A c FA FC w h hc hm hq)
  have HF2 := Lib.hid (fun w h => rcheck_c f A c FA FC w h hc hm hq)
  have HL1 := Lib.hid (fun w h h2 ht hM => Line_c f A c FA FC r RA RC m0 w h h2 hc hm hq ht hM)
  have HL2 := Lib.hid (fun w h h2 ht hM => rLine_c f A c FA FC r RA RC m0 w h h2 hc hm hq ht hM)
  have HK := Lib.hid ho; have HRM := Lib.hid hr; have HT := Lib.hid ht; have HM := Lib.hid hm0
  obtain ⟨X, hX⟩ : ∃ x, checkF f = x := ⟨_, rfl⟩
  obtain ⟨⟨i, e⟩, hI⟩ : ∃ x, chkRowF f r = x := ⟨_, rfl⟩
  obtain ⟨⟨S, n, g⟩, hS⟩ : ∃ x, lineR f r = x := ⟨_, rfl⟩
  rw [hX] at HF1 HF2
  rw [hI] at HC1 HC2
  rw [hS] at HL1 HL2
  unfold RetNF at HC1 HC2
  unfold RetI at HF1 HF2
  unfold RetL3 at HL1 HL2
  clear hX hI hS ho hr ht hm0
  obtain ⟨m, q, ks, hd, tl, ct, sm⟩ := f
  obtain ⟨tg, vs⟩ := r
  unfold fmtG at HC1 HC2 HF1 HF2 HL1 HL2 ⊢
  unfold rowG at HC1 HC2 HL1 HL2 ⊢
  simp only at HC1 HC2 HF1 HF2 HL1 HL2 HK hc ⊢
  obtain ⟨nk, hnk⟩ : ∃ x, ks.length = x := ⟨_, rfl⟩
  obtain ⟨nv, hnv⟩ : ∃ x, vs.length = x := ⟨_, rfl⟩
  rw [hnk] at HC1 HC2 HF1 HF2 HL1 HL2 hc ⊢
  rw [hnv] at HC1 HC2 HL1 HL2 ⊢
  clear hnk hnv
  have HP := Lib.hid (heap_old (heap_new w (.cells #[.int .u8 m, .int .u8 q, .slice A nk c, .string hd, .string tl, .string ct, .string sm] 24) rfl) (.cells #[.string tg, .slice RA nv RC] 27))
  have HR := Lib.hid (heap_new (w.alloc (.cells #[.int .u8 m, .int .u8 q, .slice A nk c, .string hd, .string tl, .string ct, .string sm] 24)) (.cells #[.string tg, .slice RA nv RC] 27) (g := w.heap.size + 1) (by simp))
  have HB1 : Hid (Below w.heap.size w ((w.alloc (.cells #[.int .u8 m, .int .u8 q, .slice A nk c, .string hd, .string tl, .string ct, .string sm] 24)).alloc (.cells #[.string tg, .slice RA nv RC] 27))) := Lib.hid (by go_grown)
  go_enter Tryz.func3, Tryz.ntmps3
  go_upto_region 1 with fail
  generalize (w.alloc (.cells #[.int .u8 m, .int .u8 q, .slice A nk c, .string hd, .string tl, .string ct, .string sm] 24)).alloc (.cells #[.string tg, .slice RA nv RC] 27) = w1 at HP HR HB1 ⊢
  obtain ⟨⟨f0, f1, f2, f3, f4, f5, f6⟩, f7⟩ := obox7 HP.out
  obtain ⟨r0, r1, -, -, r2⟩ := box2 HR.out
  go_wp2_with fail
  refine (HC1.out _ (HK.out.below HB1.out) (HRM.out.below HB1.out) (HT.out.below HB1.out)).mono ?_
  rintro _ w2 ⟨rfl, hb2⟩
  have HP2 := Lib.hid (heap_below HP.out hb2); have HR2 := Lib.hid (heap_below HR.out hb2); have HB2 := Lib.hid (below_then hb2 HB1.out HB1.out.size)
  clear f0 f1 f2 f3 f4 f5 f6 f7 r0 r1 r2 HP HR HB1 hb2
  obtain ⟨⟨f0, f1, f2, f3, f4, f5, f6⟩, f7⟩ := obox7 HP2.out
  obtain ⟨r0, r1, -, -, r2⟩ := box2 HR2.out
  go_wp2_with fail
  refine (HC2.out _ (HK.out.below HB2.out) (HRM.out.below HB2.out) (HT.out.below HB2.out)).mono ?_
  rintro _ w3 ⟨rfl, hb3⟩
  have HP3 := Lib.hid (heap_below HP2.out hb3); have HR3 := Lib.hid (heap_below HR2.out hb3); have HB3 := Lib.hid (below_then hb3 HB2.out HB2.out.size)
  clear f0 f1 f2 f3 f4 f5 f6 f7 r0 r1 r2 HP2 HR2 HB2 hb3
  obtain ⟨⟨f0, f1, f2, f3, f4, f5, f6⟩, f7⟩ := obox7 HP3.out
  have HK3 := Lib.hid (HK.out.below HB3.out)
  have hX1 : (X != X) = false := by simp
  have hX2 : (e != e) = false := by simp
  have hX3 : (i != i) = false := by simp
  go_upto_region 3 with fail
  have HSB := Lib.hid (show ∀ wx, Below w3.heap.size w3 wx → (fun w' : World => w'.cell? ⟨w.heap.size, 0, none⟩ = some (.int .u8 m) ∧ w'.cell? ⟨w.heap.size, 1, none⟩ = some (.int .u8 q) ∧ w'.cell? ⟨w.heap.size, 2, none⟩ = some (.slice A nk c) ∧ w'.cell? ⟨w.heap.size, 3, none⟩ = some (.string hd) ∧ w'.cell? ⟨w.heap.size, 4, none⟩ = some (.string tl) ∧ w'.cell? ⟨w.heap.size, 5, none⟩ = some (.string ct) ∧ w'.cell? ⟨w.heap.size, 6, none⟩ = some (.string sm)) wx from fun wx h => by
    obtain ⟨⟨f0, f1, f2, f3, f4, f5, f6⟩, f7⟩ := obox7 (heap_below HP3.out h)
    exact ⟨f0, f1, f2, f3, f4, f5, f6⟩)
  have T1 : Below w3.heap.size w3 w3 := Below.refl _ _
  clear f0 f1 f2 f3 f4 f5 f6 f7
  go_cut [37] (fun v wx => v = .bool false ∧ Hid (Below w3.heap.size w3 wx))
  case first =>
    go_region_held3 (fun w' : World => w'.cell? ⟨w.heap.size, 0, none⟩ = some (.int .u8 m) ∧ w'.cell? ⟨w.heap.size, 1, none⟩ = some (.int .u8 q) ∧ w'.cell? ⟨w.heap.size, 2, none⟩ = some (.slice A nk c) ∧ w'.cell? ⟨w.heap.size, 3, none⟩ = some (.string hd) ∧ w'.cell? ⟨w.heap.size, 4, none⟩ = some (.string tl) ∧ w'.cell? ⟨w.heap.size, 5, none⟩ = some (.string ct) ∧ w'.cell? ⟨w.heap.size, 6, none⟩ = some (.string sm))
      (first | (with_reducible exact HSB.out _ T4) | (with_reducible exact HSB.out _ T5) | (refine HSB.out _ ?_; go_grown))
      (first
        | (go_at_call 8; refine (HF1.out _ (by first | exact HK3.out | exact HK3.out.below T5)).mono ?_; rintro _ w4 ⟨rfl, hb4⟩; (have T4 : Below w3.heap.size w3 w4 := by first | exact ⟨hb4.os, hb4.tape, hb4.output, hb4.size, hb4.block⟩ | exact below_then hb4 T5 T5.size))
        | (go_at_call 9; refine (HF2.out _ (by first | exact HK3.out | exact HK3.out.below T4)).mono ?_; rintro _ w5 ⟨rfl, hb5⟩; (have T5 : Below w3.heap.size w3 w5 := by first | exact ⟨hb5.os, hb5.tape, hb5.output, hb5.size, hb5.block⟩ | exact below_then hb5 T4 T4.size)))
    all_goals
      go_wp2_with fail
      go_meet
      first
        | (with_reducible exact ⟨rfl, Lib.hid T5⟩)
        | exact ⟨rfl, Lib.hid T4⟩
  case rest =>
  obtain ⟨rfl, hb3⟩ := hcut
  generalize wc = w4 at hb3 ⊢
  have HP4 := Lib.hid (heap_below HP3.out hb3.out); have HR4 := Lib.hid (heap_below HR3.out hb3.out); have HB4 := Lib.hid (below_then hb3.out HB3.out HB3.out.size)
  clear T1 HP3 HR3 HB3 HK3 HSB hb3
  obtain ⟨⟨f0, f1, f2, f3, f4, f5, f6⟩, f7⟩ := obox7 HP4.out
  obtain ⟨r0, r1, -, -, r2⟩ := box2 HR4.out
  have HM4 := Lib.hid ((HB4.out.cell (p := ⟨0, 0, none⟩) (World.block_lt_of_cell? _ _ HM.out)).trans HM.out)
  go_wp2_with fail
  refine (HL1.out _ (HK.out.below HB4.out) (HRM.out.below HB4.out) (HT.out.below HB4.out) HM4.out).mono ?_
  rintro _ w5 ⟨rfl, hb5⟩
  have HP5 := Lib.hid (heap_below HP4.out hb5); have HR5 := Lib.hid (heap_below HR4.out hb5); have HB5 := Lib.hid (below_then hb5 HB4.out HB4.out.size)
  clear f0 f1 f2 f3 f4 f5 f6 f7 r0 r1 r2 HP4 HR4 HB4 hb5
  obtain ⟨⟨f0, f1, f2, f3, f4, f5, f6⟩, f7⟩ := obox7 HP5.out
  obtain ⟨r0, r1, -, -, r2⟩ := box2 HR5.out
  have HM5 := Lib.hid ((HB5.out.cell (p := ⟨0, 0, none⟩) (World.block_lt_of_cell? _ _ HM.out)).trans HM.out)
  go_wp2_with fail
  refine (HL2.out _ (HK.out.below HB5.out) (HRM.out.below HB5.out) (HT.out.below HB5.out) HM5.out).mono ?_
  rintro _ w6 ⟨rfl, hb6⟩
  have HB6 := Lib.hid (below_then hb6 HB5.out HB5.out.size)
  have HM6 := Lib.hid ((HB6.out.cell (p := ⟨0, 0, none⟩) (World.block_lt_of_cell? _ _ HM.out)).trans HM.out)
  clear f0 f1 f2 f3 f4 f5 f6 f7 r0 r1 r2 hb6
  go_wp2_with fail
  refine (awake6_c m0 w6 HM6.out).mono ?_
  rintro _ w7 ⟨rfl, hb7⟩
  have hB7 := below_then hb7 HB6.out HB6.out.size
  go_wp2
  go_ret
  exact ⟨rfl, hB7⟩
/-- The law at any world in which the variable holds a number. -/
theorem law_lines_i (f : Fmt) (A : Option Addr) (c : Nat) (FA : Nat → Option Addr) (FC : Nat → Nat) (r : RowP) (RA : Option Addr) (RC : Nat) (w : World) (ho : Kinds w A f.kinds FA FC) (hr : RowM w r RA RC) (hc : f.kinds.length ≤ c) (hm : 0 ≤ f.mark ∧ f.mark ≤ 255) (hq : 0 ≤ f.quote ∧ f.quote ≤ 255) (ht : Tab w) (hm0 : ∃ m, w.cell? ⟨0, 0, none⟩ = some (.int .i64 m)) :
    Calls Tryz.prog 3 #[fmtG f A c, rowG r RA RC] w fun e w' => e = .returned (.bool true) ∧ Below w.heap.size w w' := by
  obtain ⟨m0, h⟩ := hm0
  exact law_lines f A c FA FC r RA RC m0 w ho hr hc hm hq ht h
end Go.Proofs.YtklblmbacnnoeaaGreatDoor

namespace Go.Proofs.YtklblmbacnnoeaaGreatDoor
open Go.ChangeShapes Go.WideShapes Go.ChangeAt Go.RowKit
set_option linter.unusedVariables false
set_option linter.unusedSimpArgs false

/-- A table's cells. -/
def tabCells : Nat → DataW Unit → List Value
  | 0, _ => []
  | f + 1, .agg l => l.flatMap (tabCells f)
  | _, .lit (.int k n) => [.int k n]
  | _, _ => []
def putTab (h : Array Obj) (g : Nat) (d : DataW Unit) : Array Obj := h.modify g fun
  | .cells _ t frozen => .cells (tabCells 4 d).toArray t frozen
  | o => o
theorem u8_wf {n : Int} (h : (Lit.int .u8 n).wf = true) : 0 ≤ n ∧ n ≤ 255 := by
  have e1 : IntKind.min .u8 = 0 := by decide
  have e2 : IntKind.max .u8 = 255 := by decide
  have h2 : (decide (IntKind.min .u8 ≤ n) && decide (n ≤ IntKind.max .u8)) = true := h
  rw [e1, e2] at h2
  simpa using h2
end Go.Proofs.YtklblmbacnnoeaaGreatDoor

namespace Go.Proofs.YtklblmbacnnoeaaGreatDoor
open Go.ChangeShapes Go.WideShapes Go.ChangeAt Go.RowKit
set_option linter.unusedVariables false
set_option linter.unusedSimpArgs false

theorem tab_of_laid {l : List (String × DataW Unit)} {W : World} {d : DataW Unit} (hn : (l.all fun x => x.2.handleName?.isNone) = true) (hm : ("internal/strconv.uint64pow10", d) ∈ l) (hd : d = Lib.tabData .u64 Lib.pow10Tab) (h : laidMetH Tryz.prog l W) : Tab W := by
  subst hd
  rw [MakeChecks.laidMetH_plain _ _ _ hn] at h
  obtain ⟨g', t', cs, fuel, p, hg', ht', hvar, hd⟩ := Lib.laidMet.reads h hm
  obtain rfl := Option.some.inj ((show Tryz.prog.globalNamed "internal/strconv.uint64pow10" = some 4 by kernel_rfl).symm.trans hg')
  obtain rfl := Option.some.inj ((show (Tryz.prog.globals[4]?).map (·.type) = some 246 by kernel_rfl).symm.trans ht')
  unfold Tab Lib.TabIs
  rw [hvar]
  have := Lib.cells_of_tab (e := 159) Tryz.underlying246 Tryz.underlying159 (by kernel_rfl) (by kernel_rfl) hd
  rw [← this]
end Go.Proofs.YtklblmbacnnoeaaGreatDoor
