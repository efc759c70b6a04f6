/- The walk of the reference's SumOf. (Printed by genY9.py.) The walk of slices.Equal at equal rows of strings. The walk of the law FlatColumnsMatchSpec. -/
import Derived.Test.YtnnenokgjkpkiaaGreatDoorT6
import Derived.Test.YtnnenokgjkpkiaaGreatDoorY8
import Derived.Test.YtnnenokgjkpkiaaGreatDoorT14
import Derived.Test.YtnnenokgjkpkiaaGreatDoorRB
import Derived.Test.YtnnenokgjkpkiaaGreatDoorY3
import Derived.Test.YtnnenokgjkpkiaaGreatDoorUN
import Derived.Laws.StructEq
-- merged: Y9 YA YB
namespace Go.Proofs.YtnnenokgjkpkiaaGreatDoor
open Go.RowKit Limb Nmb Work
set_option linter.unusedVariables false
set_option linter.unusedSimpArgs false
theorem few_bad {z : Int} : ∀ {p : Nat}, (fewF z p).2.2 ≠ 0 → fewF z p = (0, 0, 1) := by
  intro p
  induction p generalizing z with
  | zero => intro h; unfold fewF made at *; split at h; exact absurd rfl h; rename_i h1; rw [if_neg h1]
  | succ p ih =>
    intro h
    by_cases hm : z % 10 = 0
    · rw [few_step hm] at h ⊢; exact ih h
    · rw [few_stop hm] at h ⊢; unfold made at *; split at h; exact absurd rfl h; rename_i h1; rw [if_neg h1]
theorem few_ok {z : Int} : ∀ {p : Nat}, p ≤ 9 → (fewF z p).2.2 = 0 → ∃ (u : Int) (q : Nat), fewF z p = (u, (q : Int), 0) ∧ q ≤ 9 ∧ -1000000000000000 ≤ u ∧ u ≤ 1000000000000000 := by
  intro p
  induction p generalizing z with
  | zero => intro _ h; unfold fewF made at *; split at h; rename_i h1; exact ⟨z, 0, by rw [if_pos h1]; rfl, by omega, by omega, by omega⟩; cases h
  | succ p ih =>
    intro hp h
    by_cases hm : z % 10 = 0
    · rw [few_step hm] at h ⊢; exact ih (by omega) h
    · rw [few_stop hm] at h ⊢; unfold made at *; split at h; rename_i h1; exact ⟨z, p + 1, by rw [if_pos h1], by omega, by omega, by omega⟩; cases h
def SumSt (SB : Nat) (wr : World) (z : Int) : Prop := ∃ (s : Bool) (SA : Option Addr) (sn sc : Nat), Big .i64 3 B6 wr s SA sn sc z ∧ wr.heap[SB]? = some (.cells #[.bool s, .slice SA sn sc] 73 (0, 0))
theorem valsC_size {w : World} {L : Option Addr} {rs : List RowP} {RA : Nat → Option Addr} {RC : Nat → Nat} (hl : RowsM w L rs RA RC) (tag : ByteArray) (i n : Nat) : ∀ s ∈ valsC rs tag i n, s.size ≤ 9223372036854775807 := by
  intro s hs
  unfold valsC at hs
  obtain ⟨r, hr, rfl⟩ := List.mem_map.1 hs
  have h1 := List.mem_of_mem_take (List.mem_filter.1 hr).1
  obtain ⟨j, hj, e⟩ := List.getElem_of_mem h1
  have h2 := (hl.each j hj).size
  rw [← rA_get hj, e] at h2
  exact wd_size h2 i
set_option maxHeartbeats 8000000 in
set_option maxRecDepth 100000 in
theorem rSumOf_bad (f : Fmt) (A : Option Addr) (cp : Nat) (FA : Nat → Option Addr) (FC : Nat → Nat) (L : Option Addr) (LC : Nat) (rs : List RowP) (RA : Nat → Option Addr) (RC : Nat → Nat) (tag name : ByteArray) (w : World) (ho : Kinds w A f.kinds FA FC) (hl : RowsM w L rs RA RC) (hcp : f.kinds.length ≤ cp) (hm : 0 ≤ f.mark ∧ f.mark ≤ 255) (hq : 0 ≤ f.quote ∧ f.quote ≤ 255) (ht : Tab w) (hx : (colAtF f rs tag name).2.2 ≠ 0) :
    Calls Tryz.prog 13 #[fmtG f A cp, .slice L rs.length LC, .string tag, .string name] w (RetD (sumOfR f rs tag name) w) := by
  have HCO := Lib.hid (fun w h h2 ht => rColumn6_c f A cp FA FC L LC rs RA RC tag name w h h2 hcp hm hq ht)
  have HKI := Lib.hid ho; have HLM := Lib.hid hl; have HTB := Lib.hid ht
  have HC := Lib.hid (show columnR f rs tag name = ([], (colAtF f rs tag name).2.2) from if_pos hx)
  have HE0 := Lib.hid (show sumOfR f rs tag name = (0, 0, (colAtF f rs tag name).2.2) from if_pos hx)
  rw [HC.out] at HCO
  rw [HE0.out]
  obtain ⟨x, hX⟩ : ∃ x, (colAtF f rs tag name).2.2 = x := ⟨_, rfl⟩
  rw [hX] at HCO hx ⊢
  unfold RetCol at HCO
  have h0a : (x != 0) = true := by simpa using hx
  clear ho hl ht hX HC HE0 hx
  obtain ⟨m, q, ks, hd, tl, ct, sm⟩ := f
  unfold fmtG at HCO ⊢
  simp only at HCO HKI hcp ⊢
  obtain ⟨n, hn⟩ : ∃ x, ks.length = x := ⟨_, rfl⟩
  rw [hn] at HCO hcp ⊢
  clear hn
  obtain ⟨nr, hnr⟩ : ∃ x, rs.length = x := ⟨_, rfl⟩
  rw [hnr] at HCO ⊢
  clear hnr
  have hF0 := heap_old (heap_new w (.cells #[.int .u8 m, .int .u8 q, .slice A n cp, .string hd, .string tl, .string ct, .string sm] 24) rfl) (.cells #[.int .i64 0, .int .i64 0] 32)
  have hZ0 := heap_new (w.alloc (.cells #[.int .u8 m, .int .u8 q, .slice A n cp, .string hd, .string tl, .string ct, .string sm] 24)) (.cells #[.int .i64 0, .int .i64 0] 32) (g := w.heap.size + 1) (by simp)
  have hB0 : Below w.heap.size w ((w.alloc (.cells #[.int .u8 m, .int .u8 q, .slice A n cp, .string hd, .string tl, .string ct, .string sm] 24)).alloc (.cells #[.int .i64 0, .int .i64 0] 32)) := by go_grown
  go_enter Tryz.func13, Tryz.ntmps13
  obtain ⟨⟨f0, f1, f2, f3, f4, f5, f6⟩, f7⟩ := obox7 hF0
  go_wp2_with fail
  refine (HCO.out _ (HKI.out.below hB0) (HLM.out.below hB0) (HTB.out.below hB0)).mono ?_
  rintro _ w2 ⟨VA, vc, rfl, -, -, -, hb2⟩
  have HZ2 := Lib.hid (heap_below hZ0 hb2)
  have HB2 := Lib.hid (below_then hb2 hB0 hB0.size)
  clear hF0 hZ0 hb2 f0 f1 f2 f3 f4 f5 f6 f7 hB0
  obtain ⟨z0, z1, z2, z3, z5⟩ := box2 HZ2.out
  have HRF : Hid (True ∧ True) := Lib.hid ⟨trivial, trivial⟩
  go_wp2
  have hz9 : ((w2.setCell ⟨w.heap.size + 1, 0, none⟩ (.int .i64 0)).setCell ⟨w.heap.size + 1, 1, none⟩ (.int .i64 0)).heap[w.heap.size + 1]? = some (.cells #[.int .i64 0, .int .i64 0] 32 (0, 0)) := heap_set (heap_set HZ2.out 0 _) 1 _
  obtain ⟨r0, r1, -, -, -⟩ := box2 hz9
  refine bodyPost_ret (v := .tuple #[.agg #[.int .i64 0, .int .i64 0], .int .i64 x]) (by simp [results, Tryz.results13, go_sem, r0, r1]) rfl ⟨rfl, ?_⟩
  exact (HB2.out.setCell (p := ⟨w.heap.size + 1, 0, none⟩) (by show w.heap.size ≤ w.heap.size + 1; omega) _).setCell (p := ⟨w.heap.size + 1, 1, none⟩) (by show w.heap.size ≤ w.heap.size + 1; omega) _
set_option maxHeartbeats 8000000 in
set_option maxRecDepth 100000 in
theorem rSumOf_ok (f : Fmt) (A : Option Addr) (cp : Nat) (FA : Nat → Option Addr) (FC : Nat → Nat) (L : Option Addr) (LC : Nat) (rs : List RowP) (RA : Nat → Option Addr) (RC : Nat → Nat) (tag name : ByteArray) (w : World) (ho : Kinds w A f.kinds FA FC) (hl : RowsM w L rs RA RC) (hcp : f.kinds.length ≤ cp) (hm : 0 ≤ f.mark ∧ f.mark ≤ 255) (hq : 0 ≤ f.quote ∧ f.quote ≤ 255) (ht : Tab w) (hx : (colAtF f rs tag name).2.2 = 0) :
    Calls Tryz.prog 13 #[fmtG f A cp, .slice L rs.length LC, .string tag, .string name] w (RetD (sumOfR f rs tag name) w) := by
  have HCO := Lib.hid (fun w h h2 ht => rColumn6_c f A cp FA FC L LC rs RA RC tag name w h h2 hcp hm hq ht)
  have HKA := Lib.hid (fun w h => rkindof_c f A cp FA FC tag w h)
  have hsv := sum_vals hx
  have hc : columnR f rs tag name = (valsC rs tag (colAtF f rs tag name).1.toNat rs.length, 0) := if_neg (fun h => h hx)
  have hr : sumOfR f rs tag name = if (colAtF f rs tag name).2.1.kind ≠ 2 then (0, 0, 6) else fewF (sumZr f tag name rs rs.length) 9 := if_neg (fun h => h hx)
  obtain ⟨ha, h1, h2, h3⟩ := colAt_parts hx
  have hnk := ho.1.2
  rw [h3] at hsv hc hr
  simp only at hsv hc hr
  rw [← hsv] at hr
  rcases kat_cases f FA FC tag with ⟨e, -⟩ | ⟨k, hk, e1, e2, e3, e4⟩
  · rw [e] at h1; exact absurd (by decide) h1
  rw [e2] at hc hr h2
  rcases ixF_spec (nameIs name) (kA f.kinds k).fields with ⟨g1, -⟩ | ⟨ic, hi, g1, -, -⟩
  · rw [g1] at h2; exact absurd (by decide) h2
  rw [g1, Int.toNat_natCast] at hc hr
  have hlen : (valsC rs tag ic rs.length).length ≤ 2000 := Nat.le_trans (valsC_len rs tag ic rs.length) (askF_ok ha).2.1
  have hvz := valsC_size hl tag ic rs.length
  obtain ⟨VL, hVL⟩ : ∃ x, valsC rs tag ic rs.length = x := ⟨_, rfl⟩
  rw [hVL] at hc hr hlen hvz
  rw [hc] at HCO
  have HCA := Lib.hid (fun w h => rcolof_c (kA f.kinds k) (FA k) (FC k) name w h)
  rw [g1] at HCA
  have HVZ := Lib.hid hvz
  obtain ⟨R, hR⟩ : ∃ x, sumOfR f rs tag name = x := ⟨_, rfl⟩
  rw [hR] at hr ⊢
  have HR := Lib.hid hr
  have HLEN := Lib.hid hlen
  have h1' : ixF (tagIs tag) f.kinds = (k : Int) := e1
  rw [h1'] at HKA
  have HKI := Lib.hid ho; have HLM := Lib.hid hl; have HTB := Lib.hid ht
  unfold RetCol at HCO
  clear hsv hc hr ha h1 h2 h3 e1 e2 e3 e4 g1 hVL hR hlen hvz hx ho hl ht h1'
  obtain ⟨m, q, ks, hd, tl, ct, sm⟩ := f
  unfold fmtG at HCO HKA ⊢
  simp only at HCO HKA HCA HR HKI hcp hnk hk hi ⊢
  obtain ⟨n, hn⟩ : ∃ x, ks.length = x := ⟨_, rfl⟩
  have hkn : k < n := by rw [← hn]; exact hk
  rw [hn] at HCO HKA hcp hnk ⊢
  clear hn
  obtain ⟨nr, hnr⟩ : ∃ x, rs.length = x := ⟨_, rfl⟩
  rw [hnr] at HCO ⊢
  clear hnr
  obtain ⟨vn, hvn⟩ : ∃ x, VL.length = x := ⟨_, rfl⟩
  have HVN := Lib.hid hvn
  rw [hvn] at HCO
  have hv2000 : vn ≤ 2000 := by rw [← hvn]; exact HLEN.out
  clear hvn
  obtain ⟨kb, ko, hA, hkb, kc0, kc1, kc2, kc3⟩ := HKI.out.cells hk
  subst hA
  have HCL := Lib.hid ((HKI.out).2.2 k hk)
  obtain ⟨K, hK⟩ : ∃ x, kA ks k = x := ⟨_, rfl⟩
  rw [hK] at HCL HCA HR hi kc0 kc1 kc2 kc3
  clear hK
  obtain ⟨kt, fs, km, ku⟩ := K
  unfold kindG at HCA
  simp only at HCL HCA HR hi kc0 kc1 kc2 kc3
  obtain ⟨KA, hKA⟩ : ∃ x, FA k = x := ⟨_, rfl⟩
  obtain ⟨KC, hKC⟩ : ∃ x, FC k = x := ⟨_, rfl⟩
  obtain ⟨nf, hnf⟩ : ∃ x, fs.length = x := ⟨_, rfl⟩
  rw [hKA, hKC] at HCL HCA kc1
  rw [hnf] at HCA kc1 hi
  have hnfc : nf ≤ KC := by rw [← hnf]; exact HCL.out.2
  have HNF := Lib.hid hnf
  clear hnf hKA hKC
  have HKC := Lib.hid (show ∀ wx, Below w.heap.size w wx → wx.cell? ⟨kb, ko + k * 4, none⟩ = some (.string kt) ∧ wx.cell? ⟨kb, ko + k * 4 + 1, none⟩ = some (.slice KA nf KC) ∧ wx.cell? ⟨kb, ko + k * 4 + 2, none⟩ = some (.int .i64 km) ∧ wx.cell? ⟨kb, ko + k * 4 + 3, none⟩ = some (.string ku) from fun wx h =>
    ⟨(h.cell (p := ⟨kb, ko + k * 4, none⟩) hkb).trans kc0, (h.cell (p := ⟨kb, ko + k * 4 + 1, none⟩) hkb).trans kc1, (h.cell (p := ⟨kb, ko + k * 4 + 2, none⟩) hkb).trans kc2, (h.cell (p := ⟨kb, ko + k * 4 + 3, none⟩) hkb).trans kc3⟩)
  clear kc0 kc1 kc2 kc3
  have hF0 := heap_old (heap_new w (.cells #[.int .u8 m, .int .u8 q, .slice (some ⟨kb, ko, none⟩) n cp, .string hd, .string tl, .string ct, .string sm] 24) rfl) (.cells #[.int .i64 0, .int .i64 0] 32)
  have hZ0 := heap_new (w.alloc (.cells #[.int .u8 m, .int .u8 q, .slice (some ⟨kb, ko, none⟩) n cp, .string hd, .string tl, .string ct, .string sm] 24)) (.cells #[.int .i64 0, .int .i64 0] 32) (g := w.heap.size + 1) (by simp)
  have hB0 : Below w.heap.size w ((w.alloc (.cells #[.int .u8 m, .int .u8 q, .slice (some ⟨kb, ko, none⟩) n cp, .string hd, .string tl, .string ct, .string sm] 24)).alloc (.cells #[.int .i64 0, .int .i64 0] 32)) := by go_grown
  go_enter Tryz.func13, Tryz.ntmps13
  obtain ⟨⟨f0, f1, f2, f3, f4, f5, f6⟩, f7⟩ := obox7 hF0
  go_wp2_with fail
  refine (HCO.out _ (HKI.out.below hB0) (HLM.out.below hB0) (HTB.out.below hB0)).mono ?_
  rintro _ w2 ⟨VA, vc, rfl, hsv, hvc, hvcb, hb2⟩
  have HSV := Lib.hid hsv
  have HF2 := Lib.hid (heap_below hF0 hb2)
  have HZ2 := Lib.hid (heap_below hZ0 hb2)
  have HB2 := Lib.hid (below_then hb2 hB0 hB0.size)
  clear hF0 hZ0 hb2 f0 f1 f2 f3 f4 f5 f6 f7 hB0 hsv
  have HSB := Lib.hid (show ∀ wx, Below w2.heap.size w2 wx → (fun w' : World => w'.cell? ⟨w.heap.size, 0, none⟩ = some (.int .u8 m) ∧ w'.cell? ⟨w.heap.size, 1, none⟩ = some (.int .u8 q) ∧ w'.cell? ⟨w.heap.size, 2, none⟩ = some (.slice (some ⟨kb, ko, none⟩) n cp) ∧ w'.cell? ⟨w.heap.size, 3, none⟩ = some (.string hd) ∧ w'.cell? ⟨w.heap.size, 4, none⟩ = some (.string tl) ∧ w'.cell? ⟨w.heap.size, 5, none⟩ = some (.string ct) ∧ w'.cell? ⟨w.heap.size, 6, none⟩ = some (.string sm) ∧ w'.cell? ⟨kb, ko + k * 4, none⟩ = some (.string kt) ∧ w'.cell? ⟨kb, ko + k * 4 + 1, none⟩ = some (.slice KA nf KC) ∧ w'.cell? ⟨kb, ko + k * 4 + 2, none⟩ = some (.int .i64 km) ∧ w'.cell? ⟨kb, ko + k * 4 + 3, none⟩ = some (.string ku)) wx from fun wx h => by
    obtain ⟨⟨f0, f1, f2, f3, f4, f5, f6⟩, f7⟩ := obox7 (heap_below HF2.out h)
    obtain ⟨g0, g1, g2, g3⟩ := HKC.out _ (below_then h HB2.out HB2.out.size)
    exact ⟨f0, f1, f2, f3, f4, f5, f6, g0, g1, g2, g3⟩)
  have HK2 := Lib.hid (HKI.out.below HB2.out)
  have T1 : Below w2.heap.size w2 w2 := Below.refl _ _
  go_upto_region 4 with fail
  go_cut [12] (fun c wx => ∃ h : Nat, c = .pointer (some ⟨h, 0, none⟩) ∧ wx.heap[h]? = some (.cells #[.string kt, .slice KA nf KC, .int .i64 km, .string ku] 70 (0, 0)) ∧ Below w2.heap.size w2 wx)
  case first =>
    go_region_held3 (fun w' : World => w'.cell? ⟨w.heap.size, 0, none⟩ = some (.int .u8 m) ∧ w'.cell? ⟨w.heap.size, 1, none⟩ = some (.int .u8 q) ∧ w'.cell? ⟨w.heap.size, 2, none⟩ = some (.slice (some ⟨kb, ko, none⟩) n cp) ∧ w'.cell? ⟨w.heap.size, 3, none⟩ = some (.string hd) ∧ w'.cell? ⟨w.heap.size, 4, none⟩ = some (.string tl) ∧ w'.cell? ⟨w.heap.size, 5, none⟩ = some (.string ct) ∧ w'.cell? ⟨w.heap.size, 6, none⟩ = some (.string sm) ∧ w'.cell? ⟨kb, ko + k * 4, none⟩ = some (.string kt) ∧ w'.cell? ⟨kb, ko + k * 4 + 1, none⟩ = some (.slice KA nf KC) ∧ w'.cell? ⟨kb, ko + k * 4 + 2, none⟩ = some (.int .i64 km) ∧ w'.cell? ⟨kb, ko + k * 4 + 3, none⟩ = some (.string ku))
      (first | (with_reducible exact HSB.out _ T2) | (with_reducible exact HSB.out _ (T2.alloc T2.size _)) | (refine HSB.out _ ?_; go_grown))
      (first | (go_at_call 32; refine (HKA.out _ (by first | exact HK2.out | exact HK2.out.below (by go_grown))).mono ?_; rintro e w3 ⟨rfl, hb3'⟩; (have T2 : Below w2.heap.size w2 w3 := below_then hb3' (by go_grown) (by first | exact Nat.le_refl _ | (simp only [World.size_alloc, World.size_drew]; omega))); (first | (have hN3 := news1d hb3'; obtain ⟨⟨y0, y1, y2, y3⟩, y5, y4⟩ := obox4 hN3) | skip)))
    · go_wp2_with fail
      go_meet
      exact ⟨w3.heap.size, rfl, heap_new _ _ rfl, T2.alloc T2.size _⟩
    · go_wp2_with fail
      go_meet
      exact ⟨w2.heap.size, rfl, heap_set (heap_set (heap_set (heap_set hN3 0 _) 1 _) 2 _) 3 _, (((T2.setCell (p := ⟨w2.heap.size, 0, none⟩) (Nat.le_refl _) _).setCell (p := ⟨w2.heap.size, 1, none⟩) (Nat.le_refl _) _).setCell (p := ⟨w2.heap.size, 2, none⟩) (Nat.le_refl _) _).setCell (p := ⟨w2.heap.size, 3, none⟩) (Nat.le_refl _) _⟩
  case rest =>
    obtain ⟨KB, rfl, hK3, hB3⟩ := hcut
    have hz2 := HB2.out.size
    have HK3 := Lib.hid hK3
    have HB3 := Lib.hid hB3
    have HB3w := Lib.hid (below_then hB3 HB2.out hz2)
    have HZ3 := Lib.hid (heap_below HZ2.out hB3)
    have HCL3 := Lib.hid (HCL.out.1.below HB3w.out)
    obtain ⟨cb, co, hA2, hcb, d0, d1, d2, d3, d4, d5, d6, d7⟩ := HCL3.out.cells (j := ic) (by show ic < fs.length; rw [HNF.out]; exact hi)
    have HD1 := Lib.hid d1
    obtain ⟨kd, hkd⟩ : ∃ x, (cA fs ic).kind = x := ⟨_, rfl⟩
    rw [hkd] at HD1 HR
    subst hA2
    have HSC := Lib.hid (show ∀ wx, Below wc.heap.size wc wx → (fun w' : World => w'.cell? ⟨KB, 0, none⟩ = some (.string kt) ∧ w'.cell? ⟨KB, 1, none⟩ = some (.slice (some ⟨cb, co, none⟩) nf KC) ∧ w'.cell? ⟨KB, 2, none⟩ = some (.int .i64 km) ∧ w'.cell? ⟨KB, 3, none⟩ = some (.string ku) ∧ w'.cell? ⟨cb, co + ic * 8 + 1, none⟩ = some (.int .i64 kd)) wx from fun wx h => by
      obtain ⟨⟨y0, y1, y2, y3⟩, -, y4⟩ := obox4 (heap_below HK3.out h)
      exact ⟨y0, y1, y2, y3, (h.cell (p := ⟨cb, co + ic * 8 + 1, none⟩) hcb).trans HD1.out⟩)
    have T3 : Below wc.heap.size wc wc := Below.refl _ _
    clear d0 d1 d2 d3 d4 d5 d6 d7 hK3 hB3 hkd T1
    go_upto_region 5 with fail
    go_region_held3 (fun w' : World => w'.cell? ⟨KB, 0, none⟩ = some (.string kt) ∧ w'.cell? ⟨KB, 1, none⟩ = some (.slice (some ⟨cb, co, none⟩) nf KC) ∧ w'.cell? ⟨KB, 2, none⟩ = some (.int .i64 km) ∧ w'.cell? ⟨KB, 3, none⟩ = some (.string ku) ∧ w'.cell? ⟨cb, co + ic * 8 + 1, none⟩ = some (.int .i64 kd))
      (first | (with_reducible exact HSC.out _ T4) | (refine HSC.out _ ?_; go_grown))
      (first | (go_at_call 33; refine (HCA.out _ (by exact HCL3.out)).mono ?_; rintro e w4 ⟨rfl, hb4'⟩; (have T4 : Below wc.heap.size wc w4 := by exact ⟨hb4'.os, hb4'.tape, hb4'.output, hb4'.size, hb4'.block⟩)))
    have HB4 := Lib.hid (below_then T4 HB3w.out HB3w.out.size)
    have HZ4 := Lib.hid (heap_below HZ3.out T4)
    obtain ⟨z0, z1, z2, z3, z5⟩ := box2 HZ4.out
    by_cases h2 : kd = 2
    case neg =>
      have HE := Lib.hid (show R = (0, 0, 6) by rw [HR.out, if_pos h2])
      have h2a : (kd != 2) = true := by simpa using h2
      clear h2
      go_wp2
      have hz9 : ((w4.setCell ⟨w.heap.size + 1, 0, none⟩ (.int .i64 0)).setCell ⟨w.heap.size + 1, 1, none⟩ (.int .i64 0)).heap[w.heap.size + 1]? = some (.cells #[.int .i64 0, .int .i64 0] 32 (0, 0)) := heap_set (heap_set HZ4.out 0 _) 1 _
      obtain ⟨r0, r1, -, -, -⟩ := box2 hz9
      refine bodyPost_ret (v := .tuple #[.agg #[.int .i64 0, .int .i64 0], .int .i64 6]) (by simp [results, Tryz.results13, go_sem, r0, r1]) rfl ⟨by rw [HE.out], ?_⟩
      exact (HB4.out.setCell (p := ⟨w.heap.size + 1, 0, none⟩) (by show w.heap.size ≤ w.heap.size + 1; omega) _).setCell (p := ⟨w.heap.size + 1, 1, none⟩) (by show w.heap.size ≤ w.heap.size + 1; omega) _
    subst h2
    have HE := Lib.hid (show R = fewF (sumVs VL) 9 by rw [HR.out, if_neg (fun h => h rfl)])
    have HFIT := Lib.hid (sumVs_fit (L := VL) HLEN.out)
    have HBDS := Lib.hid (fun j => sumVs_bd (VL.take j))
    have HV4 := Lib.hid (HSV.out.below (below_then T4 HB3.out HB3.out.size))
    have HT4 := Lib.hid (HTB.out.below HB4.out)
    have hlt4 := lt_heap HZ4.out
    have hN4 := heap_new w4 (.cells #[.bool false, .slice none 0 0] 73) rfl
    clear z0 z1 z2 z3 z5 T3 T4 HSC HD1 HCL3 HSB HSV HTB HK2 HKI HLM HKA HCA HCO HKC HB3w HR HF2 HZ2 HB2 hz2 HZ3 HK3 HCL
    go_wp2_with fail
    obtain ⟨SB, hSB⟩ : ∃ x, w4.heap.size = x := ⟨_, rfl⟩
    have HSBE := Lib.hid hSB
    have HBN : Hid (Below SB w4 (w4.alloc (.cells #[.bool false, .slice none 0 0] 73))) := Lib.hid (by rw [← hSB]; go_grown)
    have HG4 : Hid (Big .i64 3 B6 (w4.alloc (.cells #[.bool false, .slice none 0 0] 73)) false none 0 0 (sumVs (VL.take 0))) := Lib.hid ⟨[], Dig.nil_, Nat.le_refl _, Nat.zero_le _, Digs.nil _, norm_nil, by decide, by simp [sumVs, sg, val]⟩
    rw [hSB] at hN4 hlt4
    have HN4 := Lib.hid hN4
    try rw [hSB]
    generalize w4.alloc (.cells #[.bool false, .slice none 0 0] 73) = w5 at HN4 HBN HG4 ⊢
    have HF := Lib.hid (show ∀ wr, Below SB w4 wr → Svs wr VA VL ∧ Tab wr ∧ wr.heap[w.heap.size + 1]? = some (.cells #[.int .i64 0, .int .i64 0] 32 (0, 0)) ∧ Below w.heap.size w wr from fun wr h => by
      have h' : Below w4.heap.size w4 wr := by rw [HSBE.out]; exact h
      exact ⟨HV4.out.below h', HT4.out.below h', heap_below HZ4.out h', below_then h' HB4.out HB4.out.size⟩)
    clear hSB hN4 HV4 HT4 HZ4 HB4
    go_loopw [50] (fun i wr => ∃ (j : Nat), j ≤ vn ∧ i = .int .i64 j ∧ Hid (SumSt SB wr (sumVs (VL.take j))) ∧ Hid (Below SB w4 wr)) (fun i _ => vn - (intOf i).toNat)
    case atStart => exact ⟨0, Nat.zero_le _, rfl, Lib.hid ⟨false, none, 0, 0, HG4.out, HN4.out⟩, HBN⟩
    case round =>
      clear HN4 HBN HG4
      obtain ⟨j, hj, rfl, HX, HB⟩ := hrel
      obtain ⟨s, SA, sn, sc, hG, hS⟩ := HX.out
      have HG := Lib.hid hG; have HS := Lib.hid hS
      clear HX hG hS
      have HFW := Lib.hid (HF.out _ HB.out)
      have hzr : SB < wr.heap.size := lt_heap HS.out
      rcases Nat.lt_or_ge j vn with hlt | hge
      · obtain ⟨b, off, rfl, hbw, hcs⟩ := HFW.out.1 (show 0 < VL.length by rw [HVN.out]; omega)
        have s0 := hcs j (by rw [HVN.out]; exact hlt)
        have hsz := wd_size HVZ.out j
        have HTK := Lib.hid (sumVs_take (L := VL) (j := j) (by rw [HVN.out]; exact hlt))
        have hbj := HBDS.out j
        have hlj : (VL.take j).length ≤ 2000 := Nat.le_trans (List.length_take_le' _ _) HLEN.out
        obtain ⟨sv, hsv⟩ : ∃ x, wd VL j = x := ⟨_, rfl⟩
        rw [hsv] at s0 hsz HTK
        obtain ⟨z, hz⟩ : ∃ x, sumVs (VL.take j) = x := ⟨_, rfl⟩
        rw [hz] at HG HTK hbj
        have HBD := Lib.hid (show -10000000000000000000000000000000 ≤ z ∧ z ≤ 10000000000000000000000000000000 by omega)
        have hem := emp_dec sv
        clear hsv hz hcs hbj hlj
        by_cases h0 : sv = ⟨#[]⟩
        · have HN := Lib.hid (show sumVs (VL.take (j + 1)) = z by rw [HTK.out, show vZ sv = 0 from if_pos h0]; exact Int.add_zero _)
          rw [decide_eq_true h0] at hem
          clear h0
          go_wp2
          go_roundw
          case rel => exact ⟨j + 1, by omega, by go_num, Lib.hid ⟨s, SA, sn, sc, by rw [HN.out]; exact HG.out, HS.out⟩, HB⟩
          case measure => simp [intOf]; omega
        · rw [decide_eq_false h0] at hem
          have HZE := Lib.hid (show vZ sv = scaled (readText sv.data.toList).1 (readText sv.data.toList).2.1 9 from if_neg h0)
          have hdc := readText_dec2 sv.data.toList
          have HRT := Lib.hid (fun w => rreadtext_c sv w hsz)
          obtain ⟨⟨u, p, e⟩, hrd⟩ : ∃ x, readText sv.data.toList = x := ⟨_, rfl⟩
          rw [hrd] at HZE hdc HRT
          simp only at HZE hdc
          unfold RetD at HRT
          simp only at HRT
          have HDC := Lib.hid hdc
          have hbd := scl_bd hdc
          have HSM := Lib.hid (show Small z from small_of_le (by have := HBD.out; omega) (by have := HBD.out; omega))
          have HSV := Lib.hid (show Small (scaled u p 9) from small_of_le (by omega) (by omega))
          have HN := Lib.hid (show sumVs (VL.take (j + 1)) = z + scaled u p 9 by rw [HTK.out, HZE.out])
          obtain ⟨r0, r1, -, -, r2⟩ := box2 HS.out
          clear h0 hrd hdc hbd
          go_wp2_with fail
          refine (HRT.out _).mono ?_
          rintro _ wc2 ⟨rfl, hbc⟩
          have HS9 := Lib.hid (heap_old (heap_below HS.out hbc) (.cells #[.int .i64 u, .int .i64 p] 32))
          have HD9 := Lib.hid (heap_new wc2 (.cells #[.int .i64 u, .int .i64 p] 32) rfl)
          have hbc9 : Below wr.heap.size wr (wc2.alloc (.cells #[.int .i64 u, .int .i64 p] 32)) := hbc.alloc hbc.size _
          have HG8 := Lib.hid (HG.out.below hbc9)
          have HB9 := Lib.hid (below_then hbc9 HB.out (Nat.le_of_lt hzr))
          clear HS HG HB r0 r1 r2 hbc hbc9 s0 hbw HFW
          go_upto_region 13 with fail
          obtain ⟨DB, hDB⟩ : ∃ x, wc2.heap.size = x := ⟨_, rfl⟩
          rw [hDB] at HD9
          try rw [hDB]
          generalize wc2.alloc (.cells #[.int .i64 u, .int .i64 p] 32) = w8 at HS9 HD9 HG8 HB9 ⊢
          clear hDB
          have HSB := Lib.hid (show ∀ wx, Below w8.heap.size w8 wx → (fun w' : World => w'.cell? ⟨SB, 0, none⟩ = some (.bool s) ∧ w'.cell? ⟨SB, 1, none⟩ = some (.slice SA sn sc) ∧ w'.cell? ⟨DB, 0, none⟩ = some (.int .i64 u) ∧ w'.cell? ⟨DB, 1, none⟩ = some (.int .i64 p)) wx from fun wx h => by
            obtain ⟨a0, a1, -, -, -⟩ := box2 (heap_below HS9.out h)
            obtain ⟨b0, b1, -, -, -⟩ := box2 (heap_below HD9.out h)
            exact ⟨a0, a1, b0, b1⟩)
          have hT : (fun w' : World => w'.cell? ⟨SB, 0, none⟩ = some (.bool s) ∧ w'.cell? ⟨SB, 1, none⟩ = some (.slice SA sn sc) ∧ w'.cell? ⟨DB, 0, none⟩ = some (.int .i64 u) ∧ w'.cell? ⟨DB, 1, none⟩ = some (.int .i64 p)) w8.drew := HSB.out _ ((Below.refl _ _).drew)
          have hfz : w8.frozen? ⟨SB, 0, none⟩ = false ∧ w8.frozen? ⟨SB, 1, none⟩ = false := ⟨(box2 HS9.out).2.2.1, (box2 HS9.out).2.2.2.1⟩
          refine region_till 4 (fun w' : World => w'.cell? ⟨SB, 0, none⟩ = some (.bool s) ∧ w'.cell? ⟨SB, 1, none⟩ = some (.slice SA sn sc) ∧ w'.cell? ⟨DB, 0, none⟩ = some (.int .i64 u) ∧ w'.cell? ⟨DB, 1, none⟩ = some (.int .i64 p)) (by kernel_rfl) ?_
          refine Till.take (i := 0) (v := ?_) rfl (by kernel_rfl) (by kernel_rfl) (by kernel_rfl) [3] (by kernel_rfl) (by decide) (by kernel_rfl) (by kernel_rfl) (fun _ _ _ h => h) hT (Or.inl ⟨by rfl, ?_⟩) ?_
          rotate_left
          · (intro w' hw'; obtain ⟨u1, u2, u3, u4⟩ := hw'; go_simp; try with_reducible rfl)
          (try simp only [Act.put, List.setIfInBounds_toArray, List.set_cons_zero, List.set_cons_succ])
          refine Till.take (i := 1) (v := ?_) rfl (by kernel_rfl) (by kernel_rfl) (by kernel_rfl) [2, 3] (by kernel_rfl) (by decide) (by kernel_rfl) (by kernel_rfl) (fun _ _ _ h => h) hT (Or.inl ⟨by rfl, ?_⟩) ?_
          rotate_left
          · (intro w' hw'; obtain ⟨u1, u2, u3, u4⟩ := hw'; go_simp; try with_reducible rfl)
          (try simp only [Act.put, List.setIfInBounds_toArray, List.set_cons_zero, List.set_cons_succ])
          refine Till.step (i := 2) (by kernel_rfl) rfl ?_
          intro K hK
          go_simp
          (go_at_call 37; refine (at_r u p 9 _ HDC.out (decB_out HDC.out).2.2.2 (by decide)).mono ?_; rintro _ wa ⟨sa, Aa, na, ca, rfl, hva, hba⟩; (have Ta : Below w8.heap.size w8 wa := by exact ⟨hba.os, hba.tape, hba.output, hba.size, hba.block⟩))
          have hT : (fun w' : World => w'.cell? ⟨SB, 0, none⟩ = some (.bool s) ∧ w'.cell? ⟨SB, 1, none⟩ = some (.slice SA sn sc) ∧ w'.cell? ⟨DB, 0, none⟩ = some (.int .i64 u) ∧ w'.cell? ⟨DB, 1, none⟩ = some (.int .i64 p)) wa := HSB.out _ Ta
          refine hK.out _ _ (fun _ => hT) ?_
          clear hK K
          (try simp only [Act.put, List.setIfInBounds_toArray, List.set_cons_zero, List.set_cons_succ])
          refine Till.step (i := 3) (by kernel_rfl) rfl ?_
          intro K hK
          go_simp
          (go_at_call 36; refine (plus_r _ (HG8.out.below Ta) hva HSM.out HSV.out).mono ?_; rintro _ wb ⟨sb, Ab, nb, cb2, rfl, hvb, hbb⟩; (have Tb : Below w8.heap.size w8 wb := below_then hbb Ta Ta.size))
          have hT : (fun w' : World => w'.cell? ⟨SB, 0, none⟩ = some (.bool s) ∧ w'.cell? ⟨SB, 1, none⟩ = some (.slice SA sn sc) ∧ w'.cell? ⟨DB, 0, none⟩ = some (.int .i64 u) ∧ w'.cell? ⟨DB, 1, none⟩ = some (.int .i64 p)) wb := HSB.out _ Tb
          refine hK.out _ _ (fun _ => hT) ?_
          clear hK K
          (try simp only [Act.put, List.setIfInBounds_toArray, List.set_cons_zero, List.set_cons_succ])
          obtain ⟨-, -, fz0, fz1, -⟩ := box2 (heap_below HS9.out Tb)
          refine Till.step (i := 4) (by kernel_rfl) rfl ?_
          intro K hK
          go_simp
          refine hK.out _ _ (fun h => absurd h (by decide)) ?_
          clear hK K
          (try simp only [Act.put, List.setIfInBounds_toArray, List.set_cons_zero, List.set_cons_succ])
          refine Till.done (by kernel_rfl) ?_ _
          have HSb := Lib.hid (heap_below HS9.out Tb)
          have hsz8 := lt_heap HS9.out
          have HBb := Lib.hid (below_then Tb HB9.out (Nat.le_of_lt hsz8))
          have HS10 := Lib.hid (show ((wb.setCell ⟨SB, 0, none⟩ (.bool sb)).setCell ⟨SB, 1, none⟩ (.slice Ab nb cb2)).heap[SB]? = some (.cells #[.bool sb, .slice Ab nb cb2] 73 (0, 0)) from heap_set (heap_set HSb.out 0 _) 1 _)
          have HG10 := Lib.hid (hvb.box2 HSb.out (by decide) (.bool sb) (.slice Ab nb cb2))
          have HB10 := Lib.hid ((HBb.out.setCell (p := ⟨SB, 0, none⟩) (Nat.le_refl _) (.bool sb)).setCell (p := ⟨SB, 1, none⟩) (Nat.le_refl _) (.slice Ab nb cb2))
          have HG11 := Lib.hid (show Big .i64 3 B6 ((wb.setCell ⟨SB, 0, none⟩ (.bool sb)).setCell ⟨SB, 1, none⟩ (.slice Ab nb cb2)) sb Ab nb cb2 (sumVs (VL.take (j + 1))) by rw [HN.out]; exact HG10.out)
          go_wp2
          go_roundw
          case rel => first | exact ⟨j + 1, by omega, by go_num, Lib.hid ⟨sb, Ab, nb, cb2, HG11.out, HS10.out⟩, HB10⟩ | ((repeat apply Exists.intro); first | exact ⟨⟨j + 1, by omega, rfl, Lib.hid ⟨sb, Ab, nb, cb2, HG11.out, HS10.out⟩⟩, rfl, rfl, rfl, by go_num⟩ | exact ⟨⟨j + 1, by omega, rfl, Lib.hid ⟨sb, Ab, nb, cb2, HG11.out, HS10.out⟩, HB10⟩, rfl, rfl, rfl, by go_num⟩ | exact ⟨⟨j + 1, by omega, by go_num, Lib.hid ⟨sb, Ab, nb, cb2, HG11.out, HS10.out⟩, HB10⟩, rfl⟩)
          case measure => simp [intOf]; omega
      · obtain rfl : j = vn := by omega
        have htk : VL.take j = VL := by rw [← HVN.out]; exact List.take_length
        rw [htk] at HG
        have HTO := Lib.hid (told_c wr HG.out HFIT.out HFW.out.2.1)
        rw [← HE.out] at HTO
        have HZ6 := Lib.hid HFW.out.2.2.1
        have HB6 := Lib.hid HFW.out.2.2.2
        obtain ⟨a0, a1, -, -, -⟩ := box2 HS.out
        clear htk hj hge HFW HF HG HB
        by_cases he : R.2.2 = 0
        · obtain ⟨u, q, hR, hq, hu1, hu2⟩ := few_ok (z := sumVs VL) (Nat.le_refl 9) (by rw [← HE.out]; exact he)
          have HER := Lib.hid (HE.out.trans hR)
          rw [HER.out] at HTO
          unfold RetST toldL at HTO
          simp only [if_true] at HTO
          have HBK := Lib.hid (readText_back (u := u) (q := q) ⟨hu1, hu2⟩ hq)
          have HLN := Lib.hid (text_len (u := u) (q := q) hq (by have : u.natAbs ≤ 1000000000000000 := by omega
                                                                 exact Nat.lt_of_le_of_lt this (by decide)))
          have HRT := Lib.hid (fun (s : ByteArray) w h => rreadtext_c s w h)
          clear hR hq hu1 hu2 he HE
          go_wp2_with fail
          refine HTO.out.mono ?_
          rintro _ w6 ⟨s6, rfl, hs6, hb6⟩
          have hz6 : s6.size ≤ 9223372036854775807 := by
            have h1 : s6.size = s6.data.toList.length := by simp
            rw [h1, hs6]
            have := HLN.out
            simp only [Int.toNat_natCast]
            omega
          have HRT6 := Lib.hid (fun w => HRT.out s6 w hz6)
          rw [hs6, Int.toNat_natCast, HBK.out] at HRT6
          unfold RetD at HRT6
          simp only at HRT6
          have HZ7 := Lib.hid (heap_below HZ6.out hb6)
          have HB7 := Lib.hid (below_then hb6 HB6.out (Nat.le_of_lt (Nat.lt_of_le_of_lt (Nat.le_of_lt (Nat.lt_of_succ_lt hlt4)) hzr)))
          clear hb6 hs6 HBK HLN HRT HZ6 HB6 HTO a0 a1 hz6
          go_wp2_with fail
          refine (HRT6.out _).mono ?_
          rintro _ w7 ⟨rfl, hb7⟩
          have HZ8 := Lib.hid (heap_below HZ7.out hb7)
          have HB8 := Lib.hid (below_then hb7 HB7.out HB7.out.size)
          obtain ⟨z0, z1, z2, z3, z5⟩ := box2 HZ8.out
          clear hb7
          go_wp2
          have hz9 : ((w7.setCell ⟨w.heap.size + 1, 0, none⟩ (.int .i64 u)).setCell ⟨w.heap.size + 1, 1, none⟩ (.int .i64 (q : Int))).heap[w.heap.size + 1]? = some (.cells #[.int .i64 u, .int .i64 (q : Int)] 32 (0, 0)) := heap_set (heap_set HZ8.out 0 _) 1 _
          obtain ⟨r0, r1, -, -, -⟩ := box2 hz9
          refine bodyPost_ret (v := .tuple #[.agg #[.int .i64 u, .int .i64 (q : Int)], .int .i64 0]) (by simp [results, Tryz.results13, go_sem, r0, r1]) rfl ⟨by rw [HER.out], ?_⟩
          exact (HB8.out.setCell (p := ⟨w.heap.size + 1, 0, none⟩) (by show w.heap.size ≤ w.heap.size + 1; omega) _).setCell (p := ⟨w.heap.size + 1, 1, none⟩) (by show w.heap.size ≤ w.heap.size + 1; omega) _
        · have HER := Lib.hid (HE.out.trans (few_bad (z := sumVs VL) (by rw [← HE.out]; exact he)))
          rw [HER.out] at HTO
          unfold RetST at HTO
          simp only at HTO
          clear he HE
          go_wp2_with fail
          refine HTO.out.mono ?_
          rintro _ w6 ⟨s6, rfl, hs6, hb6⟩
          have HZ7 := Lib.hid (heap_below HZ6.out hb6)
          have HB7 := Lib.hid (below_then hb6 HB6.out (Nat.le_of_lt (Nat.lt_of_le_of_lt (Nat.le_of_lt (Nat.lt_of_succ_lt hlt4)) hzr)))
          obtain ⟨z0, z1, z2, z3, z5⟩ := box2 HZ7.out
          clear hb6 hs6 HZ6 HB6 HTO a0 a1
          go_wp2
          have hz9 : ((w6.setCell ⟨w.heap.size + 1, 0, none⟩ (.int .i64 0)).setCell ⟨w.heap.size + 1, 1, none⟩ (.int .i64 0)).heap[w.heap.size + 1]? = some (.cells #[.int .i64 0, .int .i64 0] 32 (0, 0)) := heap_set (heap_set HZ7.out 0 _) 1 _
          obtain ⟨r0, r1, -, -, -⟩ := box2 hz9
          refine bodyPost_ret (v := .tuple #[.agg #[.int .i64 0, .int .i64 0], .int .i64 1]) (by simp [results, Tryz.results13, go_sem, r0, r1]) rfl ⟨by rw [HER.out], ?_⟩
          exact (HB7.out.setCell (p := ⟨w.heap.size + 1, 0, none⟩) (by show w.heap.size ≤ w.heap.size + 1; omega) _).setCell (p := ⟨w.heap.size + 1, 1, none⟩) (by show w.heap.size ≤ w.heap.size + 1; omega) _
theorem rSumOf_c (f : Fmt) (A : Option Addr) (cp : Nat) (FA : Nat → Option Addr) (FC : Nat → Nat) (L : Option Addr) (LC : Nat) (rs : List RowP) (RA : Nat → Option Addr) (RC : Nat → Nat) (tag name : ByteArray) (w : World) (ho : Kinds w A f.kinds FA FC) (hl : RowsM w L rs RA RC) (hcp : f.kinds.length ≤ cp) (hm : 0 ≤ f.mark ∧ f.mark ≤ 255) (hq : 0 ≤ f.quote ∧ f.quote ≤ 255) (ht : Tab w) :
    Calls Tryz.prog 13 #[fmtG f A cp, .slice L rs.length LC, .string tag, .string name] w (RetD (sumOfR f rs tag name) w) := by
  by_cases hx : (colAtF f rs tag name).2.2 = 0
  · exact rSumOf_ok f A cp FA FC L LC rs RA RC tag name w ho hl hcp hm hq ht hx
  · exact rSumOf_bad f A cp FA FC L LC rs RA RC tag name w ho hl hcp hm hq ht hx
set_option maxHeartbeats 1000000 in
set_option maxRecDepth 100000 in
theorem eqstrs_q (L : List ByteArray) (A B : Option Addr) (c d : Nat) (w : World) (ha : Svs w A L) (hb : Svs w B L) (hm : L.length ≤ 9223372036854775807) :
    Calls Tryz.prog 11 #[.slice A L.length c, .slice B L.length d] w fun e w' => e = .returned (.bool true) ∧ ∃ q, w' = w.drewN q := by
  have HA := Lib.hid ha; have HB := Lib.hid hb
  obtain ⟨n, hnn⟩ : ∃ x, L.length = x := ⟨_, rfl⟩
  have HN := Lib.hid hnn
  rw [hnn] at hm ⊢
  clear ha hb hnn
  go_enter Tryz.func11, Tryz.ntmps11
  go_wp2
  go_loopw [13] (fun y wx => ∃ j : Nat, j ≤ n ∧ y = .int .i64 j ∧ ∃ q, wx = w.drewN q) (fun y _ => n - (intOf y).toNat)
  case atStart => exact ⟨0, Nat.zero_le _, rfl, 0, rfl⟩
  case round =>
    obtain ⟨j, hj, rfl, q, rfl⟩ := hrel
    rcases Nat.lt_or_ge j n with hlt | hge
    · obtain ⟨a, oa, rfl, -, ca⟩ := HA.out (by rw [HN.out]; omega)
      obtain ⟨b, ob, rfl, -, cb⟩ := HB.out (by rw [HN.out]; omega)
      have a0 := ca j (by rw [HN.out]; exact hlt)
      have b0 := cb j (by rw [HN.out]; exact hlt)
      obtain ⟨s, hs⟩ : ∃ x, wd L j = x := ⟨_, rfl⟩
      rw [hs] at a0 b0
      clear ca cb hs
      go_wp2_with fail
      go_quiet (fail)
      have e : (w.drewN q).drewN nq = w.drewN (q + nq) := World.drewN_drewN _ _ _
      rw [e]
      go_wp2
      go_roundw
      case rel => exact ⟨j + 1, by omega, by go_num, q + nq, rfl⟩
      case measure => simp [intOf]; omega
    · obtain rfl : j = n := by omega
      go_wp2
      go_ret
      exact ⟨rfl, q, rfl⟩
theorem eqstrs_c (L : List ByteArray) (A B : Option Addr) (c d : Nat) (w : World) (ha : Svs w A L) (hb : Svs w B L) (hm : L.length ≤ 9223372036854775807) :
    Calls Tryz.prog 11 #[.slice A L.length c, .slice B L.length d] w fun e w' => e = .returned (.bool true) ∧ Below w.heap.size w w' :=
  (eqstrs_q L A B c d w ha hb hm).mono fun _ _ ⟨he, q, hq⟩ => ⟨he, by subst hq; exact below_drewN (Below.refl _ _) _⟩
set_option maxHeartbeats 4000000 in
set_option maxRecDepth 100000 in
theorem law_cols (f : Fmt) (A : Option Addr) (cp : Nat) (FA : Nat → Option Addr) (FC : Nat → Nat) (L : Option Addr) (LC : Nat) (rs : List RowP) (RA : Nat → Option Addr) (RC : Nat → Nat) (tag name : ByteArray) (m0 : Int) (w : World) (ho : Kinds w A f.kinds FA FC) (hl : RowsM w L rs RA RC) (hcp : f.kinds.length ≤ cp) (hm : 0 ≤ f.mark ∧ f.mark ≤ 255) (hq : 0 ≤ f.quote ∧ f.quote ≤ 255) (ht : Tab w) (hm0 : w.cell? ⟨0, 0, none⟩ = some (.int .i64 m0)) :
    Calls Tryz.prog 3 #[fmtG f A cp, .slice L rs.length LC, .string tag, .string name] w fun e w' => e = .returned (.bool true) ∧ Below w.heap.size w w' := by
  have HC1 := Lib.hid (fun w h h2 ht => Column6_c f A cp FA FC L LC rs RA RC tag name w h h2 hcp hm hq ht)
  have HC2 := Lib.hid (fun w h h2 ht => rColumn6_c f A cp FA FC L LC rs RA RC tag name w h h2 hcp hm hq ht)
  have HS1 := Lib.hid (fun w h h2 ht => SumOf_c f A cp FA FC L LC rs RA RC tag name w h h2 hcp hm hq ht)
  have HS2 := Lib.hid (fun w h h2 ht => rSumOf_c f A cp FA FC L LC rs RA RC tag name w h h2 hcp hm hq ht)
  have HK := Lib.hid ho; have HRM := Lib.hid hl; have HT := Lib.hid ht; have HM := Lib.hid hm0
  obtain ⟨⟨VL, e⟩, hX⟩ : ∃ x, columnR f rs tag name = x := ⟨_, rfl⟩
  obtain ⟨⟨u, p, g⟩, hS⟩ : ∃ x, sumOfR f rs tag name = x := ⟨_, rfl⟩
  have HEQ := Lib.hid (fun (A B : Option Addr) (c d : Nat) (w : World) => eqstrs_c VL A B c d w)
  rw [hX] at HC1 HC2
  rw [hS] at HS1 HS2
  unfold RetCol at HC1 HC2
  unfold RetD at HS1 HS2
  simp only at HC1 HC2 HS1 HS2
  clear hX hS ho hl ht hm0
  obtain ⟨m, q, ks, hd, tl, ct, sm⟩ := f
  unfold fmtG at HC1 HC2 HS1 HS2 ⊢
  simp only at HC1 HC2 HS1 HS2 HK hcp ⊢
  obtain ⟨nk, hnk⟩ : ∃ x, ks.length = x := ⟨_, rfl⟩
  obtain ⟨nr, hnr⟩ : ∃ x, rs.length = x := ⟨_, rfl⟩
  obtain ⟨nv, hnv⟩ : ∃ x, VL.length = x := ⟨_, rfl⟩
  rw [hnk] at HC1 HC2 HS1 HS2 hcp ⊢
  rw [hnr] at HC1 HC2 HS1 HS2 ⊢
  rw [hnv] at HC1 HC2 HEQ
  clear hnk hnr hnv
  have HP := Lib.hid (heap_new w (.cells #[.int .u8 m, .int .u8 q, .slice A nk cp, .string hd, .string tl, .string ct, .string sm] 24) rfl)
  have HB1 : Hid (Below w.heap.size w (w.alloc (.cells #[.int .u8 m, .int .u8 q, .slice A nk cp, .string hd, .string tl, .string ct, .string sm] 24))) := Lib.hid (by go_grown)
  go_enter Tryz.func3, Tryz.ntmps3
  go_upto_region 1 with fail
  generalize w.alloc (.cells #[.int .u8 m, .int .u8 q, .slice A nk cp, .string hd, .string tl, .string ct, .string sm] 24) = w1 at HP HB1 ⊢
  obtain ⟨⟨f0, f1, f2, f3, f4, f5, f6⟩, f7⟩ := obox7 HP.out
  go_wp2_with fail
  refine (HC1.out _ (HK.out.below HB1.out) (HRM.out.below HB1.out) (HT.out.below HB1.out)).mono ?_
  rintro _ w2 ⟨XA, xc, rfl, hsx, hxc, hxb, hb2⟩
  have HP2 := Lib.hid (heap_below HP.out hb2); have HB2 := Lib.hid (below_then hb2 HB1.out HB1.out.size)
  have HX2 := Lib.hid hsx
  clear f0 f1 f2 f3 f4 f5 f6 f7 HP HB1 hb2 hsx
  obtain ⟨⟨f0, f1, f2, f3, f4, f5, f6⟩, f7⟩ := obox7 HP2.out
  go_wp2_with fail
  refine (HC2.out _ (HK.out.below HB2.out) (HRM.out.below HB2.out) (HT.out.below HB2.out)).mono ?_
  rintro _ w3 ⟨YA, yc, rfl, hsy, hyc, hyb, hb3⟩
  have HP3 := Lib.hid (heap_below HP2.out hb3); have HB3 := Lib.hid (below_then hb3 HB2.out HB2.out.size)
  have HX3 := Lib.hid (HX2.out.below hb3); have HY3 := Lib.hid hsy
  clear f0 f1 f2 f3 f4 f5 f6 f7 HP2 HB2 hb3 hsy HX2
  have hX2 : (e != e) = false := by simp
  go_wp2_with fail
  refine (HEQ.out XA YA xc yc _ HX3.out HY3.out (Nat.le_trans hxc hxb)).mono ?_
  rintro _ w4 ⟨rfl, hb4⟩
  have HP4 := Lib.hid (heap_below HP3.out hb4); have HB4 := Lib.hid (below_then hb4 HB3.out HB3.out.size)
  clear HP3 HB3 hb4 HX3 HY3 HEQ hxc hxb hyc hyb
  obtain ⟨⟨f0, f1, f2, f3, f4, f5, f6⟩, f7⟩ := obox7 HP4.out
  go_wp2_with fail
  refine (HS1.out _ (HK.out.below HB4.out) (HRM.out.below HB4.out) (HT.out.below HB4.out)).mono ?_
  rintro _ w5 ⟨rfl, hb5⟩
  have HP5 := Lib.hid (heap_old (heap_below HP4.out hb5) (.cells #[.int .i64 u, .int .i64 p] 32))
  have HD5 := Lib.hid (heap_new w5 (.cells #[.int .i64 u, .int .i64 p] 32) rfl)
  have hB5 := below_then hb5 HB4.out HB4.out.size
  have HB5 : Hid (Below w.heap.size w (w5.alloc (.cells #[.int .i64 u, .int .i64 p] 32))) := Lib.hid (hB5.alloc hB5.size _)
  clear f0 f1 f2 f3 f4 f5 f6 f7 HP4 HB4 hb5 hB5
  go_upto_region 6 with fail
  obtain ⟨D1, hD1⟩ : ∃ x, w5.heap.size = x := ⟨_, rfl⟩
  rw [hD1] at HD5
  try rw [hD1]
  generalize w5.alloc (.cells #[.int .i64 u, .int .i64 p] 32) = w6 at HP5 HD5 HB5 ⊢
  clear hD1
  obtain ⟨⟨f0, f1, f2, f3, f4, f5, f6⟩, f7⟩ := obox7 HP5.out
  go_wp2_with fail
  refine (HS2.out _ (HK.out.below HB5.out) (HRM.out.below HB5.out) (HT.out.below HB5.out)).mono ?_
  rintro _ w7 ⟨rfl, hb7⟩
  have HD7 := Lib.hid (heap_old (heap_below HD5.out hb7) (.cells #[.int .i64 u, .int .i64 p] 32))
  have HE7 := Lib.hid (heap_new w7 (.cells #[.int .i64 u, .int .i64 p] 32) rfl)
  have hB7 := below_then hb7 HB5.out HB5.out.size
  have HB7 : Hid (Below w.heap.size w (w7.alloc (.cells #[.int .i64 u, .int .i64 p] 32))) := Lib.hid (hB7.alloc hB7.size _)
  clear f0 f1 f2 f3 f4 f5 f6 f7 HP5 HB5 hb7 hB7 HD5
  go_upto_region 7 with fail
  obtain ⟨D2, hD2⟩ : ∃ x, w7.heap.size = x := ⟨_, rfl⟩
  rw [hD2] at HE7
  try rw [hD2]
  generalize w7.alloc (.cells #[.int .i64 u, .int .i64 p] 32) = w8 at HD7 HE7 HB7 ⊢
  clear hD2
  obtain ⟨d0, d1, -, -, d2⟩ := box2 HD7.out
  obtain ⟨e0, e1, -, -, e2⟩ := box2 HE7.out
  have HM8 := Lib.hid ((HB7.out.cell (p := ⟨0, 0, none⟩) (World.block_lt_of_cell? _ _ HM.out)).trans HM.out)
  have hX3 : (g == g) = true := by simp
  have hQ1 := fun w => eql_dec u p u p w
  have hQ2 := grd_dec
  have hQ3 : decide ((u, p) = (u, p)) = true := decide_eq_true rfl
  go_wp2_with fail
  refine (awake6_c m0 w8 HM8.out).mono ?_
  rintro _ w9 ⟨rfl, hb9⟩
  have hB9 := below_then hb9 HB7.out HB7.out.size
  go_wp2
  go_ret
  exact ⟨rfl, hB9⟩
theorem law_cols_i (f : Fmt) (A : Option Addr) (cp : Nat) (FA : Nat → Option Addr) (FC : Nat → Nat) (L : Option Addr) (LC : Nat) (rs : List RowP) (RA : Nat → Option Addr) (RC : Nat → Nat) (tag name : ByteArray) (w : World) (ho : Kinds w A f.kinds FA FC) (hl : RowsM w L rs RA RC) (hcp : f.kinds.length ≤ cp) (hm : 0 ≤ f.mark ∧ f.mark ≤ 255) (hq : 0 ≤ f.quote ∧ f.quote ≤ 255) (ht : Tab w) (hm0 : ∃ m, w.cell? ⟨0, 0, none⟩ = some (.int .i64 m)) :
    Calls Tryz.prog 3 #[fmtG f A cp, .slice L rs.length LC, .string tag, .string name] w fun e w' => e = .returned (.bool true) ∧ Below w.heap.size w w' := by
  obtain ⟨m0, h⟩ := hm0
  exact law_cols f A cp FA FC L LC rs RA RC tag name m0 w ho hl hcp hm hq ht h
end Go.Proofs.YtnnenokgjkpkiaaGreatDoor
