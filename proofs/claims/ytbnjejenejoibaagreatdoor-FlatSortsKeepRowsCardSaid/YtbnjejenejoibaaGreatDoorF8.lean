
/- The walks of endsFault and CheckFormat. (Printed by genF8.py.) -/
import Derived.Test.YtbnjejenejoibaaGreatDoorF7
namespace Go.Proofs.YtbnjejenejoibaaGreatDoor
open Go.RowKit Limb Nmb
set_option linter.unusedVariables false
set_option linter.unusedSimpArgs false
theorem kat_cols {w : World} {A : Option Addr} {f : Fmt} {FA : Nat -> Option Addr} {FC : Nat -> Nat} (h : Kinds w A f.kinds FA FC) (t : ByteArray) : Cols w (katA f FA t) (katK f t).fields /\ (katK f t).fields.length <= katC f FC t := by
 rcases kat_cases f FA FC t with ⟨h1, h2, h3, h4⟩ | ⟨k, hk, h1, h2, h3, h4⟩
 ·rw [h2, h3, h4]
  exact ⟨⟨⟨fun c hc => by simp [kind0] at hc, by simp [kind0]⟩, fun hn => by simp [kind0] at hn⟩, by simp [kind0]⟩
 ·rw [h2, h3, h4]
  exact h.2.2 k hk
def prW (a b : ByteArray) (j : Nat) : ByteArray := if j = 0 then a else b
theorem pr_cell {w : World} {g : Nat} {a b : ByteArray} {T : TypeId} (h : w.heap[g]? = some (.cells #[.string a, .string b] T (0, 0))) {j : Nat} (hj : j < 2) : w.cell? ⟨g, j, none⟩ = some (.string (prW a b j)) := by
 match j, hj with
 | 0, _ => exact cell_of_row w g 0 _ _ _ h
 | 1, _ => exact cell_of_row w g 1 _ _ _ h
def okT (f : Fmt) (t : ByteArray) : Prop := t = ⟨#[]⟩ ∨ 0 <= katI f t
def okC (f : Fmt) (n : ByteArray) (p : Bool) : Prop := n = ⟨#[]⟩ ∨ tailF f.kinds f.tail n p = false
set_option maxHeartbeats 2000000 in
set_option maxRecDepth 100000 in
theorem endsfault_c (f : Fmt) (A : Option Addr) (c : Nat) (FA : Nat -> Option Addr) (FC : Nat -> Nat) (w0 : World) (ho : Kinds w0 A f.kinds FA FC) :
  Calls Tryz.prog 61 #[fmtG f A c] w0 (RetI (endsF f) w0) := by
 obtain ⟨m, q, ks, hd, tl, ct, sm⟩ := f
 have HKA := Lib.hid (fun t w (h : Kinds w A ks FA FC) => kindat_c ⟨m, q, ks, hd, tl, ct, sm⟩ A c FA FC t w h)
 have HCL := Lib.hid (fun t w (h : Kinds w A ks FA FC) => kat_cols (f := ⟨m, q, ks, hd, tl, ct, sm⟩) h t)
 have hn := ho.1.2
 have HO := Lib.hid ho
 unfold fmtG at HKA ⊢
 simp only at HKA hn ⊢
 obtain ⟨n, hnn⟩ : ∃ n, ks.length = n := ⟨_, rfl⟩
 rw [hnn] at HKA hn ⊢
 clear ho hnn
 go_enter Tryz.func61, Tryz.ntmps61
 have HF := Lib.hid (heap_old (heap_new w0 (.cells #[.int .u8 m, .int .u8 q, .slice A n c, .string hd, .string tl, .string ct, .string sm] 24) rfl) (.cells #[.string hd, .string tl] 9))
 have HP := Lib.hid (heap_new (w0.alloc (.cells #[.int .u8 m, .int .u8 q, .slice A n c, .string hd, .string tl, .string ct, .string sm] 24)) (.cells #[.string hd, .string tl] 9) (g := w0.heap.size + 1) (by simp))
 have hB1 : Below w0.heap.size w0 ((w0.alloc (.cells #[.int .u8 m, .int .u8 q, .slice A n c, .string hd, .string tl, .string ct, .string sm] 24)).alloc (.cells #[.string hd, .string tl] 9)) := by go_grown
 go_wp2_with fail
 generalize (w0.alloc (.cells #[.int .u8 m, .int .u8 q, .slice A n c, .string hd, .string tl, .string ct, .string sm] 24)).alloc (.cells #[.string hd, .string tl] 9) = w1 at HF HP hB1 ⊢
 go_loopw [18] (fun i wr => ∃ j : Nat, j <= 2 /\ i = .int .i64 j /\ Hid (wr.heap[w0.heap.size]? = some (.cells #[.int .u8 m, .int .u8 q, .slice A n c, .string hd, .string tl, .string ct, .string sm] 24 (0, 0))) /\ Hid (wr.heap[w0.heap.size + 1]? = some (.cells #[.string hd, .string tl] 9 (0, 0))) /\ Below w0.heap.size w0 wr /\ Hid (∀ t, t < j -> okT ⟨m, q, ks, hd, tl, ct, sm⟩ (prW hd tl t))) (fun i _ => 2 - (intOf i).toNat)
 case atStart => exact ⟨0, by decide, rfl, HF, HP, hB1, Lib.hid (fun t h => absurd h (Nat.not_lt_zero _))⟩
 case round =>
  clear HF HP hB1
  obtain ⟨j, hj, rfl, HF, HP, hB5, HJ⟩ := hrel
  obtain ⟨⟨f0, f1, f2, f3, f4, f5, f6⟩, f7⟩ := obox7 HF.out
  rcases Nat.lt_or_ge j 2 with hlt | hge
  ·have hp := pr_cell HP.out hlt
   obtain ⟨t, ht⟩ : ∃ t, prW hd tl j = t := ⟨_, rfl⟩
   have HT := Lib.hid ht
   rw [ht] at hp
   have HKT := Lib.hid (HKA.out t)
   obtain ⟨⟨tg, fs, ms, un⟩, hx⟩ : ∃ x, katK ⟨m, q, ks, hd, tl, ct, sm⟩ t = x := ⟨_, rfl⟩
   obtain ⟨XA, hXA⟩ : ∃ x, katA ⟨m, q, ks, hd, tl, ct, sm⟩ FA t = x := ⟨_, rfl⟩
   obtain ⟨XC, hXC⟩ : ∃ x, katC ⟨m, q, ks, hd, tl, ct, sm⟩ FC t = x := ⟨_, rfl⟩
   obtain ⟨I, hI⟩ : ∃ x, katI ⟨m, q, ks, hd, tl, ct, sm⟩ t = x := ⟨_, rfl⟩
   rw [hx, hXA, hXC, hI] at HKT
   unfold kindG at HKT
   simp only at HKT
   have HI := Lib.hid hI
   clear hx hXA hXC hI ht
   obtain ⟨OK, hOK⟩ : ∃ b, decide (0 <= I) = b := ⟨_, rfl⟩
   rw [hOK] at HKT
   have HOK := Lib.hid hOK
   obtain ⟨EM, hEM⟩ : ∃ b, t.toList.isEmpty = b := ⟨_, rfl⟩
   have HEM := Lib.hid hEM
   clear hOK
   go_wp2_with fail
   refine (HKT.out _ (HO.out.below hB5)).mono ?_
   rintro e w2 ⟨rfl, hb2⟩
   have HF2 := Lib.hid (heap_below HF.out hb2)
   have HP2 := Lib.hid (heap_below HP.out hb2)
   have hB2 := below_then hb2 hB5 hB5.size
   cases EM with
   | true =>
    have HJ2 := Lib.hid (show ∀ t, t < j + 1 -> okT ⟨m, q, ks, hd, tl, ct, sm⟩ (prW hd tl t) from fun x hx => by
     rcases Nat.lt_or_ge x j with h | h
     ·exact HJ.out x h
     ·obtain rfl : x = j := by omega
      rw [HT.out]
      exact .inl (by have := HEM.out; rw [emp_dec] at this; exact of_decide_eq_true this))
    go_wp2
    go_roundw
    case rel => exact ⟨j + 1, by omega, by go_num, Lib.hid (heap_old HF2.out _), Lib.hid (heap_old HP2.out _), hB2.alloc hB2.size _, HJ2⟩
    case measure => simp [intOf]; omega
   | false =>
    have hne : ¬ t = ⟨#[]⟩ := by
     have := HEM.out
     rw [emp_dec] at this
     exact of_decide_eq_false this
    cases OK with
    | true =>
     have HJ2 := Lib.hid (show ∀ t, t < j + 1 -> okT ⟨m, q, ks, hd, tl, ct, sm⟩ (prW hd tl t) from fun x hx => by
      rcases Nat.lt_or_ge x j with h | h
      ·exact HJ.out x h
      ·obtain rfl : x = j := by omega
       rw [HT.out]
       exact .inr (by rw [HI.out]; exact of_decide_eq_true HOK.out))
     clear hne
     go_wp2
     go_roundw
     case rel => exact ⟨j + 1, by omega, by go_num, Lib.hid (heap_old HF2.out _), Lib.hid (heap_old HP2.out _), hB2.alloc hB2.size _, HJ2⟩
     case measure => simp [intOf]; omega
    | false =>
     have HE := Lib.hid (show endsF ⟨m, q, ks, hd, tl, ct, sm⟩ = 5 by
      have hI : katI ⟨m, q, ks, hd, tl, ct, sm⟩ t < 0 := by
       rw [HI.out]
       have := of_decide_eq_false HOK.out
       omega
      unfold katI at hI
      have e := HT.out
      unfold prW at e
      unfold endsF
      simp only at hI ⊢
      split at e
      ·rw [e, if_pos ⟨hne, hI⟩]
      ·by_cases h1 : hd ≠ ⟨#[]⟩ /\ ixF (tagIs hd) ks < 0
       ·rw [if_pos h1]
       ·rw [if_neg h1, e, if_pos ⟨hne, hI⟩])
     clear hne
     go_wp2
     go_ret
     exact ⟨congrArg (fun v => Ending.returned (Value.int .i64 v)) HE.out.symm, hB2.alloc hB2.size _⟩
  ·obtain rfl : j = 2 := by omega
   have HH := Lib.hid (HJ.out 0 (by decide))
   have HT := Lib.hid (HJ.out 1 (by decide))
   have e1 : ¬ (hd ≠ ⟨#[]⟩ /\ ixF (tagIs hd) ks < 0) := fun h => by
    rcases HH.out with k | k
    ·exact h.1 k
    ·have k' : 0 <= ixF (tagIs hd) ks := k
     omega
   have e2 : ¬ (tl ≠ ⟨#[]⟩ /\ ixF (tagIs tl) ks < 0) := fun h => by
    rcases HT.out with k | k
    ·exact h.1 k
    ·have k' : 0 <= ixF (tagIs tl) ks := k
     omega
   have E1 := Lib.hid e1; have E2 := Lib.hid e2
   clear e1 e2 HJ HP hj hge
   by_cases h1 : hd = tl /\ hd ≠ ⟨#[]⟩
   ·have HE := Lib.hid (show endsF ⟨m, q, ks, hd, tl, ct, sm⟩ = 12 by
     unfold endsF
     simp only
     rw [if_neg E1.out, if_neg E2.out, if_pos h1])
    obtain ⟨h1, h2⟩ := h1
    subst h1
    have g1 : (hd.toList == hd.toList) = true := by simp
    have g2 : hd.toList.isEmpty = false := by rw [emp_dec, decide_eq_false h2]
    clear h2
    go_wp2
    go_ret
    exact ⟨congrArg (fun v => Ending.returned (Value.int .i64 v)) HE.out.symm, hB5⟩
   have E3 := Lib.hid h1
   go_upto_region 8 with fail
   go_cut [44] (fun v wx => v = .bool false /\ wr = wx)
   case first =>
    by_cases h2 : hd = tl
    ·have g1 : (hd.toList == tl.toList) = true := by rw [h2]; simp
     have g2 : hd.toList.isEmpty = true := by rw [emp_dec, decide_eq_true (Classical.byContradiction fun e => h1 ⟨h2, e⟩)]
     clear h1 h2
     go_wp2_with fail
     go_meet
     exact ⟨rfl, rfl⟩
    ·have g1 : (hd.toList == tl.toList) = false := by rw [bytes_dec, decide_eq_false h2]
     clear h1 h2
     go_wp2_with fail
     go_meet
     exact ⟨rfl, rfl⟩
   case rest =>
   obtain ⟨rfl, rfl⟩ := hcut
   clear h1
   by_cases h4 : tl = ⟨#[]⟩ /\ (ct ≠ ⟨#[]⟩ ∨ sm ≠ ⟨#[]⟩)
   ·have HE := Lib.hid (show endsF ⟨m, q, ks, hd, tl, ct, sm⟩ = 3 by
     unfold endsF
     simp only
     rw [if_neg E1.out, if_neg E2.out, if_neg E3.out, if_pos h4])
    obtain ⟨h4, h5⟩ := h4
    have g1 : tl.toList.isEmpty = true := by rw [emp_dec, decide_eq_true h4]
    by_cases h6 : ct = ⟨#[]⟩
    ·have g2 : ct.toList.isEmpty = true := by rw [emp_dec, decide_eq_true h6]
     have g3 : sm.toList.isEmpty = false := by rw [emp_dec, decide_eq_false (h5.resolve_left (fun e => e h6))]
     clear h4 h5 h6
     go_wp2
     go_ret
     exact ⟨congrArg (fun v => Ending.returned (Value.int .i64 v)) HE.out.symm, hB5⟩
    ·have g2 : ct.toList.isEmpty = false := by rw [emp_dec, decide_eq_false h6]
     clear h4 h5 h6
     go_wp2
     go_ret
     exact ⟨congrArg (fun v => Ending.returned (Value.int .i64 v)) HE.out.symm, hB5⟩
   have E4 := Lib.hid h4
   go_upto_region 10 with fail
   go_cut [57] (fun v wy => v = .bool false /\ wr = wy)
   case first =>
    by_cases h2 : tl = ⟨#[]⟩
    ·have g1 : tl.toList.isEmpty = true := by rw [emp_dec, decide_eq_true h2]
     have g2 : ct.toList.isEmpty = true := by rw [emp_dec, decide_eq_true (Classical.byContradiction fun e => h4 ⟨h2, .inl e⟩)]
     have g3 : sm.toList.isEmpty = true := by rw [emp_dec, decide_eq_true (Classical.byContradiction fun e => h4 ⟨h2, .inr e⟩)]
     clear h4 h2
     go_wp2_with fail
     go_meet
     exact ⟨rfl, rfl⟩
    ·have g1 : tl.toList.isEmpty = false := by rw [emp_dec, decide_eq_false h2]
     clear h4 h2
     go_wp2_with fail
     go_meet
     exact ⟨rfl, rfl⟩
   case rest =>
   obtain ⟨rfl, rfl⟩ := hcut
   clear h4
   have HKT := Lib.hid (HKA.out tl)
   have HCT := Lib.hid (HCL.out tl)
   obtain ⟨⟨tg, fs, ms, un⟩, hx⟩ : ∃ x, katK ⟨m, q, ks, hd, tl, ct, sm⟩ tl = x := ⟨_, rfl⟩
   obtain ⟨XA, hXA⟩ : ∃ x, katA ⟨m, q, ks, hd, tl, ct, sm⟩ FA tl = x := ⟨_, rfl⟩
   obtain ⟨XC, hXC⟩ : ∃ x, katC ⟨m, q, ks, hd, tl, ct, sm⟩ FC tl = x := ⟨_, rfl⟩
   obtain ⟨I, hI⟩ : ∃ x, decide (0 <= katI ⟨m, q, ks, hd, tl, ct, sm⟩ tl) = x := ⟨_, rfl⟩
   rw [hx, hXA, hXC, hI] at HKT
   rw [hx, hXA, hXC] at HCT
   have HX := Lib.hid (show kndF ks tl = ⟨tg, fs, ms, un⟩ from hx)
   unfold kindG at HKT
   simp only at HKT HCT
   have HCA := Lib.hid (fun nm w (h : Cols w XA fs) => colat_c ⟨tg, fs, ms, un⟩ XA XC nm w h)
   unfold kindG at HCA
   simp only at HCA
   obtain ⟨nf, hnff⟩ : ∃ n, fs.length = n := ⟨_, rfl⟩
   have HNF := Lib.hid hnff
   rw [hnff] at HKT HCT HCA
   have hnf := ((HCT.out wr (HO.out.below hB5)).1).1.2
   have hnc := (HCT.out wr (HO.out.below hB5)).2
   rw [hnff] at hnf
   clear hx hXA hXC hI hnff
   go_wp2_with fail
   refine (HKT.out _ (HO.out.below hB5)).mono ?_
   rintro e w2 ⟨rfl, hb2⟩
   have HF2 := Lib.hid (heap_below HF.out hb2)
   have hB2 := below_then hb2 hB5 hB5.size
   clear f0 f1 f2 f3 f4 f5 f6 f7 HF hb2
   have HF3 := Lib.hid (heap_old (heap_old HF2.out (.cells #[.string tg, .slice XA nf XC, .int .i64 ms, .string un] 46)) (.cells #[.string ct, .string sm] 9))
   have HK3 := Lib.hid (heap_old (heap_new w2 (.cells #[.string tg, .slice XA nf XC, .int .i64 ms, .string un] 46) rfl) (.cells #[.string ct, .string sm] 9))
   have HP3 := Lib.hid (heap_new (w2.alloc (.cells #[.string tg, .slice XA nf XC, .int .i64 ms, .string un] 46)) (.cells #[.string ct, .string sm] 9) (g := w2.heap.size + 1) (by simp))
   have hB3 : Below w0.heap.size w0 ((w2.alloc (.cells #[.string tg, .slice XA nf XC, .int .i64 ms, .string un] 46)).alloc (.cells #[.string ct, .string sm] 9)) := (hB2.alloc hB2.size _).alloc (by have := hB2.size; simp; omega) _
   obtain ⟨⟨f0, f1, f2, f3, f4, f5, f6⟩, f7⟩ := obox7 (heap_old HF2.out (.cells #[.string tg, .slice XA nf XC, .int .i64 ms, .string un] 46))
   go_wp2_with fail
   generalize hL : w2.heap.size = L at HK3 HP3 ⊢
   clear f0 f1 f2 f3 f4 f5 f6 f7 HF2 hB2
   generalize (w2.alloc (.cells #[.string tg, .slice XA nf XC, .int .i64 ms, .string un] 46)).alloc (.cells #[.string ct, .string sm] 9) = w3 at HF3 HK3 HP3 hB3 ⊢
   go_loopw [71] (fun i wy => ∃ j : Nat, j <= 2 /\ i = .int .i64 j /\ Hid (wy.heap[w0.heap.size]? = some (.cells #[.int .u8 m, .int .u8 q, .slice A n c, .string hd, .string tl, .string ct, .string sm] 24 (0, 0))) /\ Hid (wy.heap[L]? = some (.cells #[.string tg, .slice XA nf XC, .int .i64 ms, .string un] 46 (0, 0))) /\ Hid (wy.heap[L + 1]? = some (.cells #[.string ct, .string sm] 9 (0, 0))) /\ Below w0.heap.size w0 wy /\ Hid (∀ t, t < j -> okC ⟨m, q, ks, hd, tl, ct, sm⟩ (prW ct sm t) (decide (t = 1)))) (fun i _ => 2 - (intOf i).toNat)
   case atStart => exact ⟨0, by decide, rfl, HF3, HK3, HP3, hB3, Lib.hid (fun t h => absurd h (Nat.not_lt_zero _))⟩
   case round =>
    clear HF3 HK3 HP3 hB3 hB5
    obtain ⟨j, hj, rfl, HF, HK, HP, hB5, HJ⟩ := hrel
    obtain ⟨⟨f0, f1, f2, f3, f4, f5, f6⟩, f7⟩ := obox7 HF.out
    obtain ⟨⟨k0, k1, k2, k3⟩, -, k5⟩ := obox4 HK.out
    rcases Nat.lt_or_ge j 2 with hlt | hge
    ·have hp := pr_cell HP.out hlt
     obtain ⟨t, ht⟩ : ∃ t, prW ct sm j = t := ⟨_, rfl⟩
     have HT := Lib.hid ht
     rw [ht] at hp
     clear ht
     by_cases h1 : t = ⟨#[]⟩
     ·have g1 : t.toList.isEmpty = true := by rw [emp_dec, decide_eq_true h1]
      have HJ2 := Lib.hid (show ∀ t, t < j + 1 -> okC ⟨m, q, ks, hd, tl, ct, sm⟩ (prW ct sm t) (decide (t = 1)) from fun x hx => by
       rcases Nat.lt_or_ge x j with h | h
       ·exact HJ.out x h
       ·obtain rfl : x = j := by omega
        rw [HT.out]
        exact .inl h1)
      clear h1
      go_wp2
      go_roundw
      case rel => exact ⟨j + 1, by omega, by go_num, HF, HK, HP, hB5, HJ2⟩
      case measure => simp [intOf]; omega
     have g1 : t.toList.isEmpty = false := by rw [emp_dec, decide_eq_false h1]
     have H1 := Lib.hid h1
     clear h1
     have HCO := Lib.hid (HCT.out wr (HO.out.below hB5)).1
     have HCN := Lib.hid (HCA.out t wr HCO.out)
     have HIX := Lib.hid (ixF_spec (nameIs t) fs)
     obtain ⟨X, hX⟩ : ∃ x, ixF (nameIs t) fs = x := ⟨_, rfl⟩
     rw [hX] at HCN HIX
     have HXX := Lib.hid hX
     clear hX
     have HBAD := Lib.hid (show tailF ks tl t (decide (j = 1)) = true -> endsF ⟨m, q, ks, hd, tl, ct, sm⟩ = 5 from fun hb => by
      unfold endsF
      simp only
      rw [if_neg E1.out, if_neg E2.out, if_neg E3.out, if_neg E4.out]
      have e := HT.out
      unfold prW at e
      split at e
      ·rename_i e0
       subst e0
       subst e
       rw [if_pos ⟨H1.out, by simpa using hb⟩]
      ·have e0 : j = 1 := by omega
       subst e0
       subst e
       by_cases h9 : ct ≠ ⟨#[]⟩ /\ tailF ks tl ct false = true
       ·rw [if_pos h9]
       ·rw [if_neg h9, if_pos ⟨H1.out, by simpa using hb⟩])
     have HTF := Lib.hid (show tailF ks tl t (decide (j = 1)) = (decide (X < 0) || (decide ((cA fs X.toNat).kind ≠ 2) || !decide (j = 1) && decide ((cA fs X.toNat).places ≠ 0))) by
      unfold tailF colN
      rw [HX.out]
      simp only
      rw [HXX.out])
     go_wp2_with fail
     refine HCN.out.mono ?_
     rintro e w5 ⟨rfl, hb5⟩
     have HF6 := Lib.hid (heap_below HF.out hb5)
     have HK6 := Lib.hid (heap_below HK.out hb5)
     have HP6 := Lib.hid (heap_below HP.out hb5)
     have hB6 := below_then hb5 hB5 hB5.size
     clear f0 f1 f2 f3 f4 f5 f6 f7 k0 k1 k2 k3 k5 HF HK HP
     obtain ⟨⟨k0, k1, k2, k3⟩, -, k5⟩ := obox4 HK6.out
     rcases HIX.out with ⟨h2, -⟩ | ⟨x, hx, h2, -, -⟩
     ·subst h2
      have HE := Lib.hid (HBAD.out (by rw [HTF.out]; rfl))
      go_wp2
      go_ret
      exact ⟨congrArg (fun v => Ending.returned (Value.int .i64 v)) HE.out.symm, hB6⟩
     subst h2
     have hx0 : ¬ (x : Int) < 0 := by omega
     rw [HNF.out] at hx
     obtain ⟨bc, oc, rfl, hbc, x0, x1, x2, x3, x4, x5, x6, x7⟩ := (HCO.out.below hb5).cells (j := x) (by rw [HNF.out]; exact hx)
     rw [Int.toNat_natCast] at HTF
     obtain ⟨C, hC⟩ : ∃ C, cA fs x = C := ⟨_, rfl⟩
     rw [hC] at x1 x3 HTF
     clear x0 x2 x4 x5 x6 x7 hC
     by_cases h3 : C.kind = 2
     case neg =>
      have HE := Lib.hid (HBAD.out (by rw [HTF.out, decide_eq_true h3]; simp))
      have g3 : (C.kind != 2) = true := by simpa using h3
      clear h3
      go_wp2
      go_ret
      exact ⟨congrArg (fun v => Ending.returned (Value.int .i64 v)) HE.out.symm, hB6⟩
     have g3 : (C.kind != 2) = false := by simpa using h3
     have H3 := Lib.hid h3
     clear h3
     by_cases h4 : j = 0 /\ C.places ≠ 0
     ·have HE := Lib.hid (HBAD.out (by rw [HTF.out, decide_eq_false (show ¬ j = 1 by omega), decide_eq_true h4.2]; simp))
      obtain ⟨h4, h5⟩ := h4
      subst h4
      have g4 : (C.places != 0) = true := by simpa using h5
      clear h5
      go_wp2
      go_ret
      exact ⟨congrArg (fun v => Ending.returned (Value.int .i64 v)) HE.out.symm, hB6⟩
     have HJ2 := Lib.hid (show ∀ t, t < j + 1 -> okC ⟨m, q, ks, hd, tl, ct, sm⟩ (prW ct sm t) (decide (t = 1)) from fun y hy => by
      rcases Nat.lt_or_ge y j with h | h
      ·exact HJ.out y h
      ·obtain rfl : y = j := by omega
       rw [HT.out]
       refine .inr ?_
       show tailF ks tl t _ = false
       rw [HTF.out, decide_eq_false hx0, decide_eq_false (fun h => h H3.out)]
       by_cases h6 : y = 1
       ·rw [decide_eq_true h6]; rfl
       ·rw [decide_eq_false (show ¬ C.places ≠ 0 from fun h => h4 ⟨by omega, h⟩)]; simp)
     by_cases h5 : j = 0
     ·subst h5
      have g4 : (C.places != 0) = false := by
       have : C.places = 0 := Classical.byContradiction fun e => h4 ⟨rfl, e⟩
       simpa using this
      clear h4
      go_wp2
      go_roundw
      case rel => exact ⟨1, by omega, by go_num, HF6, HK6, HP6, hB6, HJ2⟩
      case measure => simp [intOf]
     ·have h6 : j = 1 := by omega
      subst h6
      clear h4 h5
      go_wp2
      go_roundw
      case rel => exact ⟨2, by omega, by go_num, HF6, HK6, HP6, hB6, HJ2⟩
      case measure => simp [intOf]
    ·obtain rfl : j = 2 := by omega
     have e5 : ¬ (ct ≠ ⟨#[]⟩ /\ tailF ks tl ct false = true) := fun h => by
      rcases HJ.out 0 (by decide) with k | k
      ·exact h.1 k
      ·have k' : tailF ks tl ct false = false := k
       rw [k'] at h; cases h.2
     have e6 : ¬ (sm ≠ ⟨#[]⟩ /\ tailF ks tl sm true = true) := fun h => by
      rcases HJ.out 1 (by decide) with k | k
      ·exact h.1 k
      ·have k' : tailF ks tl sm true = false := k
       rw [k'] at h; cases h.2
     have E5 := Lib.hid e5; have E6 := Lib.hid e6
     clear e5 e6
     by_cases h1 : ct = sm
     ·subst h1
      have g0 : (ct.toList == ct.toList) = true := by simp
      by_cases h2 : ct = ⟨#[]⟩
      ·have g1 : ct.toList.isEmpty = true := by rw [emp_dec, decide_eq_true h2]
       have HE := Lib.hid (show endsF ⟨m, q, ks, hd, tl, ct, ct⟩ = 0 by
        unfold endsF
        simp only
        rw [if_neg E1.out, if_neg E2.out, if_neg E3.out, if_neg E4.out, if_neg E5.out, if_neg E6.out, if_neg (fun h => h.2 h2)])
       clear h2
       go_wp2
       go_ret
       exact ⟨congrArg (fun v => Ending.returned (Value.int .i64 v)) HE.out.symm, hB5⟩
      ·have g1 : ct.toList.isEmpty = false := by rw [emp_dec, decide_eq_false h2]
       have HE := Lib.hid (show endsF ⟨m, q, ks, hd, tl, ct, ct⟩ = 12 by
        unfold endsF
        simp only
        rw [if_neg E1.out, if_neg E2.out, if_neg E3.out, if_neg E4.out, if_neg E5.out, if_neg E6.out, if_pos ⟨True.intro, h2⟩])
       clear h2
       go_wp2
       go_ret
       exact ⟨congrArg (fun v => Ending.returned (Value.int .i64 v)) HE.out.symm, hB5⟩
     ·have g0 : (ct.toList == sm.toList) = false := by rw [bytes_dec, decide_eq_false h1]
      have HE := Lib.hid (show endsF ⟨m, q, ks, hd, tl, ct, sm⟩ = 0 by
       unfold endsF
       simp only
       rw [if_neg E1.out, if_neg E2.out, if_neg E3.out, if_neg E4.out, if_neg E5.out, if_neg E6.out, if_neg (fun h => h1 h.1)])
      clear h1
      go_wp2
      go_ret
      exact ⟨congrArg (fun v => Ending.returned (Value.int .i64 v)) HE.out.symm, hB5⟩
set_option maxHeartbeats 2000000 in
set_option maxRecDepth 100000 in
theorem check_c (f : Fmt) (A : Option Addr) (c : Nat) (FA : Nat -> Option Addr) (FC : Nat -> Nat) (w0 : World) (ho : Kinds w0 A f.kinds FA FC) (hc : f.kinds.length <= c) (hm : 0 <= f.mark /\ f.mark <= 255) (hq : 0 <= f.quote /\ f.quote <= 255) :
  Calls Tryz.prog 23 #[fmtG f A c] w0 (RetI (checkF f) w0) := by
 have HM := Lib.hid (fun w => marks_c f A c w hm hq)
 have HKF := Lib.hid (fun i w (h : Kinds w A f.kinds FA FC) hi => kindfault_c f A c FA FC i w h hi hc)
 have HEF := Lib.hid (fun w (h : Kinds w A f.kinds FA FC) => endsfault_c f A c FA FC w h)
 have hn := ho.1.2
 have HO := Lib.hid ho
 obtain ⟨m, q, ks, hd, tl, ct, sm⟩ := f
 unfold fmtG at HM HKF HEF ⊢
 simp only at HM HKF HEF HO hn hc ⊢
 obtain ⟨n, hnn⟩ : ∃ n, ks.length = n := ⟨_, rfl⟩
 have HN := Lib.hid hnn
 rw [hnn] at HM HKF HEF hn hc ⊢
 obtain ⟨MF, hMF⟩ : ∃ x, marksF m q = x := ⟨_, rfl⟩
 rw [hMF] at HM
 have HMF := Lib.hid hMF
 obtain ⟨EF, hEF⟩ : ∃ x, endsF ⟨m, q, ks, hd, tl, ct, sm⟩ = x := ⟨_, rfl⟩
 rw [hEF] at HEF
 have HEE := Lib.hid hEF
 have HF := Lib.hid (heap_new w0 (.cells #[.int .u8 m, .int .u8 q, .slice A n c, .string hd, .string tl, .string ct, .string sm] 24) rfl)
 have hB1 : Below w0.heap.size w0 (w0.alloc (.cells #[.int .u8 m, .int .u8 q, .slice A n c, .string hd, .string tl, .string ct, .string sm] 24)) := by go_grown
 clear ho hnn hm hq hMF hEF
 go_enter Tryz.func23, Tryz.ntmps23
 go_wp2_with fail
 refine (HM.out _).mono ?_
 rintro e w2 ⟨rfl, hb2⟩
 have HF2 := Lib.hid (heap_below HF.out hb2)
 have hB2 := below_then hb2 hB1 hB1.size
 clear HF hb2 hB1
 obtain ⟨⟨f0, f1, f2, f3, f4, f5, f6⟩, f7⟩ := obox7 HF2.out
 by_cases h1 : MF = 0
 case neg =>
  have HE := Lib.hid (show checkF ⟨m, q, ks, hd, tl, ct, sm⟩ = MF by unfold checkF; simp only; rw [HMF.out, if_pos h1])
  have h1a : (MF != 0) = true := by simpa using h1
  clear h1
  go_wp2
  go_ret
  exact ⟨congrArg (fun v => Ending.returned (Value.int .i64 v)) HE.out.symm, hB2⟩
 subst h1
 by_cases h2 : n = 0
 ·subst h2
  have HE := Lib.hid (show checkF ⟨m, q, ks, hd, tl, ct, sm⟩ = 9 by unfold checkF; simp only; rw [HMF.out, if_neg (by decide), if_pos HN.out])
  go_wp2
  go_ret
  exact ⟨congrArg (fun v => Ending.returned (Value.int .i64 v)) HE.out.symm, hB2⟩
 have h2a : ((n : Int) == 0) = false := by
  have : ¬ (n : Int) = 0 := by omega
  simpa using this
 by_cases h3 : 30 < n
 ·have HE := Lib.hid (show checkF ⟨m, q, ks, hd, tl, ct, sm⟩ = 2 by unfold checkF; simp only; rw [HMF.out, if_neg (by decide), HN.out, if_neg h2, if_pos h3])
  have h3a : (30 : Int) < (n : Int) := by omega
  clear h2 h3
  go_wp2
  go_ret
  exact ⟨congrArg (fun v => Ending.returned (Value.int .i64 v)) HE.out.symm, hB2⟩
 have h3a : ¬ (30 : Int) < (n : Int) := by omega
 have HK := Lib.hid (show ∀ x, fstF (kindF m ks) n = x -> checkF ⟨m, q, ks, hd, tl, ct, sm⟩ = if x ≠ 0 then x else EF by
  intro x hx
  unfold checkF
  simp only
  rw [HMF.out, if_neg (by decide), HN.out, if_neg h2, if_neg h3, hx, HEE.out])
 have hn30 : n <= 30 := by omega
 clear h2 h3
 go_wp2_with fail
 go_loopw [22] (fun i wr => ∃ j : Nat, j <= n /\ i = .int .i64 j /\ Hid (wr.heap[w0.heap.size]? = some (.cells #[.int .u8 m, .int .u8 q, .slice A n c, .string hd, .string tl, .string ct, .string sm] 24 (0, 0))) /\ Below w0.heap.size w0 wr /\ Hid (∀ t, t < j -> kindF m ks t = 0)) (fun i _ => n - (intOf i).toNat)
 case atStart => exact ⟨0, Nat.zero_le _, rfl, HF2, hB2, Lib.hid (fun t h => absurd h (Nat.not_lt_zero _))⟩
 case round =>
  clear f0 f1 f2 f3 f4 f5 f6 f7 HF2
  obtain ⟨j, hj, rfl, HF, hB5, HJ⟩ := hrel
  obtain ⟨⟨f0, f1, f2, f3, f4, f5, f6⟩, f7⟩ := obox7 HF.out
  rcases Nat.lt_or_ge j n with hlt | hge
  ·have HKJ := Lib.hid (HKF.out j wr (HO.out.below hB5) hlt)
   obtain ⟨X, hX⟩ : ∃ x, kindF m ks j = x := ⟨_, rfl⟩
   rw [hX] at HKJ
   have HX := Lib.hid hX
   clear hX
   go_wp2_with fail
   refine HKJ.out.mono ?_
   rintro e w3 ⟨rfl, hb3⟩
   have HF3 := Lib.hid (heap_below HF.out hb3)
   have hB3 := below_then hb3 hB5 hB5.size
   by_cases h1 : X = 0
   ·subst h1
    have HJ2 := Lib.hid (show ∀ t, t < j + 1 -> kindF m ks t = 0 from fun t ht => by
     rcases Nat.lt_or_ge t j with h | h
     ·exact HJ.out t h
     ·obtain rfl : t = j := by omega
      exact HX.out)
    go_wp2
    go_roundw
    case rel => exact ⟨j + 1, by omega, by go_num, HF3, hB3, HJ2⟩
    case measure => simp [intOf]; omega
   ·have HE := Lib.hid (show checkF ⟨m, q, ks, hd, tl, ct, sm⟩ = X by
     rw [HK.out X (by rw [fstF_hit hlt HJ.out (by rw [HX.out]; exact h1), HX.out]), if_pos h1])
    have h1a : (X != 0) = true := by simpa using h1
    clear h1
    go_wp2
    go_ret
    exact ⟨congrArg (fun v => Ending.returned (Value.int .i64 v)) HE.out.symm, hB3⟩
  ·obtain rfl : j = n := by omega
   have HE := Lib.hid (show checkF ⟨m, q, ks, hd, tl, ct, sm⟩ = EF by
    rw [HK.out 0 (fstF_no HJ.out), if_neg (by decide)])
   have HEJ := Lib.hid (HEF.out wr (HO.out.below hB5))
   go_wp2_with fail
   refine HEJ.out.mono ?_
   rintro e w3 ⟨rfl, hb3⟩
   have hB3 := below_then hb3 hB5 hB5.size
   go_wp2
   go_ret
   exact ⟨congrArg (fun v => Ending.returned (Value.int .i64 v)) HE.out.symm, hB3⟩
end Go.Proofs.YtbnjejenejoibaaGreatDoor
