
/- The walk of the format reader's line. -/
import Derived.Test.YtbnjejenejoibaaGreatDoorFC
import Derived.Deep.AppendLies
import Derived.Deep.RegionLaw
import Derived.Test.YtbnjejenejoibaaGreatDoorZ4
import Derived.Test.YtbnjejenejoibaaGreatDoorRH
namespace Go.Proofs.YtbnjejenejoibaaGreatDoor
open Go.RowKit Limb Nmb Work
set_option linter.unusedVariables false
set_option linter.unusedSimpArgs false
theorem drop_tail {L : List ByteArray} (k : Nat) : (L.drop k).tail = L.drop (k + 1) := by rw [List.tail_drop]
theorem wd_drop {L : List ByteArray} (k j : Nat) : wd (L.drop k) j = wd L (k + j) := by unfold wd; simp [List.getD_eq_getElem?_getD]
theorem Kw.alloc {w w' : World} (h : Kw w w') (o : Obj) : Kw w (w'.alloc o) := ⟨by have := h.1; simp; omega, fun k cs T f hh hT => heap_old (h.2 k cs T f hh hT) o⟩
theorem Wds.alloc {w : World} {b : Nat} {L : List ByteArray} {bad : Bool} (h : Wds w b L bad) (o : Obj) : Wds (w.alloc o) b L bad := h.below ((Below.refl _ _).alloc (Nat.le_refl _) o)
theorem bad_next {L : List ByteArray} {k : Nat} : ((L.drop k).isEmpty = false) ↔ k < L.length := by
 rw [List.isEmpty_eq_false_iff_exists_mem]
 constructor
 ·rintro ⟨x, hx⟩
  have := List.length_pos_of_mem hx
  rw [List.length_drop] at this
  omega
 ·intro h
  exact ⟨(L.drop k)[0]'(by rw [List.length_drop]; omega), List.getElem_mem _⟩
def RetFL (O : Option FSt) (B r S N : Nat) (w : World) (e : Ending) (w' : World) : Prop :=
 e = .returned (.bool O.isSome) /\ (∀ st', O = some st' -> FR w' B r S N st') /\ Below B w w' /\ Ks w w'
theorem RetFL.no {O : Option FSt} {B r S N : Nat} {w w' : World} (h : O = none) (hb : Below B w w') (hk : Ks w w') : RetFL O B r S N w (.returned (.bool false)) w' :=
 ⟨by rw [h]; rfl, (fun st' e => by rw [h] at e; cases e), hb, hk⟩
theorem RetFL.mk {O : Option FSt} {B r S N : Nat} {w w' : World} {ok bad v : Bool} {L : List ByteArray} (hy : ∀ st', O = some st' -> ok = true /\ L = [] /\ bad = false /\ FR w' B r S N st') (hn : O = none -> ¬ (ok = true /\ L = [] /\ bad = false))
  (hb : Below B w w') (hk : Ks w w') (hv : v = (ok && !bad && decide (L.length = 0))) : RetFL O B r S N w (.returned (.bool v)) w' := by
 refine ⟨?_, fun st' e => (hy st' e).2.2.2, hb, hk⟩
 subst hv
 cases hO : O with
 | none =>
  have := hn hO
  have e : (ok && !bad && decide (L.length = 0)) = false := by
   rw [Bool.eq_false_iff]
   intro h
   simp only [Bool.and_eq_true, Bool.not_eq_true', decide_eq_true_eq] at h
   exact this ⟨h.1.1, List.length_eq_zero_iff.1 h.2, h.1.2⟩
  rw [e]; rfl
 | some st' =>
  obtain ⟨h1, h2, h3, -⟩ := hy st' hO
  rw [h1, h2, h3]; rfl
theorem idx_kind (h : ByteArray) : Lib.idxOfS [eS, wText, wNumber, wDay] h = if h = eS then 0 else if kindW h ≠ 0 then kindW h else -1 := by
 unfold Lib.idxOfS
 simp only [Lib.idxFromS]
 unfold kindW
 by_cases h0 : h = eS
 ·subst h0; simp
 by_cases h1 : h = wText
 ·subst h1; decide
 by_cases h2 : h = wNumber
 ·subst h2; decide
 by_cases h3 : h = wDay
 ·subst h3; decide
 simp [h0, h1, h2, h3, Ne.symm h0, Ne.symm h1, Ne.symm h2, Ne.symm h3]
set_option maxHeartbeats 1000000 in
set_option maxRecDepth 100000 in
theorem kindwords_c (w : World) : Calls Tryz.prog 98 #[] w fun e w' => e = .returned (.slice (some ⟨w.heap.size, 0, none⟩) 4 4) /\ w' = w.alloc (.cells #[.string ⟨#[]⟩, .string ⟨#[116, 101, 120, 116]⟩, .string ⟨#[110, 117, 109, 98, 101, 114]⟩, .string ⟨#[100, 97, 121]⟩] 9) := by
 go_enter Tryz.func98, Tryz.ntmps98
 go_wp2
 go_ret
 exact ⟨rfl, rfl⟩
theorem kindwords_b (w : World) : Calls Tryz.prog 98 #[] w fun e w' => ∃ g, e = .returned (.slice (some ⟨g, 0, none⟩) 4 4) /\ w'.heap[g]? = some (.cells #[.string ⟨#[]⟩, .string ⟨#[116, 101, 120, 116]⟩, .string ⟨#[110, 117, 109, 98, 101, 114]⟩, .string ⟨#[100, 97, 121]⟩] 9 (0, 0)) /\ Below w.heap.size w w' := by
 refine (kindwords_c w).mono ?_
 rintro e w' ⟨rfl, rfl⟩
 exact ⟨_, rfl, heap_new _ _ rfl, (Below.refl _ _).alloc (Nat.le_refl _) _⟩
theorem kwidx_c (g : Nat) (h : ByteArray) (w : World) (hh : w.heap[g]? = some (.cells #[.string ⟨#[]⟩, .string ⟨#[116, 101, 120, 116]⟩, .string ⟨#[110, 117, 109, 98, 101, 114]⟩, .string ⟨#[100, 97, 121]⟩] 9 (0, 0))) :
  Calls Tryz.prog 97 #[.slice (some ⟨g, 0, none⟩) 4 4, .string h] w fun e w' => e = .returned (.int .i64 (Lib.idxOfS [eS, wText, wNumber, wDay] h)) /\ w' = w :=
 Tryz.slices_Index_string g 0 4 4 [eS, wText, wNumber, wDay] h w (by decide) (by decide) (fun j hj => by
  rw [cell_of_row _ _ _ _ _ _ hh]
  match j, hj with
  | 0, _ => rfl
  | 1, _ => rfl
  | 2, _ => rfl
  | 3, _ => rfl)
set_option maxHeartbeats 4000000 in
set_option maxRecDepth 100000 in
theorem line_c (B r S N : Nat) (m0 : Int) (st : FSt) (s : ByteArray) (w : World) (hNN : N <= 1000000) (hS : S < 4294967281) (hs : s.size <= S) (hm0 : w.cell? ⟨0, 0, none⟩ = some (.int .i64 m0)) (hf : FR w B r S N st) (hnk : kindW (wd (wrdS s) 0) = 0) :
  Calls Tryz.prog 58 #[.pointer (some ⟨r, 0, none⟩), .string s] w (RetFL (lineF st s) B r S (N + 1) w) := by
 obtain ⟨O, hO⟩ : ∃ o, lineF st s = o := ⟨_, rfl⟩
 rw [hO]
 have HO := Lib.hid hO
 have HWC := Lib.hid (words_c s m0 w (by omega) hm0)
 have hf0 := hf
 have HF0 := Lib.hid hf0
 obtain ⟨hBr, hok, A, c, FA, FC, hh, hK⟩ := hf
 have hBw : B <= w.heap.size := by have := lt_heap hh; omega
 obtain ⟨⟨m, q, ks, hd, tl, ct, sm⟩, bg, en⟩ := st
 unfold frC at hh
 simp only at hh hK hok
 have hwl := wrd_len s
 have hwz := wrd_sz s
 have HKZ := Lib.hid hnk
 obtain ⟨W, hW⟩ : ∃ x, wrdS s = x := ⟨_, rfl⟩
 have HWW := Lib.hid hW
 rw [hW] at hwl hwz HKZ
 clear hnk
 obtain ⟨nw, hnw⟩ : ∃ x, W.length = x := ⟨_, rfl⟩
 have HNW := Lib.hid hnw
 rw [hnw] at hwl
 obtain ⟨nk, hnk⟩ : ∃ x, ks.length = x := ⟨_, rfl⟩
 have HNK := Lib.hid hnk
 rw [hnk] at hh
 have HZ := Lib.hid (fun x hx => Nat.le_trans (hwz x hx) hs)
 have HOK := Lib.hid hok; have HK := Lib.hid hK; have HH := Lib.hid hh
 clear hO hm0 hf0 hok hK hh hW hnw hnk hwz
 go_enter Tryz.func58, Tryz.ntmps58
 go_wp2_with fail
 refine HWC.out.mono ?_
 rintro e w1 ⟨hr, hb1⟩
 have HH1 := Lib.hid (heap_below HH.out hb1)
 have hB1 : Below B w w1 := hb1.mono hBw
 have HKs1 := Lib.hid (Ks.of (Kw.of hb1))
 have HKw1 := Lib.hid (Kw.of hb1)
 rw [HWW.out] at hr
 by_cases hE : W.any (fun x => decide (x = eS)) = true
 ·rw [if_pos hE] at hr
  subst hr
  have HOn := Lib.hid (show O = none by rw [<- HO.out]; unfold lineF; rw [HWW.out, if_pos (.inl hE)])
  clear hE
  go_wp2
  go_ret
  exact RetFL.no HOn.out hB1 HKs1.out
 rw [if_neg hE] at hr
 obtain ⟨rfl, hX⟩ := hr
 rw [HNW.out]
 have HX := Lib.hid hX
 clear hX hb1
 obtain ⟨⟨⟨g0, g1, g2, g3, g4, g5, g6, g7, g8⟩, z0, z1, z2, z3, z4, z5, z6, z7, z8⟩, hlt⟩ := obox9 HH1.out
 by_cases hen : en = true
 ·have HOn := Lib.hid (show O = none by rw [<- HO.out]; unfold lineF; rw [HWW.out, if_pos (.inr hen)])
  subst hen
  clear hE
  go_wp2
  go_ret
  exact RetFL.no HOn.out hB1 HKs1.out
 have hen : en = false := by simpa using hen
 subst hen
 have HOW := Lib.hid (show O = wordsF ⟨⟨m, q, ks, hd, tl, ct, sm⟩, bg, false⟩ (wd W 0) W.tail by
  rw [<- HO.out]
  unfold lineF
  rw [HWW.out, if_neg (fun h => h.elim hE (fun h => by cases h))])
 clear hE
 have HKK := Lib.hid (HK.out.keep (fun g cs hh => HKw1.out.2 _ _ _ _ hh (by decide)) (fun g cs hh => HKw1.out.2 _ _ _ _ hh (by decide)))
 have hWz : w.heap.size < w1.heap.size := lt_heap HX.out
 go_upto_region 4 with fail
 go_cut [7] (fun v wx => ∃ b, v = .pointer (some ⟨b, 0, none⟩) /\ w1.heap.size <= b /\ Hid (Wds wx b W.tail false) /\ Below w1.heap.size w1 wx)
 case first =>
  have hl : W.tail.length = nw - 1 := by rw [List.length_tail, HNW.out]
  have HL := Lib.hid hl
  have hnz : nw <= 9223372036854775807 := by
   have h1 : (wrdS s).length = (pcs 32 s.data.toList).length := by unfold wrdS; rw [List.length_map]
   rw [HWW.out, HNW.out, pcs_len] at h1
   have h2 := List.count_le_length (a := (32 : UInt8)) (l := s.data.toList)
   have h3 : s.data.toList.length = s.size := by simp
   omega
  clear hl
  by_cases h1 : nw = 1
  ·subst h1
   go_wp2_with fail
   go_meet
   refine ⟨w1.heap.size, rfl, Nat.le_refl _, Lib.hid ⟨some ⟨w.heap.size, 0, none⟩, 0, ?_, by rw [HL.out]; exact Nat.le_refl 0, by omega, fun hn => absurd hn (by rw [HL.out]; omega)⟩, (Below.refl _ _).alloc (Nat.le_refl _) _⟩
   rw [HL.out]
   exact heap_new _ _ rfl
  ·have i1 : (1 : Int) <= (nw : Int) := by omega
   have i2 : 1 <= nw := by omega
   have hne1 : ¬ nw = 1 := h1
   go_wp2_with fail
   go_meet
   refine ⟨w1.heap.size, rfl, Nat.le_refl _, Lib.hid ⟨some ⟨w.heap.size, 1, none⟩, nw - 1, ?_, by rw [HL.out]; exact Nat.le_refl _, by omega, ?_⟩, (Below.refl _ _).alloc (Nat.le_refl _) _⟩
   ·rw [HL.out]
    exact heap_new _ _ rfl
   ·have hsn := sts_new HX.out
    cases hWc : W with
    | nil => rw [<- HNW.out, hWc] at i2; simp at i2
    | cons a W' =>
     rw [hWc] at hsn
     exact (sts_tail hsn).below ((Below.refl _ _).alloc (Nat.le_refl _) _)
 case rest =>
 obtain ⟨b, rfl, hbb, HW, hb2⟩ := hcut
 clear g0 g1 g2 g3 g4 g5 g6 g7 g8 z0 z1 z2 z3 z4 z5 z6 z7 z8 hlt
 have HH2 := Lib.hid (heap_below HH1.out hb2)
 have HX2 := Lib.hid (heap_below HX.out hb2)
 have HKK2 := Lib.hid (HKK.out.keep (fun g cs hh => heap_below hh hb2) (fun g cs hh => heap_below hh hb2))
 have hB2 := hB1.trans (hb2.mono (by have := hB1.size; omega))
 have HKs2 := Lib.hid (HKs1.out.trans (Ks.of (Kw.of hb2)))
 have hBb : B <= b := by have := hB1.size; omega
 generalize wc = w2 at HW hb2 HH2 HX2 HKK2 hB2 HKs2 ⊢
 clear HH1 HX HKK hb2 HKw1 HKs1 HK HH HWC
 obtain ⟨⟨⟨g0, g1, g2, g3, g4, g5, g6, g7, g8⟩, z0, z1, z2, z3, z4, z5, z6, z7, z8⟩, hlt⟩ := obox9 HH2.out
 have l0 : w2.cell? ⟨w.heap.size, 0, none⟩ = some (.string (wd W 0)) := by
  obtain ⟨g, off, hg, -, hc⟩ := (sts_new HX2.out).cells (by rw [HNW.out]; exact hwl)
  injection hg with hg
  injection hg with hg1 hg2
  subst hg1; subst hg2
  exact hc 0 (by rw [HNW.out]; exact hwl)
 have hf2 : FR w2 B r S N ⟨⟨m, q, ks, hd, tl, ct, sm⟩, bg, false⟩ := ⟨hBr, HOK.out, A, c, FA, FC, by unfold frC; simp only; rw [HNK.out]; exact HH2.out, HKK2.out⟩
 have HF2 := Lib.hid hf2
 have HZT : Hid (∀ x ∈ W.tail, x.size <= S) := Lib.hid (fun x hx => HZ.out x (List.mem_of_mem_tail hx))
 obtain ⟨h, hh⟩ : ∃ x, wd W 0 = x := ⟨_, rfl⟩
 rw [hh] at HKZ
 rw [hh] at l0 HOW
 obtain ⟨L, hL⟩ : ∃ x, W.tail = x := ⟨_, rfl⟩
 rw [hL] at HW HOW HZT
 clear hf2 hh hL HF0 HO
 by_cases hbg : bg = false
 ·subst hbg
  have HO1 := Lib.hid (show O = frstF ⟨⟨m, q, ks, hd, tl, ct, sm⟩, false, false⟩ h L by rw [HOW.out]; unfold wordsF; rw [if_pos rfl])
  have HFC := Lib.hid (first_c B r b S N ⟨⟨m, q, ks, hd, tl, ct, sm⟩, false, false⟩ h L w2 (by omega) HZT.out hBb HF2.out HW.out)
  rw [<- HO1.out] at HFC
  clear HW
  go_wp2_with fail
  refine HFC.out.mono ?_
  rintro e w3 ⟨ok, L', bad, rfl, hw3, hy, hn, hb3, hk3⟩
  have HW := Lib.hid hw3
  have HY := Lib.hid hy; have HN := Lib.hid hn; have HB3 := Lib.hid (hB2.trans hb3); have HK3 := Lib.hid (HKs2.out.trans hk3)
  clear hw3 hy hn hb3 hk3
  obtain ⟨A9, c9, hh9, hc9, hm9, hs9⟩ := HW.out
  obtain ⟨q0, q1, -, -, q4⟩ := box2 hh9
  obtain ⟨n9, hn9⟩ : ∃ x, (L').length = x := ⟨_, rfl⟩
  rw [hn9] at q0
  have HN9 := Lib.hid hn9
  clear hh9 hc9 hm9 hs9 hn9
  have HRES : Hid (∀ v, v = (ok && !bad && decide (n9 = 0)) -> RetFL O B r S (N + 1) w (.returned (.bool v)) w3) := Lib.hid (fun v hv => RetFL.mk (L := L') (fun st' e => ⟨(HY.out st' e).1, (HY.out st' e).2.1, (HY.out st' e).2.2.1, (HY.out st' e).2.2.2.mono (by omega)⟩) HN.out HB3.out HK3.out (by rw [HN9.out]; exact hv))
  cases ok with
  | false =>
   go_wp2
   go_ret
   exact HRES.out false rfl
  | true =>
   cases bad with
   | true =>
    go_wp2
    go_ret
    exact HRES.out false rfl
   | false =>
    by_cases h9 : n9 = 0
    ·subst h9
     go_wp2
     go_ret
     exact HRES.out true rfl
    ·have h9a : ((n9 : Int) == 0) = false := by
      have : ¬ (n9 : Int) = 0 := by omega
      simpa using this
     have h9b := Lib.hid (decide_eq_false h9)
     clear h9
     go_wp2
     go_ret
     exact HRES.out _ (by rw [h9b.out]; rfl)
 have hbg : bg = true := by simpa using hbg
 subst hbg
 by_cases hk : h = wKind
 ·have e1 : (h.toList == [107, 105, 110, 100]) = true := by rw [lit_dec]; exact decide_eq_true hk
  obtain ⟨t0, ht0⟩ : ∃ x, wd L 0 = x := ⟨_, rfl⟩
  obtain ⟨t2, ht2⟩ : ∃ x, wd L 2 = x := ⟨_, rfl⟩
  obtain ⟨N1, hN1⟩ : ∃ x, nVal (wd L 1) = x := ⟨_, rfl⟩
  obtain ⟨O1, hO1⟩ : ∃ x, nOk (wd L 1) = x := ⟨_, rfl⟩
  have HO1 := Lib.hid (show O = if L.length = 3 /\ O1 = true then some ⟨⟨m, q, ks ++ [⟨t0, [], N1, undS t2⟩], hd, tl, ct, sm⟩, true, false⟩ else none by
   rw [HOW.out]; unfold wordsF; rw [if_neg (by simp), if_pos hk, ht0, ht2, hN1, hO1])
  have hbd := nVal_bd (wd L 1)
  rw [hN1] at hbd
  have HX1 := Lib.hid (fun w h => next_c b L false w h)
  have HX2 := Lib.hid (fun bad w h => wnum_c b (L.drop 1) bad w (fun s hs => Nat.le_trans (HZT.out s (List.mem_of_mem_drop hs)) (by omega)) h)
  have HX3 := Lib.hid (fun bad w h => next_c b (L.drop 2) bad w h)
  have hT : L.tail = L.drop 1 := by rw [List.drop_one]
  unfold RetNx at HX1 HX2 HX3
  simp only [wd_drop, drop_tail, Nat.add_zero, hT, ht0, ht2, hN1, hO1] at HX1 HX2 HX3
  have HL1 := Lib.hid (show O1 = true -> 1 < L.length from fun h => nOk_lt (hO1.trans h))
  have HSZ := Lib.hid (show t0.size <= S /\ (undS t2).size <= S from ⟨by rw [<- ht0]; exact wd_sz HZT.out 0, by
   have := wd_sz HZT.out 2
   rw [ht2] at this
   unfold undS
   split
   ·show 0 <= S; omega
   ·exact this⟩)
  have hrb : Hid (r ≠ b) := Lib.hid (by
   obtain ⟨cs, hh⟩ := HW.out.block
   exact heap_ne HH2.out hh (by decide))
  obtain ⟨i0, hi⟩ : ∃ i, Tryz.prog.info? 46 = some i := ⟨_, rfl⟩
  have hz0 : i0.zero = some (.agg #[.string ⟨#[]⟩, .slice none 0 0, .int .i64 0, .string ⟨#[]⟩]) := by obtain rfl := Option.some.inj (hi.symm.trans rfl); rfl
  have hz1 : i0.size = 4 := by obtain rfl := Option.some.inj (hi.symm.trans rfl); rfl
  have hz2 : i0.bytes = 64 := by obtain rfl := Option.some.inj (hi.symm.trans rfl); rfl
  have HI := Lib.hid hi; have HZ0 := Lib.hid hz0; have HZ1 := Lib.hid hz1; have HZ2 := Lib.hid hz2
  have hnkN : nk <= N := by have := HOK.out.1.2; simp only at this; rw [HNK.out] at this; exact this
  have HBL := Lib.hid (show ∀ (x y : World) (cs : Array Value), Kw w2 x -> x.grownBy y (some b) -> x.heap[b]? = some (.cells cs 147 (0, 0)) -> Kw w2 y from fun _ _ _ h1 h2 h3 => Kw.trans h1 (Kw.grown h2 h3))
  have HOWN : Hid (∀ {x : World}, Kw w2 x -> x.ownsRow B 46 4 (.slice A nk c) nk (rowsC 4 nk (kindV ks FA FC))) := Lib.hid (fun hx => by
   have := (HKK2.out.keep (fun g cs hh => hx.2 _ _ _ _ hh (by decide)) (fun g cs hh => hx.2 _ _ _ _ hh (by decide))).kinds
   rw [HNK.out] at this
   exact this)
  have HRB2 := Lib.hid HH2.out
  clear hk hi hz0 hz1 hz2 hT ht0 ht2 hN1 hO1
  have HWw := HW
  have HK2 : Kw w2 w2.drew := ⟨Nat.le_refl _, fun g cs T f hh _ => hh⟩
  go_upto_region 10 with fail
  refine region_till 19 (fun w' => w'.cell? ⟨r, 2, none⟩ = some (.slice A nk c)) (by kernel_rfl) ?_
  have hT : (fun w' : World => w'.cell? ⟨r, 2, none⟩ = some (.slice A nk c)) w2.drew := g2
  refine Till.tk (i := 0) (v := ?_) rfl [16, 17, 18] hT (Or.inl ⟨by rfl, ?_⟩) ?_
  rotate_left
  ·(intro w' hw'; obtain u1 := hw'; go_simp; try with_reducible rfl)
  (try simp only [Act.put, Till.a, Till.b, Till.c])
  refine Till.tk (i := 1) (v := ?_) rfl [2, 3, 4, 5, 15] hT (Or.inl ⟨by rfl, ?_⟩) ?_
  rotate_left
  ·(intro w' hw'; obtain u1 := hw'; go_simp; try with_reducible rfl)
  (try simp only [Act.put, Till.a, Till.b, Till.c])
  refine Till.tk (i := 2) (v := ?_) rfl [3, 4, 5, 15] hT (Or.inl ⟨by rfl, ?_⟩) ?_
  rotate_left
  ·(intro w' hw'; obtain u1 := hw'; go_simp; try with_reducible rfl)
  (try simp only [Act.put, Till.a, Till.b, Till.c])
  refine Till.tk (i := 3) (v := ?_) rfl [4, 5, 15] hT (Or.inl ⟨by rfl, ?_⟩) ?_
  rotate_left
  ·(intro w' hw'; obtain u1 := hw'; go_simp; try with_reducible rfl)
  (try simp only [Act.put, Till.a, Till.b, Till.c])
  refine Till.tk (i := 4) (v := ?_) rfl [5, 15] hT (Or.inl ⟨by rfl, ?_⟩) ?_
  rotate_left
  ·(intro w' hw'; obtain u1 := hw'; go_simp; try with_reducible rfl)
  (try simp only [Act.put, Till.a, Till.b, Till.c])
  refine Till.tk (i := 5) (v := ?_) rfl [15] hT (Or.inl ⟨by rfl, ?_⟩) ?_
  rotate_left
  ·(intro w' hw'; obtain u1 := hw'; go_simp; try with_reducible rfl)
  (try simp only [Act.put, Till.a, Till.b, Till.c])
  refine Till.tk (i := 6) (v := ?_) rfl [7, 13, 14, 15] hT (Or.inl ⟨by rfl, ?_⟩) ?_
  rotate_left
  ·(intro w' hw'; obtain u1 := hw'; go_simp; try with_reducible rfl)
  (try simp only [Act.put, Till.a, Till.b, Till.c])
  refine Till.tk (i := 8) (v := ?_) rfl [9, 13, 14, 15] hT (Or.inl ⟨by rfl, ?_⟩) ?_
  rotate_left
  ·(intro w' hw'; obtain u1 := hw'; go_simp; try with_reducible rfl)
  (try simp only [Act.put, Till.a, Till.b, Till.c])
  refine Till.tk (i := 10) (v := ?_) rfl [11, 12, 13, 14, 15] hT (Or.inl ⟨by rfl, ?_⟩) ?_
  rotate_left
  ·(intro w' hw'; obtain u1 := hw'; go_simp; try with_reducible rfl)
  (try simp only [Act.put, Till.a, Till.b, Till.c])
  refine Till.step (i := 7) (by kernel_rfl) rfl ?_
  intro K hK
  go_simp
  (go_at_call 94; refine (HX1.out _ (by exact HW.out)).mono ?_; rintro e wA ⟨rfl, hwA, hgA⟩; (have hrA := grown_block hgA hrb.out (by exact HH2.out)))
  have hT : (fun w' : World => w'.cell? ⟨r, 2, none⟩ = some (.slice A nk c)) wA := (obox9 hrA).1.1.2.2.1
  refine hK.out _ _ (fun _ => hT) ?_
  clear hK K
  (try simp only [Act.put, Till.a, Till.b, Till.c])
  refine Till.step (i := 9) (by kernel_rfl) rfl ?_
  intro K hK
  go_simp
  (go_at_call 95; refine (HX2.out _ _ hwA).mono ?_; rintro e wB ⟨rfl, hwB, hgB⟩; (have hrB := grown_block hgB hrb.out hrA))
  have hT : (fun w' : World => w'.cell? ⟨r, 2, none⟩ = some (.slice A nk c)) wB := (obox9 hrB).1.1.2.2.1
  refine hK.out _ _ (fun _ => hT) ?_
  clear hK K
  (try simp only [Act.put, Till.a, Till.b, Till.c])
  refine Till.step (i := 11) (by kernel_rfl) rfl ?_
  intro K hK
  go_simp
  (go_at_call 94; refine (HX3.out _ _ hwB).mono ?_; rintro e wC ⟨rfl, hwC, hgC⟩; (have hrC := grown_block hgC hrb.out hrB))
  have hT : (fun w' : World => w'.cell? ⟨r, 2, none⟩ = some (.slice A nk c)) wC := (obox9 hrC).1.1.2.2.1
  refine hK.out _ _ (fun _ => hT) ?_
  clear hK K
  (try simp only [Act.put, Till.a, Till.b, Till.c])
  refine Till.step (i := 12) (by kernel_rfl) rfl ?_
  intro K hK
  go_simp
  (go_at_call 96; refine (undash_c _ _).mono ?_; rintro e wD ⟨eD, rfl⟩; subst eD)
  have hT : (fun w' : World => w'.cell? ⟨r, 2, none⟩ = some (.slice A nk c)) wC := (obox9 hrC).1.1.2.2.1
  refine hK.out _ _ (fun _ => hT) ?_
  clear hK K
  (try simp only [Act.put, Till.a, Till.b, Till.c])
  refine Till.step (i := 13) (by kernel_rfl) rfl ?_
  intro K hK
  go_simp
  have hT : (fun w' : World => w'.cell? ⟨r, 2, none⟩ = some (.slice A nk c)) wC := (obox9 hrC).1.1.2.2.1
  refine hK.out _ _ (fun _ => hT) ?_
  clear hK K
  (try simp only [Act.put, Till.a, Till.b, Till.c])
  refine Till.step (i := 14) (by kernel_rfl) rfl ?_
  intro K hK
  go_simp
  have hT : (fun w' : World => w'.cell? ⟨r, 2, none⟩ = some (.slice A nk c)) (wC.alloc (.cells #[.string t0, .slice none 0 0, .int .i64 N1, .string (undS t2)] 46)) := (obox9 (heap_old hrC (.cells #[.string t0, .slice none 0 0, .int .i64 N1, .string (undS t2)] 46))).1.1.2.2.1
  refine hK.out _ _ (fun _ => hT) ?_
  clear hK K
  (try simp only [Act.put, Till.a, Till.b, Till.c])
  refine Till.step (i := 15) (by kernel_rfl) rfl ?_
  intro K hK
  have hkC : Kw w2 wC := by
   obtain ⟨cs1, hc1⟩ := (show Wds w2.drew b L false from HW.out).block
   obtain ⟨cs2, hc2⟩ := hwA.block
   obtain ⟨cs3, hc3⟩ := hwB.block
   exact HBL.out _ _ _ (HBL.out _ _ _ (HBL.out _ _ _ HK2 hgA hc1) hgB hc2) hgC hc3
  have hoC := HOWN.out hkC
  refine step_append_lies _ rfl (.tmp 61) (.tmp 70) 22 rfl B 46 i0 (.agg #[.string ⟨#[]⟩, .slice none 0 0, .int .i64 0, .string ⟨#[]⟩]) 4 64 Tryz.underlying22 HI.out HZ0.out HZ1.out HZ2.out rfl (by decide) (.slice A nk c) nk (rowsC 4 nk (kindV ks FA FC)) rfl (by exact hoC.alloc (.cells #[.string t0, .slice none 0 0, .int .i64 N1, .string (undS t2)] 46)) ⟨wC.heap.size, 0, none⟩ 1 1 [.string t0, .slice none 0 0, .int .i64 N1, .string (undS t2)] rfl rfl (by exact k_cellsF wC [.string t0, .slice none 0 0, .int .i64 N1, .string (undS t2)] 46) (by intro u hu; simp at hu; rcases hu with rfl | rfl | rfl | rfl <;> rfl) (by decide) (by unfold maxLen; omega) (by omega) (by have := hkC.1; have := hB2.size; simp; omega) _ rfl ?_
  intro G cap w4 hown4 hg4 hat4 hlt4
  have hg4 := grown_alloc hg4
  have hr4 := grown_type hoC hg4 hrC (by decide)
  obtain ⟨⟨⟨p0, p1, p2, p3, p4, p5, p6, p7, p8⟩, x0, x1, x2, x3, x4, x5, x6, x7, x8⟩, xlt⟩ := obox9 hr4
  have hT : (fun w' : World => w'.cell? ⟨r, 2, none⟩ = some (.slice A nk c)) w4 := (obox9 hr4).1.1.2.2.1
  refine hK.out _ _ (fun _ => hT) ?_
  clear hK K
  (try simp only [Act.put, Till.a, Till.b, Till.c])
  refine Till.tk (i := 16) (v := ?_) rfl [17, 18] hT (Or.inl ⟨by rfl, ?_⟩) ?_
  rotate_left
  ·(intro w' hw'; obtain u1 := hw'; go_simp; try with_reducible rfl)
  (try simp only [Act.put, Till.a, Till.b, Till.c])
  refine Till.tk (i := 17) (v := ?_) rfl [18] hT (Or.inl ⟨by rfl, ?_⟩) ?_
  rotate_left
  ·(intro w' hw'; obtain u1 := hw'; go_simp; try with_reducible rfl)
  (try simp only [Act.put, Till.a, Till.b, Till.c])
  refine Till.tk (i := 18) (v := ?_) rfl [] hT (Or.inl ⟨by rfl, ?_⟩) ?_
  rotate_left
  ·(intro w' hw'; obtain u1 := hw'; go_simp; try with_reducible rfl)
  (try simp only [Act.put, Till.a, Till.b, Till.c])
  refine Till.step (i := 19) (by kernel_rfl) rfl ?_
  intro K hK
  go_simp
  refine hK.out _ _ (fun h => absurd h (by decide)) ?_
  clear hK K
  (try simp only [Act.put, Till.a, Till.b, Till.c])
  refine Till.done (by kernel_rfl) ?_ _
  have hKC := HKK2.out.keep (fun g cs hh => hkC.2 g cs _ _ hh (by decide)) (fun g cs hh => hkC.2 g cs _ _ hh (by decide))
  have hKn := KOwn.push (k := ⟨t0, [], N1, undS t2⟩) (w' := w4) (A' := some ⟨G, 0, none⟩) (c' := cap) hKC rfl (by rw [HNK.out]; exact hown4) (by rw [HNK.out]; exact hg4)
  have hKn := hKn.set (i := 2) hr4 (.slice (some ⟨G, 0, none⟩) (nk + 1) cap)
  have hrn : (w4.setCell ⟨r, 2, none⟩ (.slice (some ⟨G, 0, none⟩) (nk + 1) cap)).heap[r]? = some (.cells #[.int .u8 m, .int .u8 q, .slice (some ⟨G, 0, none⟩) (nk + 1) cap, .string hd, .string tl, .string ct, .string sm, .bool true, .bool false] 118 (0, 0)) := by
   have := heap_set hr4 2 (.slice (some ⟨G, 0, none⟩) (nk + 1) cap)
   simpa using this
  have hwn : Wds w4 b (L.drop 3) (false || L.isEmpty || !O1 || (L.drop 2).isEmpty) := by
   obtain ⟨A6, c6, y1, y2, y3, y4⟩ := hwC
   exact ⟨A6, c6, grown_type hoC hg4 y1 (by decide), y2, y3, y4.keep (fun g cs f hh => grown_type hoC hg4 hh (by decide))⟩
  have hwn := hwn.set (i := 2) hr4 (by decide) (by decide) (.slice (some ⟨G, 0, none⟩) (nk + 1) cap)
  have hBn : Below B w (w4.setCell ⟨r, 2, none⟩ (.slice (some ⟨G, 0, none⟩) (nk + 1) cap)) := by
   have h1 : Below B w2 wC := by
    have a1 := below_grown (B := B) (w := w2) ⟨hgA.os, hgA.tape, hgA.output, hgA.size, hgA.block⟩ hBb (by have := hB2.size; omega)
    have a2 := below_grown (B := B) hgB hBb (by have := hB2.size; have := hgA.size; have e : w2.drew.heap.size = w2.heap.size := rfl; omega)
    have a3 := below_grown (B := B) hgC hBb (by have := hB2.size; have := hgA.size; have := hgB.size; have e : w2.drew.heap.size = w2.heap.size := rfl; omega)
    exact (a1.trans a2).trans a3
   refine ((hB2.trans h1).trans ⟨hg4.os, hg4.tape, hg4.output, hg4.size, fun k hk => hg4.block k (by have := hkC.1; have := hB2.size; omega) (fun e => ?_)⟩).setCell (p := ⟨r, 2, none⟩) hBr _
   have := hoC.lt k e.symm
   omega
  have hKsn : Ks w (w4.setCell ⟨r, 2, none⟩ (.slice (some ⟨G, 0, none⟩) (nk + 1) cap)) :=
   HKs2.out.trans ((Ks.of hkC).trans (Ks.trans ⟨hg4.size, fun g cs f hh => grown_type hoC hg4 hh (by decide)⟩ (Ks.set hr4 (by decide) _)))
  have HW := Lib.hid hwn; have HKN := Lib.hid hKn; have HRN := Lib.hid hrn; have HBN := Lib.hid hBn; have HKSN := Lib.hid hKsn
  generalize w4.setCell ⟨r, 2, none⟩ (.slice (some ⟨G, 0, none⟩) (nk + 1) cap) = w5 at HW HKN HRN HBN HKSN ⊢
  obtain ⟨bad, hbad⟩ : ∃ x, (false || L.isEmpty || !O1 || (L.drop 2).isEmpty) = x := ⟨_, rfl⟩
  rw [hbad] at HW
  have HBAD := Lib.hid (show ((List.drop 3 L = []) /\ bad = false) ↔ (L.length = 3 /\ O1 = true) from by
   rw [<- hbad]
   have hl := HL1.out
   constructor
   ·rintro ⟨k1, k2⟩
    have k3 : O1 = true := by cases O1 with | true => rfl | false => simp at k2
    have k4 : (L.drop 2).isEmpty = false := by
     cases hq : (L.drop 2).isEmpty with
     | false => rfl
     | true => rw [hq] at k2; simp at k2
    have k5 := bad_next.1 k4
    have k6 : L.length <= 3 := by simpa using k1
    exact ⟨by omega, k3⟩
   ·rintro ⟨k1, k2⟩
    have k3 : (L.drop 2).isEmpty = false := bad_next.2 (by omega)
    have k4 : L.isEmpty = false := by
     have := bad_next (L := L) (k := 0)
     rw [List.drop_zero] at this
     exact this.2 (by omega)
    exact ⟨by simp; omega, by rw [k2, k3, k4]; rfl⟩)
  clear hwn hKn hrn hBn hKsn hbad
  clear p0 p1 p2 p3 p4 p5 p6 p7 p8 x0 x1 x2 x3 x4 x5 x6 x7 x8 xlt hr4 hg4 hown4 hat4 hlt4 hkC hoC hrA hrB hrC hwA hwB hwC hgA hgB hgC hT
  have HYF : Hid (∀ st', O = some st' -> true = true /\ L.drop 3 = [] /\ bad = false /\ FR w5 B r S (N + 1) st') := Lib.hid (fun st' e => by
   rw [HO1.out] at e
   by_cases hc : L.length = 3 /\ O1 = true
   ·rw [if_pos hc] at e
    injection e with e
    subst e
    obtain ⟨k1, k2⟩ := HBAD.out.2 hc
    refine ⟨rfl, k1, k2, hBr, HOK.out.push HSZ.out rfl, some ⟨G, 0, none⟩, cap, _, _, ?_, HKN.out⟩
    unfold frC
    simp only
    rw [List.length_append, List.length_singleton, HNK.out]
    exact HRN.out
   ·rw [if_neg hc] at e; cases e)
  have HNF : Hid (O = none -> ¬ (true = true /\ L.drop 3 = [] /\ bad = false)) := Lib.hid (fun e k => by
   rw [HO1.out] at e
   rw [if_pos (HBAD.out.1 k.2)] at e
   cases e)
  obtain ⟨A9, c9, hh9, hc9, hm9, hs9⟩ := HW.out
  obtain ⟨q0, q1, -, -, q4⟩ := box2 hh9
  obtain ⟨n9, hn9⟩ : ∃ x, (L.drop 3).length = x := ⟨_, rfl⟩
  rw [hn9] at q0
  have HN9 := Lib.hid hn9
  clear hh9 hc9 hm9 hs9 hn9
  have HRES : Hid (∀ v, v = (true && !bad && decide (n9 = 0)) -> RetFL O B r S (N + 1) w (.returned (.bool v)) w5) := Lib.hid (fun v hv => RetFL.mk (L := L.drop 3) HYF.out HNF.out HBN.out HKSN.out (by rw [HN9.out]; exact hv))
  cases bad with
  | true =>
   go_wp2
   go_ret
   exact HRES.out false rfl
  | false =>
   by_cases h9 : n9 = 0
   ·subst h9
    go_wp2
    go_ret
    exact HRES.out true rfl
   ·have h9a : ((n9 : Int) == 0) = false := by
     have : ¬ (n9 : Int) = 0 := by omega
     simpa using this
    have h9b := Lib.hid (decide_eq_false h9)
    clear h9
    go_wp2
    go_ret
    exact HRES.out _ (by rw [h9b.out]; rfl)
 have e1 : (h.toList == [107, 105, 110, 100]) = false := by rw [lit_dec]; exact decide_eq_false hk
 have hzS : ∀ s ∈ L, s.size <= 9223372036854775807 := fun s hs => Nat.le_trans (HZT.out s hs) (by omega)
 by_cases hk2 : h = wEnds
 ·have e2 : (h.toList == [101, 110, 100, 115]) = true := by rw [lit_dec]; exact decide_eq_true hk2
  obtain ⟨t0, ht0⟩ : ∃ x, wd L 0 = x := ⟨_, rfl⟩
  obtain ⟨t1, ht1⟩ : ∃ x, wd L 1 = x := ⟨_, rfl⟩
  obtain ⟨t2, ht2⟩ : ∃ x, wd L 2 = x := ⟨_, rfl⟩
  obtain ⟨t3, ht3⟩ : ∃ x, wd L 3 = x := ⟨_, rfl⟩
  have HO1 := Lib.hid (show O = if L.length = 4 then some ⟨⟨m, q, ks, undS t0, undS t1, undS t2, undS t3⟩, true, true⟩ else none by
   rw [HOW.out]; unfold wordsF; rw [if_neg (by simp), if_neg hk, if_pos hk2, ht0, ht1, ht2, ht3])
  have HX1 := Lib.hid (fun k bad w h => next_c b (L.drop k) bad w h)
  unfold RetNx at HX1
  simp only [wd_drop, drop_tail, Nat.add_zero] at HX1
  have HX0 := Lib.hid (fun w h => next_c b L false w h)
  have hT : L.tail = L.drop 1 := by rw [List.drop_one]
  unfold RetNx at HX0
  rw [hT, ht0] at HX0
  have HXa := Lib.hid (HX1.out 1); have HXb := Lib.hid (HX1.out 2); have HXc := Lib.hid (HX1.out 3)
  rw [ht1] at HXa
  rw [ht2] at HXb
  rw [ht3] at HXc
  have hrb : Hid (r ≠ b) := Lib.hid (by
   obtain ⟨cs, hh⟩ := HW.out.block
   exact heap_ne HH2.out hh (by decide))
  clear hk hk2 hT ht0 ht1 ht2 ht3 HX1
  have HH3 : Hid ((w2.setCell ⟨r, 8, none⟩ (.bool true)).heap[r]? = some (.cells #[.int .u8 m, .int .u8 q, .slice A nk c, .string hd, .string tl, .string ct, .string sm, .bool true, .bool true] 118 (0, 0))) := Lib.hid (by have := heap_set HH2.out 8 (.bool true); simpa using this)
  have HW3 := Lib.hid (HW.out.set (i := 8) HH2.out (by decide) (by decide) (.bool true))
  have HK3 := Lib.hid (HKK2.out.set (i := 8) HH2.out (.bool true))
  have HB3 : Hid (Below B w (w2.setCell ⟨r, 8, none⟩ (.bool true))) := Lib.hid (hB2.setCell (p := ⟨r, 8, none⟩) hBr _)
  have HS3 := Lib.hid (HKs2.out.trans (Ks.set (i := 8) HH2.out (by decide) (.bool true)))
  clear HW
  go_upto_region 13 with fail
  generalize w2.setCell ⟨r, 8, none⟩ (.bool true) = w3 at HH3 HW3 HK3 HB3 HS3 ⊢
  clear g0 g1 g2 g3 g4 g5 g6 g7 g8 z0 z1 z2 z3 z4 z5 z6 z7 z8 hlt
  obtain ⟨⟨⟨g0, g1, g2, g3, g4, g5, g6, g7, g8⟩, z0, z1, z2, z3, z4, z5, z6, z7, z8⟩, hlt⟩ := obox9 HH3.out
  go_wp2_with fail
  refine (HX0.out _ HW3.out).mono ?_
  rintro e w4 ⟨rfl, hwx, hgx⟩
  obtain ⟨csx, hbx⟩ := HW3.out.block
  have hkx := Kw.grown hgx hbx
  have HH4 := Lib.hid (hkx.2 _ _ _ _ HH3.out (by decide))
  have HW4 := Lib.hid hwx
  have HK4 := Lib.hid (HK3.out.keep (fun g cs hh => hkx.2 _ _ _ _ hh (by decide)) (fun g cs hh => hkx.2 _ _ _ _ hh (by decide)))
  have HB4 := Lib.hid (HB3.out.trans (below_grown hgx hBb (by have := HB3.out.size; omega)))
  have HS4 := Lib.hid (HS3.out.trans (Ks.of hkx))
  clear g0 g1 g2 g3 g4 g5 g6 g7 g8 z0 z1 z2 z3 z4 z5 z6 z7 z8 hlt
  clear hwx hgx hbx hkx HH3 HW3 HK3 HB3 HS3
  obtain ⟨⟨⟨g0, g1, g2, g3, g4, g5, g6, g7, g8⟩, z0, z1, z2, z3, z4, z5, z6, z7, z8⟩, hlt⟩ := obox9 HH4.out
  go_wp2_with fail
  refine (undash_c _ _).mono ?_
  rintro e wD ⟨eD, rfl⟩
  subst eD
  go_wp2_with fail
  refine (HXa.out _ _ HW4.out).mono ?_
  rintro e w5 ⟨rfl, hwx, hgx⟩
  obtain ⟨csx, hbx⟩ := HW4.out.block
  have hkx := Kw.grown hgx hbx
  have HH5 := Lib.hid (hkx.2 _ _ _ _ HH4.out (by decide))
  have HW5 := Lib.hid hwx
  have HK5 := Lib.hid (HK4.out.keep (fun g cs hh => hkx.2 _ _ _ _ hh (by decide)) (fun g cs hh => hkx.2 _ _ _ _ hh (by decide)))
  have HB5 := Lib.hid (HB4.out.trans (below_grown hgx hBb (by have := HB4.out.size; omega)))
  have HS5 := Lib.hid (HS4.out.trans (Ks.of hkx))
  clear g0 g1 g2 g3 g4 g5 g6 g7 g8 z0 z1 z2 z3 z4 z5 z6 z7 z8 hlt
  clear hwx hgx hbx hkx HH4 HW4 HK4 HB4 HS4
  obtain ⟨⟨⟨g0, g1, g2, g3, g4, g5, g6, g7, g8⟩, z0, z1, z2, z3, z4, z5, z6, z7, z8⟩, hlt⟩ := obox9 HH5.out
  go_wp2_with fail
  refine (undash_c _ _).mono ?_
  rintro e wD ⟨eD, rfl⟩
  subst eD
  go_wp2_with fail
  refine (HXb.out _ _ HW5.out).mono ?_
  rintro e w6 ⟨rfl, hwx, hgx⟩
  obtain ⟨csx, hbx⟩ := HW5.out.block
  have hkx := Kw.grown hgx hbx
  have HH6 := Lib.hid (hkx.2 _ _ _ _ HH5.out (by decide))
  have HW6 := Lib.hid hwx
  have HK6 := Lib.hid (HK5.out.keep (fun g cs hh => hkx.2 _ _ _ _ hh (by decide)) (fun g cs hh => hkx.2 _ _ _ _ hh (by decide)))
  have HB6 := Lib.hid (HB5.out.trans (below_grown hgx hBb (by have := HB5.out.size; omega)))
  have HS6 := Lib.hid (HS5.out.trans (Ks.of hkx))
  clear g0 g1 g2 g3 g4 g5 g6 g7 g8 z0 z1 z2 z3 z4 z5 z6 z7 z8 hlt
  clear hwx hgx hbx hkx HH5 HW5 HK5 HB5 HS5
  obtain ⟨⟨⟨g0, g1, g2, g3, g4, g5, g6, g7, g8⟩, z0, z1, z2, z3, z4, z5, z6, z7, z8⟩, hlt⟩ := obox9 HH6.out
  go_wp2_with fail
  refine (undash_c _ _).mono ?_
  rintro e wD ⟨eD, rfl⟩
  subst eD
  go_wp2_with fail
  refine (HXc.out _ _ HW6.out).mono ?_
  rintro e w7 ⟨rfl, hwx, hgx⟩
  obtain ⟨csx, hbx⟩ := HW6.out.block
  have hkx := Kw.grown hgx hbx
  have HH7 := Lib.hid (hkx.2 _ _ _ _ HH6.out (by decide))
  have HW7 := Lib.hid hwx
  have HK7 := Lib.hid (HK6.out.keep (fun g cs hh => hkx.2 _ _ _ _ hh (by decide)) (fun g cs hh => hkx.2 _ _ _ _ hh (by decide)))
  have HB7 := Lib.hid (HB6.out.trans (below_grown hgx hBb (by have := HB6.out.size; omega)))
  have HS7 := Lib.hid (HS6.out.trans (Ks.of hkx))
  clear g0 g1 g2 g3 g4 g5 g6 g7 g8 z0 z1 z2 z3 z4 z5 z6 z7 z8 hlt
  clear hwx hgx hbx hkx HH6 HW6 HK6 HB6 HS6
  obtain ⟨⟨⟨g0, g1, g2, g3, g4, g5, g6, g7, g8⟩, z0, z1, z2, z3, z4, z5, z6, z7, z8⟩, hlt⟩ := obox9 HH7.out
  go_wp2_with fail
  refine (undash_c _ _).mono ?_
  rintro e wD ⟨eD, rfl⟩
  subst eD
  go_upto_region 14 with fail
  have HHn := HH7; have HWn := HW7; have HKn := HK7; have HBn := HB7; have HSn := HS7
  have HWn := Lib.hid (HWn.out.set (i := 3) HHn.out (by decide) (by decide) (.string (undS t0)))
  have HKn := Lib.hid (HKn.out.set (i := 3) HHn.out (.string (undS t0)))
  have HSn := Lib.hid (HSn.out.trans (Ks.set (i := 3) HHn.out (by decide) (.string (undS t0))))
  have HBn : Hid (Below B w (w7.setCell ⟨r, 3, none⟩ (.string (undS t0)))) := Lib.hid (HBn.out.setCell (p := ⟨r, 3, none⟩) hBr _)
  have HHn : Hid ((w7.setCell ⟨r, 3, none⟩ (.string (undS t0))).heap[r]? = some (.cells #[.int .u8 m, .int .u8 q, .slice A nk c, .string (undS t0), .string tl, .string ct, .string sm, .bool true, .bool true] 118 (0, 0))) := Lib.hid (by have := heap_set HHn.out 3 (.string (undS t0)); simpa using this)
  have HWn := Lib.hid (HWn.out.set (i := 4) HHn.out (by decide) (by decide) (.string (undS t1)))
  have HKn := Lib.hid (HKn.out.set (i := 4) HHn.out (.string (undS t1)))
  have HSn := Lib.hid (HSn.out.trans (Ks.set (i := 4) HHn.out (by decide) (.string (undS t1))))
  have HBn : Hid (Below B w ((w7.setCell ⟨r, 3, none⟩ (.string (undS t0))).setCell ⟨r, 4, none⟩ (.string (undS t1)))) := Lib.hid (HBn.out.setCell (p := ⟨r, 4, none⟩) hBr _)
  have HHn : Hid (((w7.setCell ⟨r, 3, none⟩ (.string (undS t0))).setCell ⟨r, 4, none⟩ (.string (undS t1))).heap[r]? = some (.cells #[.int .u8 m, .int .u8 q, .slice A nk c, .string (undS t0), .string (undS t1), .string ct, .string sm, .bool true, .bool true] 118 (0, 0))) := Lib.hid (by have := heap_set HHn.out 4 (.string (undS t1)); simpa using this)
  have HWn := Lib.hid (HWn.out.set (i := 5) HHn.out (by decide) (by decide) (.string (undS t2)))
  have HKn := Lib.hid (HKn.out.set (i := 5) HHn.out (.string (undS t2)))
  have HSn := Lib.hid (HSn.out.trans (Ks.set (i := 5) HHn.out (by decide) (.string (undS t2))))
  have HBn : Hid (Below B w (((w7.setCell ⟨r, 3, none⟩ (.string (undS t0))).setCell ⟨r, 4, none⟩ (.string (undS t1))).setCell ⟨r, 5, none⟩ (.string (undS t2)))) := Lib.hid (HBn.out.setCell (p := ⟨r, 5, none⟩) hBr _)
  have HHn : Hid ((((w7.setCell ⟨r, 3, none⟩ (.string (undS t0))).setCell ⟨r, 4, none⟩ (.string (undS t1))).setCell ⟨r, 5, none⟩ (.string (undS t2))).heap[r]? = some (.cells #[.int .u8 m, .int .u8 q, .slice A nk c, .string (undS t0), .string (undS t1), .string (undS t2), .string sm, .bool true, .bool true] 118 (0, 0))) := Lib.hid (by have := heap_set HHn.out 5 (.string (undS t2)); simpa using this)
  have HWn := Lib.hid (HWn.out.set (i := 6) HHn.out (by decide) (by decide) (.string (undS t3)))
  have HKn := Lib.hid (HKn.out.set (i := 6) HHn.out (.string (undS t3)))
  have HSn := Lib.hid (HSn.out.trans (Ks.set (i := 6) HHn.out (by decide) (.string (undS t3))))
  have HBn : Hid (Below B w ((((w7.setCell ⟨r, 3, none⟩ (.string (undS t0))).setCell ⟨r, 4, none⟩ (.string (undS t1))).setCell ⟨r, 5, none⟩ (.string (undS t2))).setCell ⟨r, 6, none⟩ (.string (undS t3)))) := Lib.hid (HBn.out.setCell (p := ⟨r, 6, none⟩) hBr _)
  have HHn : Hid (((((w7.setCell ⟨r, 3, none⟩ (.string (undS t0))).setCell ⟨r, 4, none⟩ (.string (undS t1))).setCell ⟨r, 5, none⟩ (.string (undS t2))).setCell ⟨r, 6, none⟩ (.string (undS t3))).heap[r]? = some (.cells #[.int .u8 m, .int .u8 q, .slice A nk c, .string (undS t0), .string (undS t1), .string (undS t2), .string (undS t3), .bool true, .bool true] 118 (0, 0))) := Lib.hid (by have := heap_set HHn.out 6 (.string (undS t3)); simpa using this)
  generalize (((w7.setCell ⟨r, 3, none⟩ (.string (undS t0))).setCell ⟨r, 4, none⟩ (.string (undS t1))).setCell ⟨r, 5, none⟩ (.string (undS t2))).setCell ⟨r, 6, none⟩ (.string (undS t3)) = w8 at HHn HWn HKn HBn HSn ⊢
  clear g0 g1 g2 g3 g4 g5 g6 g7 g8 z0 z1 z2 z3 z4 z5 z6 z7 z8 hlt
  have HW := HWn
  clear HWn HH7 HW7 HK7 HB7 HS7
  obtain ⟨bad, hbad⟩ : ∃ x, (false || L.isEmpty || (List.drop 1 L).isEmpty || (List.drop 2 L).isEmpty || (List.drop 3 L).isEmpty) = x := ⟨_, rfl⟩
  rw [hbad] at HW
  have HBAD := Lib.hid (show ((List.drop 4 L = []) /\ bad = false) ↔ L.length = 4 from by
   rw [<- hbad]
   constructor
   ·rintro ⟨k1, k2⟩
    have k4 : (L.drop 3).isEmpty = false := by
     cases hq : (L.drop 3).isEmpty with
     | false => rfl
     | true => rw [hq] at k2; simp at k2
    have k5 := bad_next.1 k4
    have k6 : L.length <= 4 := by simpa using k1
    omega
   ·intro k1
    have k0 : L.isEmpty = false := by
     have := bad_next (L := L) (k := 0)
     rw [List.drop_zero] at this
     exact this.2 (by omega)
    exact ⟨by simp; omega, by rw [k0, bad_next.2 (show 1 < L.length by omega), bad_next.2 (show 2 < L.length by omega), bad_next.2 (show 3 < L.length by omega)]; rfl⟩)
  clear hbad
  have HYF : Hid (∀ st', O = some st' -> true = true /\ L.drop 4 = [] /\ bad = false /\ FR w8 B r S (N + 1) st') := Lib.hid (fun st' e => by
   rw [HO1.out] at e
   by_cases hc : L.length = 4
   ·rw [if_pos hc] at e
    injection e with e
    subst e
    obtain ⟨k1, k2⟩ := HBAD.out.2 hc
    refine ⟨rfl, k1, k2, hBr, FmtOk.mono ⟨HOK.out.1, HOK.out.2⟩ (by omega), A, c, FA, FC, ?_, HKn.out⟩
    unfold frC
    simp only
    rw [HNK.out]
    exact HHn.out
   ·rw [if_neg hc] at e; cases e)
  have HNF : Hid (O = none -> ¬ (true = true /\ L.drop 4 = [] /\ bad = false)) := Lib.hid (fun e k => by
   rw [HO1.out] at e
   rw [if_pos (HBAD.out.1 k.2)] at e
   cases e)
  obtain ⟨A9, c9, hh9, hc9, hm9, hs9⟩ := HW.out
  obtain ⟨q0, q1, -, -, q4⟩ := box2 hh9
  obtain ⟨n9, hn9⟩ : ∃ x, (L.drop 4).length = x := ⟨_, rfl⟩
  rw [hn9] at q0
  have HN9 := Lib.hid hn9
  clear hh9 hc9 hm9 hs9 hn9
  have HRES : Hid (∀ v, v = (true && !bad && decide (n9 = 0)) -> RetFL O B r S (N + 1) w (.returned (.bool v)) w8) := Lib.hid (fun v hv => RetFL.mk (L := L.drop 4) HYF.out HNF.out HBn.out HSn.out (by rw [HN9.out]; exact hv))
  cases bad with
  | true =>
   go_wp2
   go_ret
   exact HRES.out false rfl
  | false =>
   by_cases h9 : n9 = 0
   ·subst h9
    go_wp2
    go_ret
    exact HRES.out true rfl
   ·have h9a : ((n9 : Int) == 0) = false := by
     have : ¬ (n9 : Int) = 0 := by omega
     simpa using this
    have h9b := Lib.hid (decide_eq_false h9)
    clear h9
    go_wp2
    go_ret
    exact HRES.out _ (by rw [h9b.out]; rfl)
 have e2 : (h.toList == [101, 110, 100, 115]) = false := by rw [lit_dec]; exact decide_eq_false hk2
 have HO1 := Lib.hid (show O = if kindW h ≠ 0 /\ ks ≠ [] /\ colOk m (kindW h) L = true then some ⟨⟨m, q, addCol ks (colW m (kindW h) L), hd, tl, ct, sm⟩, true, false⟩ else none by
  rw [HOW.out]; unfold wordsF; rw [if_neg (by simp), if_neg hk, if_neg hk2])
 have HID := Lib.hid (idx_kind h)
 obtain ⟨I, hI⟩ : ∃ x, Lib.idxOfS [eS, wText, wNumber, wDay] h = x := ⟨_, rfl⟩
 rw [hI] at HID
 have HKI := Lib.hid (fun g w hh => kwidx_c g h w hh)
 rw [hI] at HKI
 have HKW := Lib.hid kindwords_b
 have hwz2 : w.heap.size < w2.heap.size := lt_heap HX2.out
 clear hk hk2 hI
 go_upto_region 5 with fail
 go_cut [8] (fun v wx => v = .int .i64 I /\ Below w2.heap.size w2 wx)
 case first =>
  go_region_held3 (fun w' => w'.cell? ⟨w.heap.size, 0, none⟩ = some (.string h))
   (first | (with_reducible exact l3) | (exact l0) | (go_keep; done))
   (first
    | (go_at_call 98; refine (HKW.out _).mono ?_; rintro e w3 ⟨gw, rfl, hk3, hb3⟩; (have l3 : w3.cell? ⟨w.heap.size, 0, none⟩ = some (.string h) := (hb3.cell (p := ⟨w.heap.size, 0, none⟩) hwz2).trans l0))
    | (go_at_call 97; refine (HKI.out gw _ (by exact hk3)).mono ?_; rintro e w4 ⟨rfl, e4⟩; subst e4))
  all_goals
   go_wp2_with fail
   go_meet
   exact ⟨rfl, hb3.os, hb3.tape, hb3.output, hb3.size, hb3.block⟩
 case rest =>
 obtain ⟨rfl, hb3⟩ := hcut
 clear g0 g1 g2 g3 g4 g5 g6 g7 g8 z0 z1 z2 z3 z4 z5 z6 z7 z8 hlt
 clear l0
 generalize wc = w3 at hb3 ⊢
 have HF3 := Lib.hid (HF2.out.below hb3)
 have HW3 := Lib.hid (HW.out.below hb3)
 have HB3 := Lib.hid (hB2.trans (hb3.mono (by have := hB2.size; omega)))
 have HS3 := Lib.hid (HKs2.out.trans (Ks.of (Kw.of hb3)))
 have hk0 : kindW h = 0 := HKZ.out
 have hI0 : ¬ (0 : Int) < I := by
  have := HID.out
  rw [this]
  split
  ·omega
  ·rw [if_neg (fun k => k hk0)]; omega
 have HOn := Lib.hid (show O = none by rw [HO1.out, if_neg (fun k => k.1 hk0)])
 clear hk0
 go_wp2
 go_ret
 exact RetFL.no HOn.out HB3.out HS3.out
end Go.Proofs.YtbnjejenejoibaaGreatDoor
