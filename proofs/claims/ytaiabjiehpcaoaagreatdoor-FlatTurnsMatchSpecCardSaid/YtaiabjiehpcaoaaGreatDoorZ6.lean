
/- The walk of lossesOf. (Printed by genZ6.py.) -/
import Derived.Test.YtaiabjiehpcaoaaGreatDoorZ5
namespace Go.Proofs.YtaiabjiehpcaoaaGreatDoor
open Go.RowKit Limb Nmb Work
set_option linter.unusedVariables false
set_option linter.unusedSimpArgs false
def losL (x : Loss) : List Value := [.string x.tag, .string x.name, .int .i64 x.kind]
def losC (l : List Loss) : List Value := l.flatMap losL
theorem losC_app (l m : List Loss) : losC l ++ losC m = losC (l ++ m) := by simp [losC]
theorem losC_snoc (l : List Loss) (x : Loss) : losC l ++ losL x = losC (l ++ [x]) := by simp [losC]
theorem losC_len (l : List Loss) : (losC l).length = l.length * 3 := by
 induction l with
 | nil => rfl
 | cons s l ih => unfold losC at *; rw [List.flatMap_cons, List.length_append, ih]; simp [losL]; omega
theorem losC_one (l : List Loss) : ∀ u ∈ losC l, u.oneCell' = true := by
 intro u hu
 unfold losC at hu
 obtain ⟨x, -, hx⟩ := List.mem_flatMap.1 hu
 unfold losL at hx
 simp at hx
 rcases hx with rfl | rfl | rfl <;> rfl
def Los (w : World) (A : Option Addr) (l : List Loss) : Prop := 0 < l.length -> ∃ b off, A = some ⟨b, off, none⟩ /\ b < w.heap.size /\ ∀ j u, (losC l)[j]? = some u -> w.cell? ⟨b, off + j, none⟩ = some u
theorem Los.below {w w' : World} {A : Option Addr} {l : List Loss} (h : Los w A l) (hb : Below w.heap.size w w') : Los w' A l := fun hn => by
 obtain ⟨b, off, e, hl, hc⟩ := h hn
 exact ⟨b, off, e, Nat.lt_of_lt_of_le hl hb.size, fun j u hj => (hb.cell (p := ⟨b, off + j, none⟩) hl).trans (hc j u hj)⟩
theorem own_los {w : World} {B n c : Nat} {A : Option Addr} {l : List Loss} (h : w.ownsRow B 35 3 (.slice A n c) n (losC l)) (hn : l.length = n) : Los w A l := fun h0 => by
 obtain ⟨g, e, -, hl, hc⟩ := own_rowF h (by omega)
 refine ⟨g, 0, e, hl, fun j u hj => ?_⟩
 have hlt : j < (losC l).length := by
  rcases Nat.lt_or_ge j (losC l).length with h | h
  ·exact h
  ·rw [List.getElem?_eq_none h] at hj; cases hj
 rw [losC_len] at hlt
 rw [Nat.zero_add, hc j (by omega), hj]
theorem new_los {w : World} {g : Nat} {x : Loss} (h : w.heap[g]? = some (.cells #[.string x.tag, .string x.name, .int .i64 x.kind] 35 (0, 0))) : Los w (some ⟨g, 0, none⟩) [x] := fun _ => by
 refine ⟨g, 0, rfl, lt_heap h, fun j u hj => ?_⟩
 rw [Nat.zero_add, cell_of_row _ _ _ _ _ _ h]
 simpa [losC, losL] using hj
theorem Tryz.infoLos : (Tryz.prog.info? 35).map (fun i => (i.zero, i.size, i.bytes)) = some (some (.agg #[.string ⟨#[]⟩, .string ⟨#[]⟩, .int .i64 0]), 3, 40) := by kernel_rfl
def RetLoss (l : List Loss) (w : World) (e : Ending) (w' : World) : Prop := ∃ A c, e = .returned (.slice A l.length c) /\ Los w' A l /\ Below w.heap.size w w'
theorem RetLoss.of {l : List Loss} {w w' : World} {A : Option Addr} {n c : Nat} (hn : l.length = n) (hl : Los w' A l) (hb : Below w.heap.size w w') : RetLoss l w (.returned (.slice A n c)) w' := ⟨A, c, by rw [hn], hl, hb⟩
set_option maxHeartbeats 4000000 in
set_option maxRecDepth 100000 in
theorem losses_c (f g : Fmt) (A B : Option Addr) (n k cp cq : Nat) (tag : ByteArray) (c : Col) (K : RKd) (KA : Option Addr) (KC : Nat) (w : World) (hK : Cols w KA K.fields) (hc : c.kind = 2 -> 0 <= c.places /\ c.places <= 9) (ho : ∀ j, j < K.fields.length -> (cA K.fields j).kind = 2 -> 0 <= (cA K.fields j).places /\ (cA K.fields j).places <= 9) :
  Calls Tryz.prog 31 #[.agg #[.int .u8 f.mark, .int .u8 f.quote, .slice A n cp, .string f.head, .string f.tail, .string f.count, .string f.sum], .agg #[.int .u8 g.mark, .int .u8 g.quote, .slice B k cq, .string g.head, .string g.tail, .string g.count, .string g.sum], .string tag, colG c, kindG K KA KC] w (RetLoss (lossesF f g tag c K) w) := by
 obtain ⟨i0, hi, hz0, hz1, hz2⟩ := info_parts Tryz.infoLos
 have HCA := Lib.hid (fun w h => colat_c K KA KC c.name w h)
 have HLO := Lib.hid (fun o w h => loses_c f g A B n k cp cq c o w hc h)
 have HIX := Lib.hid (ixF_spec (nameIs c.name) K.fields)
 have HO := Lib.hid ho; have HK := Lib.hid hK
 obtain ⟨R, hR⟩ : ∃ x, lossesF f g tag c K = x := ⟨_, rfl⟩
 have HR := Lib.hid (show (if ixF (nameIs c.name) K.fields < 0 then [⟨tag, c.name, 2⟩]
  else if (cA K.fields (ixF (nameIs c.name) K.fields).toNat).kind ≠ c.kind then [⟨tag, c.name, 3⟩]
  else (if (cA K.fields (ixF (nameIs c.name) K.fields).toNat).need = true /\ c.need = false then [⟨tag, c.name, 4⟩] else []) ++
   (if lossB f g c (cA K.fields (ixF (nameIs c.name) K.fields).toNat) = true then [⟨tag, c.name, 5⟩] else [])) = R from hR)
 rw [hR]
 obtain ⟨LB, hLB⟩ : ∃ x, lossB f g c = x := ⟨_, rfl⟩
 rw [hLB] at HR
 have HLO : Hid (∀ o w, (c.kind = 2 -> 0 <= o.places /\ o.places <= 9) -> Calls Tryz.prog 60 #[.agg #[.int .u8 f.mark, .int .u8 f.quote, .slice A n cp, .string f.head, .string f.tail, .string f.count, .string f.sum], .agg #[.int .u8 g.mark, .int .u8 g.quote, .slice B k cq, .string g.head, .string g.tail, .string g.count, .string g.sum], colG c, colG o] w (RetB (LB o) w)) := by rw [<- hLB]; exact HLO
 clear hR hK hc ho hLB
 unfold kindG at HCA ⊢
 unfold colG RetB at HLO
 unfold colG
 obtain ⟨fm, fq, fks, fd, ft, fc, fs0⟩ := f
 obtain ⟨gm, gq, gks, gd, gt, gc, gs⟩ := g
 obtain ⟨cn, ck, cw, cpl, cm, cr, cl, ce⟩ := c
 obtain ⟨kt, fs, km, ku⟩ := K
 simp only at HCA HLO HIX HO HK HR ⊢
 obtain ⟨nf, hnf⟩ : ∃ x, fs.length = x := ⟨_, rfl⟩
 have HNF := Lib.hid hnf
 rw [hnf] at HCA ⊢
 clear hnf
 have h1 := heap_old (heap_old (heap_old (heap_new w (.cells #[.int .u8 fm, .int .u8 fq, .slice A n cp, .string fd, .string ft, .string fc, .string fs0] 24) rfl) (.cells #[.int .u8 gm, .int .u8 gq, .slice B k cq, .string gd, .string gt, .string gc, .string gs] 24)) (.cells #[.string cn, .int .i64 ck, .int .i64 cw, .int .i64 cpl, .int .i64 cm, .bool cr, .int .u8 cl, .bool ce] 60)) (.cells #[.string kt, .slice KA nf KC, .int .i64 km, .string ku] 52)
 have h2 := heap_old (heap_old (heap_new (w.alloc (.cells #[.int .u8 fm, .int .u8 fq, .slice A n cp, .string fd, .string ft, .string fc, .string fs0] 24)) (.cells #[.int .u8 gm, .int .u8 gq, .slice B k cq, .string gd, .string gt, .string gc, .string gs] 24) (g := w.heap.size + 1) (by simp)) (.cells #[.string cn, .int .i64 ck, .int .i64 cw, .int .i64 cpl, .int .i64 cm, .bool cr, .int .u8 cl, .bool ce] 60)) (.cells #[.string kt, .slice KA nf KC, .int .i64 km, .string ku] 52)
 have h3 := heap_old (heap_new ((w.alloc (.cells #[.int .u8 fm, .int .u8 fq, .slice A n cp, .string fd, .string ft, .string fc, .string fs0] 24)).alloc (.cells #[.int .u8 gm, .int .u8 gq, .slice B k cq, .string gd, .string gt, .string gc, .string gs] 24)) (.cells #[.string cn, .int .i64 ck, .int .i64 cw, .int .i64 cpl, .int .i64 cm, .bool cr, .int .u8 cl, .bool ce] 60) (g := w.heap.size + 1 + 1) (by simp)) (.cells #[.string kt, .slice KA nf KC, .int .i64 km, .string ku] 52)
 have h4 := heap_new (((w.alloc (.cells #[.int .u8 fm, .int .u8 fq, .slice A n cp, .string fd, .string ft, .string fc, .string fs0] 24)).alloc (.cells #[.int .u8 gm, .int .u8 gq, .slice B k cq, .string gd, .string gt, .string gc, .string gs] 24)).alloc (.cells #[.string cn, .int .i64 ck, .int .i64 cw, .int .i64 cpl, .int .i64 cm, .bool cr, .int .u8 cl, .bool ce] 60)) (.cells #[.string kt, .slice KA nf KC, .int .i64 km, .string ku] 52) (g := w.heap.size + 1 + 1 + 1) (by simp)
 have hB : Below w.heap.size w ((((w.alloc (.cells #[.int .u8 fm, .int .u8 fq, .slice A n cp, .string fd, .string ft, .string fc, .string fs0] 24)).alloc (.cells #[.int .u8 gm, .int .u8 gq, .slice B k cq, .string gd, .string gt, .string gc, .string gs] 24)).alloc (.cells #[.string cn, .int .i64 ck, .int .i64 cw, .int .i64 cpl, .int .i64 cm, .bool cr, .int .u8 cl, .bool ce] 60)).alloc (.cells #[.string kt, .slice KA nf KC, .int .i64 km, .string ku] 52)) := by go_grown
 go_enter Tryz.func31, Tryz.ntmps31
 go_upto_region 1 with fail
 generalize (((w.alloc (.cells #[.int .u8 fm, .int .u8 fq, .slice A n cp, .string fd, .string ft, .string fc, .string fs0] 24)).alloc (.cells #[.int .u8 gm, .int .u8 gq, .slice B k cq, .string gd, .string gt, .string gc, .string gs] 24)).alloc (.cells #[.string cn, .int .i64 ck, .int .i64 cw, .int .i64 cpl, .int .i64 cm, .bool cr, .int .u8 cl, .bool ce] 60)).alloc (.cells #[.string kt, .slice KA nf KC, .int .i64 km, .string ku] 52) = w1 at h1 h2 h3 h4 hB ⊢
 have HB1 := Lib.hid hB; have H1 := Lib.hid h1; have H2 := Lib.hid h2; have H3 := Lib.hid h3; have H4 := Lib.hid h4
 clear hB h1 h2 h3 h4
 obtain ⟨⟨x0, x1, x2, x3, x4, x5, x6, x7⟩, -⟩ := obox8 H3.out
 obtain ⟨⟨y0, y1, y2, y3⟩, -, -⟩ := obox4 H4.out
 go_wp2_with fail
 refine (HCA.out _ (HK.out.below HB1.out)).mono ?_
 rintro _ w2 ⟨rfl, hb2⟩
 have HB2 := Lib.hid (below_then hb2 HB1.out HB1.out.size)
 have K1 := Lib.hid (heap_below H1.out hb2); have K2 := Lib.hid (heap_below H2.out hb2); have K3 := Lib.hid (heap_below H3.out hb2); have K4 := Lib.hid (heap_below H4.out hb2)
 clear x0 x1 x2 x3 x4 x5 x6 x7 y0 y1 y2 y3 H1 H2 H3 H4 HB1 hb2
 obtain ⟨⟨x0, x1, x2, x3, x4, x5, x6, x7⟩, -⟩ := obox8 K3.out
 rcases HIX.out with ⟨e1, -⟩ | ⟨ic, hic, e1, -, -⟩
 ·have HE := Lib.hid (show R = [⟨tag, cn, 2⟩] by rw [<- HR.out, e1]; rfl)
  rw [e1]
  clear e1 HIX HR
  have hN := heap_new w2 (.cells #[.string tag, .string cn, .int .i64 2] 35) rfl
  have HB3 : Hid (Below w.heap.size w (w2.alloc (.cells #[.string tag, .string cn, .int .i64 2] 35))) := Lib.hid (HB2.out.alloc HB2.out.size _)
  have HN := Lib.hid hN
  clear hN
  go_wp2
  go_ret
  rw [HE.out]
  exact RetLoss.of rfl (new_los (x := ⟨tag, cn, 2⟩) HN.out) HB3.out
 obtain ⟨cb, co, rfl, hcb, d0, d1, d2, d3, d4, d5, d6, d7⟩ := (HK.out.below HB2.out).cells (j := ic) hic
 have HO2 := Lib.hid (HO.out ic hic)
 have HR2 := Lib.hid (show (if (cA fs ic).kind ≠ ck then [⟨tag, cn, 3⟩] else (if (cA fs ic).need = true /\ ce = false then [⟨tag, cn, 4⟩] else []) ++ (if LB (cA fs ic) = true then [⟨tag, cn, 5⟩] else [])) = R by
  have h := HR.out
  rw [e1, if_neg (by omega), Int.toNat_natCast] at h
  exact h)
 have hicn : ic < nf := by rw [<- HNF.out]; exact hic
 rw [e1]
 obtain ⟨O, hOO⟩ : ∃ x, cA fs ic = x := ⟨_, rfl⟩
 rw [hOO] at d0 d1 d2 d3 d4 d5 d6 d7 HO2 HR2
 have HLO2 := Lib.hid (fun w h => HLO.out O w h)
 clear e1 HIX HR hOO hic HLO HO HK HCA
 obtain ⟨on, ok, ow, op, om, or, ol, oe⟩ := O
 simp only at d0 d1 d2 d3 d4 d5 d6 d7 HO2 HR2 HLO2
 obtain ⟨⟨y0, y1, y2, y3⟩, -, -⟩ := obox4 K4.out
 have G1 := Lib.hid (heap_old K1.out (.cells #[.string on, .int .i64 ok, .int .i64 ow, .int .i64 op, .int .i64 om, .bool or, .int .u8 ol, .bool oe] 60)); have G2 := Lib.hid (heap_old K2.out (.cells #[.string on, .int .i64 ok, .int .i64 ow, .int .i64 op, .int .i64 om, .bool or, .int .u8 ol, .bool oe] 60)); have G3 := Lib.hid (heap_old K3.out (.cells #[.string on, .int .i64 ok, .int .i64 ow, .int .i64 op, .int .i64 om, .bool or, .int .u8 ol, .bool oe] 60))
 have G5 := Lib.hid (heap_new w2 (.cells #[.string on, .int .i64 ok, .int .i64 ow, .int .i64 op, .int .i64 om, .bool or, .int .u8 ol, .bool oe] 60) rfl)
 have HB3 : Hid (Below w.heap.size w (w2.alloc (.cells #[.string on, .int .i64 ok, .int .i64 ow, .int .i64 op, .int .i64 om, .bool or, .int .u8 ol, .bool oe] 60))) := Lib.hid (HB2.out.alloc HB2.out.size _)
 go_upto_region 5 with fail
 obtain ⟨D, hD⟩ : ∃ x, w2.heap.size = x := ⟨_, rfl⟩
 rw [hD] at G5
 try rw [hD]
 generalize w2.alloc (.cells #[.string on, .int .i64 ok, .int .i64 ow, .int .i64 op, .int .i64 om, .bool or, .int .u8 ol, .bool oe] 60) = w3 at G1 G2 G3 G5 HB3 ⊢
 clear hD d0 d1 d2 d3 d4 d5 d6 d7 hcb x0 x1 x2 x3 x4 x5 x6 x7 y0 y1 y2 y3 K1 K2 K3 K4 HB2
 obtain ⟨⟨x0, x1, x2, x3, x4, x5, x6, x7⟩, -⟩ := obox8 G3.out
 obtain ⟨⟨z0, z1, z2, z3, z4, z5, z6, z7⟩, -⟩ := obox8 G5.out
 by_cases hk : ok = ck
 case neg =>
  have HE := Lib.hid (show R = [⟨tag, cn, 3⟩] by rw [<- HR2.out, if_pos hk])
  have hk2 : (ok != ck) = true := by simpa using hk
  clear hk
  have HN := Lib.hid (heap_new w3 (.cells #[.string tag, .string cn, .int .i64 3] 35) rfl)
  have HB4 : Hid (Below w.heap.size w (w3.alloc (.cells #[.string tag, .string cn, .int .i64 3] 35))) := Lib.hid (HB3.out.alloc HB3.out.size _)
  go_wp2
  go_ret
  rw [HE.out]
  exact RetLoss.of rfl (new_los (x := ⟨tag, cn, 3⟩) HN.out) HB4.out
 subst hk
 have HR3 := Lib.hid (show (if oe = true /\ ce = false then [⟨tag, cn, 4⟩] else []) ++ (if LB ⟨on, ok, ow, op, om, or, ol, oe⟩ = true then [⟨tag, cn, 5⟩] else []) = R from (if_neg (fun h => h rfl)).symm.trans HR2.out)
 obtain ⟨X, hX⟩ : ∃ x, LB ⟨on, ok, ow, op, om, or, ol, oe⟩ = x := ⟨_, rfl⟩
 have HLO3 := Lib.hid (fun w => HLO2.out w HO2.out)
 rw [hX] at HR3 HLO3
 clear hX HLO2 HR2 HO2
 have hz3 := HB3.out.size
 have hz3' := hz3
 cases oe with
 | false =>
  have hl : (if (false : Bool) = true /\ ce = false then [⟨tag, cn, 4⟩] else []) = ([] : List Loss) := if_neg (fun h => by cases h.1)
  have hown : w3.ownsRow w.heap.size 35 3 (.slice none 0 0) ([] : List Loss).length (losC []) := World.ownsRow_nil _ _ _ _
  have q1 := G1.out; have q2 := G2.out; have q3 := G3.out; have q5 := G5.out; have hb4 := HB3.out
  go_upto_region 10 with fail
  generalize w3 = w4 at hown q1 q2 q3 q5 hb4 ⊢
  have HL := Lib.hid hl; have HOW := Lib.hid hown; have HB4 := Lib.hid hb4; have Q1 := Lib.hid q1; have Q2 := Lib.hid q2; have Q3 := Lib.hid q3; have Q5 := Lib.hid q5
  clear hl hown q1 q2 q3 q5 hb4 x0 x1 x2 x3 x4 x5 x6 x7 z0 z1 z2 z3 z4 z5 z6 z7 G1 G2 G3 G5 HB3 hz3
  obtain ⟨⟨a0, a1, a2, a3, a4, a5, a6⟩, -⟩ := obox7 Q1.out; obtain ⟨⟨b0, b1, b2, b3, b4, b5, b6⟩, -⟩ := obox7 Q2.out
  obtain ⟨⟨x0, x1, x2, x3, x4, x5, x6, x7⟩, -⟩ := obox8 Q3.out; obtain ⟨⟨z0, z1, z2, z3, z4, z5, z6, z7⟩, -⟩ := obox8 Q5.out
  go_wp2_with fail
  refine (HLO3.out _).mono ?_
  rintro _ w5 ⟨rfl, hb5⟩
  have HB5 := Lib.hid (below_then hb5 HB4.out HB4.out.size)
  have HO5 := Lib.hid (own_below HOW.out hb5)
  obtain ⟨⟨v0, -, -, -, -, -, -, -⟩, -⟩ := obox8 (heap_below Q3.out hb5)
  clear a0 a1 a2 a3 a4 a5 a6 b0 b1 b2 b3 b4 b5 b6 x0 x1 x2 x3 x4 x5 x6 x7 z0 z1 z2 z3 z4 z5 z6 z7 hb5 Q1 Q2 Q3 Q5 HB4 HOW
  cases X with
  | false =>
   have HE := Lib.hid (show R = [] from HR3.out.symm.trans (by rw [HL.out, if_neg (by decide)]; exact List.append_nil _))
   go_wp2
   go_ret
   rw [HE.out]
   exact RetLoss.of rfl (own_los HO5.out rfl) HB5.out
  | true =>
   have HE := Lib.hid (show R = [] ++ [⟨tag, cn, 5⟩] from HR3.out.symm.trans (by rw [HL.out, if_pos rfl]))
   have hz5 := HB5.out.size
   go_wp2_with (at_builtin; refine wpList_zpush rfl _ _ 30 rfl w.heap.size 35 i0 (.agg #[.string ⟨#[]⟩, .string ⟨#[]⟩, .int .i64 0]) 3 40 Tryz.underlying30 hi hz0 hz1 hz2 rfl (by decide) (.slice none 0 0) 0 (losC []) rfl HO5.out [.string tag, .string cn, .int .i64 5] rfl rfl (by intro u hu; simp at hu; rcases hu with rfl | rfl | rfl <;> rfl) (by unfold maxLen; omega) (by omega) hz5 ?_; intro A8 c8 w7 hown7 hg7)
   have HB7 := Lib.hid (HB5.out.grown hg7 hz5 (fun j hj => (HO5.out.lt j hj).1))
   have HO7 := Lib.hid (show w7.ownsRow w.heap.size 35 3 (.slice A8 (0 + 1) c8) (0 + 1) (losC ([] ++ [⟨tag, cn, 5⟩])) by rw [<- losC_snoc]; exact hown7)
   go_ret
   rw [HE.out]
   exact RetLoss.of rfl (own_los HO7.out rfl) HB7.out
 | true =>
  cases ce with
  | true =>
   have hl : (if (true : Bool) = true /\ (true : Bool) = false then [⟨tag, cn, 4⟩] else []) = ([] : List Loss) := if_neg (fun h => by cases h.2)
   have hown : w3.ownsRow w.heap.size 35 3 (.slice none 0 0) ([] : List Loss).length (losC []) := World.ownsRow_nil _ _ _ _
   have q1 := G1.out; have q2 := G2.out; have q3 := G3.out; have q5 := G5.out; have hb4 := HB3.out
   go_upto_region 10 with fail
   generalize w3 = w4 at hown q1 q2 q3 q5 hb4 ⊢
   have HL := Lib.hid hl; have HOW := Lib.hid hown; have HB4 := Lib.hid hb4; have Q1 := Lib.hid q1; have Q2 := Lib.hid q2; have Q3 := Lib.hid q3; have Q5 := Lib.hid q5
   clear hl hown q1 q2 q3 q5 hb4 x0 x1 x2 x3 x4 x5 x6 x7 z0 z1 z2 z3 z4 z5 z6 z7 G1 G2 G3 G5 HB3 hz3
   obtain ⟨⟨a0, a1, a2, a3, a4, a5, a6⟩, -⟩ := obox7 Q1.out; obtain ⟨⟨b0, b1, b2, b3, b4, b5, b6⟩, -⟩ := obox7 Q2.out
   obtain ⟨⟨x0, x1, x2, x3, x4, x5, x6, x7⟩, -⟩ := obox8 Q3.out; obtain ⟨⟨z0, z1, z2, z3, z4, z5, z6, z7⟩, -⟩ := obox8 Q5.out
   go_wp2_with fail
   refine (HLO3.out _).mono ?_
   rintro _ w5 ⟨rfl, hb5⟩
   have HB5 := Lib.hid (below_then hb5 HB4.out HB4.out.size)
   have HO5 := Lib.hid (own_below HOW.out hb5)
   obtain ⟨⟨v0, -, -, -, -, -, -, -⟩, -⟩ := obox8 (heap_below Q3.out hb5)
   clear a0 a1 a2 a3 a4 a5 a6 b0 b1 b2 b3 b4 b5 b6 x0 x1 x2 x3 x4 x5 x6 x7 z0 z1 z2 z3 z4 z5 z6 z7 hb5 Q1 Q2 Q3 Q5 HB4 HOW
   cases X with
   | false =>
    have HE := Lib.hid (show R = [] from HR3.out.symm.trans (by rw [HL.out, if_neg (by decide)]; exact List.append_nil _))
    go_wp2
    go_ret
    rw [HE.out]
    exact RetLoss.of rfl (own_los HO5.out rfl) HB5.out
   | true =>
    have HE := Lib.hid (show R = [] ++ [⟨tag, cn, 5⟩] from HR3.out.symm.trans (by rw [HL.out, if_pos rfl]))
    have hz5 := HB5.out.size
    go_wp2_with (at_builtin; refine wpList_zpush rfl _ _ 30 rfl w.heap.size 35 i0 (.agg #[.string ⟨#[]⟩, .string ⟨#[]⟩, .int .i64 0]) 3 40 Tryz.underlying30 hi hz0 hz1 hz2 rfl (by decide) (.slice none 0 0) 0 (losC []) rfl HO5.out [.string tag, .string cn, .int .i64 5] rfl rfl (by intro u hu; simp at hu; rcases hu with rfl | rfl | rfl <;> rfl) (by unfold maxLen; omega) (by omega) hz5 ?_; intro A8 c8 w7 hown7 hg7)
    have HB7 := Lib.hid (HB5.out.grown hg7 hz5 (fun j hj => (HO5.out.lt j hj).1))
    have HO7 := Lib.hid (show w7.ownsRow w.heap.size 35 3 (.slice A8 (0 + 1) c8) (0 + 1) (losC ([] ++ [⟨tag, cn, 5⟩])) by rw [<- losC_snoc]; exact hown7)
    go_ret
    rw [HE.out]
    exact RetLoss.of rfl (own_los HO7.out rfl) HB7.out
  | false =>
   have HO0 : Hid (w3.ownsRow w.heap.size 35 3 (.slice none 0 0) 0 (losC [])) := Lib.hid (World.ownsRow_nil _ _ _ _)
   have hl : (if (true : Bool) = true /\ (false : Bool) = false then [⟨tag, cn, 4⟩] else []) = ([⟨tag, cn, 4⟩] : List Loss) := if_pos ⟨rfl, rfl⟩
   go_upto_region 10 with (at_builtin; refine wpList_zpush rfl _ _ 30 rfl w.heap.size 35 i0 (.agg #[.string ⟨#[]⟩, .string ⟨#[]⟩, .int .i64 0]) 3 40 Tryz.underlying30 hi hz0 hz1 hz2 rfl (by decide) (.slice none 0 0) 0 (losC []) rfl HO0.out [.string tag, .string cn, .int .i64 4] rfl rfl (by intro u hu; simp at hu; rcases hu with rfl | rfl | rfl <;> rfl) (by unfold maxLen; omega) (by omega) hz3 ?_; intro A7 c7 w7 hown7 hg7)
   have gg : ∀ {g' : Nat} {o : Obj}, w3.heap[g']? = some o -> w7.heap[g']? = some o := fun h => (hg7.block _ (lt_heap h) (fun e => by cases e)).trans h
   have hown : w7.ownsRow w.heap.size 35 3 (.slice A7 1 c7) ([⟨tag, cn, 4⟩] : List Loss).length (losC [⟨tag, cn, 4⟩]) := by simpa [losC, losL] using hown7
   have q1 := gg G1.out; have q2 := gg G2.out; have q3 := gg G3.out; have q5 := gg G5.out; have hb4 := HB3.out.grown hg7 hz3 (fun j hj => by cases hj)
   clear hg7 gg hown7 HO0
   generalize w7 = w4 at hown q1 q2 q3 q5 hb4 ⊢
   have HL := Lib.hid hl; have HOW := Lib.hid hown; have HB4 := Lib.hid hb4; have Q1 := Lib.hid q1; have Q2 := Lib.hid q2; have Q3 := Lib.hid q3; have Q5 := Lib.hid q5
   clear hl hown q1 q2 q3 q5 hb4 x0 x1 x2 x3 x4 x5 x6 x7 z0 z1 z2 z3 z4 z5 z6 z7 G1 G2 G3 G5 HB3 hz3
   obtain ⟨⟨a0, a1, a2, a3, a4, a5, a6⟩, -⟩ := obox7 Q1.out; obtain ⟨⟨b0, b1, b2, b3, b4, b5, b6⟩, -⟩ := obox7 Q2.out
   obtain ⟨⟨x0, x1, x2, x3, x4, x5, x6, x7⟩, -⟩ := obox8 Q3.out; obtain ⟨⟨z0, z1, z2, z3, z4, z5, z6, z7⟩, -⟩ := obox8 Q5.out
   go_wp2_with fail
   refine (HLO3.out _).mono ?_
   rintro _ w5 ⟨rfl, hb5⟩
   have HB5 := Lib.hid (below_then hb5 HB4.out HB4.out.size)
   have HO5 := Lib.hid (own_below HOW.out hb5)
   obtain ⟨⟨v0, -, -, -, -, -, -, -⟩, -⟩ := obox8 (heap_below Q3.out hb5)
   clear a0 a1 a2 a3 a4 a5 a6 b0 b1 b2 b3 b4 b5 b6 x0 x1 x2 x3 x4 x5 x6 x7 z0 z1 z2 z3 z4 z5 z6 z7 hb5 Q1 Q2 Q3 Q5 HB4 HOW
   cases X with
   | false =>
    have HE := Lib.hid (show R = [⟨tag, cn, 4⟩] from HR3.out.symm.trans (by rw [HL.out, if_neg (by decide)]; exact List.append_nil _))
    go_wp2
    go_ret
    rw [HE.out]
    exact RetLoss.of rfl (own_los HO5.out rfl) HB5.out
   | true =>
    have HE := Lib.hid (show R = [⟨tag, cn, 4⟩] ++ [⟨tag, cn, 5⟩] from HR3.out.symm.trans (by rw [HL.out, if_pos rfl]))
    have hz5 := HB5.out.size
    go_wp2_with (at_builtin; refine wpList_zpush rfl _ _ 30 rfl w.heap.size 35 i0 (.agg #[.string ⟨#[]⟩, .string ⟨#[]⟩, .int .i64 0]) 3 40 Tryz.underlying30 hi hz0 hz1 hz2 rfl (by decide) (.slice A7 1 c7) 1 (losC [⟨tag, cn, 4⟩]) rfl HO5.out [.string tag, .string cn, .int .i64 5] rfl rfl (by intro u hu; simp at hu; rcases hu with rfl | rfl | rfl <;> rfl) (by unfold maxLen; omega) (by omega) hz5 ?_; intro A8 c8 w7 hown7 hg7)
    have HB7 := Lib.hid (HB5.out.grown hg7 hz5 (fun j hj => (HO5.out.lt j hj).1))
    have HO7 := Lib.hid (show w7.ownsRow w.heap.size 35 3 (.slice A8 (1 + 1) c8) (1 + 1) (losC ([⟨tag, cn, 4⟩] ++ [⟨tag, cn, 5⟩])) by rw [<- losC_snoc]; exact hown7)
    go_ret
    rw [HE.out]
    exact RetLoss.of rfl (own_los HO7.out rfl) HB7.out
end Go.Proofs.YtaiabjiehpcaoaaGreatDoor
