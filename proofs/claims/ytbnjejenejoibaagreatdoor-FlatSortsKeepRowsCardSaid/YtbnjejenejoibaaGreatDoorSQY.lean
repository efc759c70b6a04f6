/- The walks of checkOrder and CheckOrder. The walk of SameRows of the reference at rows that are a permutation of one another. -/
import Derived.Test.YtbnjejenejoibaaGreatDoorSQX
import Derived.Test.YtbnjejenejoibaaGreatDoorSQU
import Derived.Test.YtbnjejenejoibaaGreatDoorSQW
import Derived.BigRegion
-- merged: C8 SQY
namespace Go.Proofs.YtbnjejenejoibaaGreatDoor
open Go.RowKit Limb Nmb Work
set_option linter.unusedVariables false
set_option linter.unusedSimpArgs false
set_option maxHeartbeats 4000000 in
set_option maxRecDepth 100000 in
theorem chkorder_c (f : Fmt) (A : Option Addr) (cp : Nat) (FA : Nat -> Option Addr) (FC : Nat -> Nat) (L : Option Addr) (LC : Nat) (rs : List RowP) (RA : Nat -> Option Addr) (RC : Nat -> Nat) (w : World) (ho : Kinds w A f.kinds FA FC) (hf : checkF f = 0) (hl : RowsM w L rs RA RC) (hLC : rs.length <= LC) (hLM : LC <= 9223372036854775807) (hcp : f.kinds.length <= cp) (hm : 0 <= f.mark /\ f.mark <= 255) (ht : Tab w) :
  Calls Tryz.prog 24 #[fmtG f A cp, .slice L rs.length LC] w (RetNF (ordR f rs).1 (ordR f rs).2 w) := by
 have HCR := Lib.hid (fun w h h2 ht => chkrows_c f A cp FA FC L LC rs RA RC w h h2 hcp hf hm ht)
 have HRO := Lib.hid (fun i (hi : i < rs.length) w h h2 => roworder_c f A cp FA FC L LC rs RA RC i w h hf h2 hLC hi hLM)
 have HKI := Lib.hid ho; have HLM := Lib.hid hl; have HTB := Lib.hid ht
 have hnr := hl.len
 have HLB := Lib.hid (show lastB f rs = (decide (0 < rs.length) && decide ((rA rs (rs.length - 1)).tag = f.tail)) from rfl)
 obtain ⟨R, hR⟩ : ∃ x, ordR f rs = x := ⟨_, rfl⟩
 have HR := Lib.hid hR
 unfold ordR at HR
 rw [hR]
 clear ho hl ht hR hf
 obtain ⟨⟨RI, RE⟩, hRE⟩ : ∃ x, rowsF f rs = x := ⟨_, rfl⟩
 rw [hRE] at HCR HR
 obtain ⟨RO, hRO⟩ : ∃ x, rowO f rs = x := ⟨_, rfl⟩
 rw [hRO] at HRO HR
 obtain ⟨LB, hLB⟩ : ∃ x, lastB f rs = x := ⟨_, rfl⟩
 rw [hLB] at HLB HR
 clear hRE hRO hLB
 unfold RetNF at HCR ⊢
 unfold RetI at HRO
 obtain ⟨m, q, ks, hd, tl, ct, sm⟩ := f
 unfold fmtG at HCR HRO ⊢
 simp only at HCR HRO HKI HR HLB hcp ⊢
 obtain ⟨nk, hnk⟩ : ∃ x, ks.length = x := ⟨_, rfl⟩
 rw [hnk] at HCR HRO ⊢
 obtain ⟨nr, hnr2⟩ : ∃ x, rs.length = x := ⟨_, rfl⟩
 have HNR := Lib.hid hnr2
 rw [hnr2] at hnr hLC HCR HRO HR HLB ⊢
 clear hnk hnr2
 have hP := heap_new w (.cells #[.int .u8 m, .int .u8 q, .slice A nk cp, .string hd, .string tl, .string ct, .string sm] 24) rfl
 have hB1 : Below w.heap.size w (w.alloc (.cells #[.int .u8 m, .int .u8 q, .slice A nk cp, .string hd, .string tl, .string ct, .string sm] 24)) := by go_grown
 go_enter Tryz.func24, Tryz.ntmps24
 go_upto_region 1 with fail
 generalize w.alloc (.cells #[.int .u8 m, .int .u8 q, .slice A nk cp, .string hd, .string tl, .string ct, .string sm] 24) = w1 at hP hB1 ⊢
 have HW := Lib.hid (show ∀ wx, Below w1.heap.size w1 wx -> wx.heap[w.heap.size]? = some (.cells #[.int .u8 m, .int .u8 q, .slice A nk cp, .string hd, .string tl, .string ct, .string sm] 24 (0, 0)) /\ Kinds wx A ks FA FC /\ RowsM wx L rs RA RC /\ Tab wx /\ Below w.heap.size w wx from fun wx h => by
  have h2 := below_then h hB1 hB1.size
  exact ⟨heap_below hP h, HKI.out.below h2, HLM.out.below h2, HTB.out.below h2, h2⟩)
 clear hP hB1
 obtain ⟨q1, qk, ql, qt, qb⟩ := HW.out _ (Below.refl _ _)
 obtain ⟨⟨p0, p1, p2, p3, p4, p5, p6⟩, -⟩ := obox7 q1
 go_wp2_with fail
 refine (HCR.out _ qk ql qt).mono ?_
 rintro _ w2 ⟨rfl, hb2⟩
 have HB2 := Lib.hid hb2
 clear q1 qk ql qt qb p0 p1 p2 p3 p4 p5 p6 hb2 HCR
 have QB := Lib.hid (HW.out _ HB2.out).2.2.2.2
 by_cases h3 : RE = 0
 case neg =>
  have HE := Lib.hid (show R = (RI, RE) by rw [<- HR.out, if_pos h3])
  have h3a : (RE != 0) = true := by simpa using h3
  clear h3
  go_wp2
  go_ret2
  exact ⟨by rw [HE.out]; rfl, QB.out⟩
 have HR1 := Lib.hid ((if_neg (fun h => h h3)).symm.trans HR.out)
 subst h3
 clear HR QB
 go_wp2_with fail
 go_loopw [22] (fun x wr => ∃ j : Nat, j <= nr /\ x = .int .i64 (j : Int) /\ Hid (Below w1.heap.size w1 wr) /\ Hid (∀ t, t < j -> RO t = 0)) (fun x _ => nr - (intOf x).toNat)
 case atStart => exact ⟨0, Nat.zero_le _, rfl, HB2, Lib.hid (fun t h => absurd h (Nat.not_lt_zero _))⟩
 case round =>
  clear HB2
  obtain ⟨j, hj, rfl, HB, HJ⟩ := hrel
  obtain ⟨q1, qk, ql, -, qb⟩ := HW.out _ HB.out
  have QK := Lib.hid qk; have QL := Lib.hid ql; have QB := Lib.hid qb
  obtain ⟨⟨p0, p1, p2, p3, p4, p5, p6⟩, -⟩ := obox7 q1
  clear q1 qk ql qb
  rcases Nat.lt_or_ge j nr with hlt | hge
  ·have HRJ := Lib.hid (HRO.out j hlt)
   obtain ⟨e, he⟩ : ∃ x, RO j = x := ⟨_, rfl⟩
   have HRE := Lib.hid he
   rw [he] at HRJ
   clear he
   go_wp2_with fail
   refine (HRJ.out _ QK.out QL.out).mono ?_
   rintro _ w5 ⟨rfl, hb5⟩
   have HB5 := Lib.hid (below_then hb5 HB.out HB.out.size)
   have QB5 := Lib.hid (HW.out _ HB5.out).2.2.2.2
   clear p0 p1 p2 p3 p4 p5 p6 hb5 HB QK QL QB
   by_cases h0 : e = 0
   ·subst h0
    have HJ2 := Lib.hid (show ∀ t, t < j + 1 -> RO t = 0 from fun t ht => by
     rcases Nat.lt_or_ge t j with h | h
     ·exact HJ.out t h
     ·obtain rfl : t = j := by omega
      exact HRE.out)
    go_wp2
    go_roundw
    case rel => exact ⟨j + 1, by omega, by go_num, HB5, HJ2⟩
    case measure => simp [intOf]; omega
   ·have hfr := frF_hit (g := RO) (j := j) HJ.out (by rw [HRE.out]; exact h0) hlt
    rw [HRE.out] at hfr
    have HE := Lib.hid (show R = ((j : Int), e) by rw [<- HR1.out, hfr]; exact if_pos h0)
    have h0a : (e != 0) = true := by simpa using h0
    clear h0 hfr
    go_wp2
    go_ret2
    exact ⟨by rw [HE.out]; rfl, QB5.out⟩
  ·obtain rfl : j = nr := by omega
   have HR2 := Lib.hid (show (if tl ≠ ⟨#[]⟩ /\ LB = false then ((j : Int), (8 : Int)) else (0, 0)) = R by rw [<- HR1.out, frF_no HJ.out]; exact (if_neg (fun h => h rfl)).symm)
   have e5 := emp_dec tl
   by_cases ht0 : tl = ⟨#[]⟩
   ·have HE := Lib.hid (show R = (0, 0) by rw [<- HR2.out]; exact if_neg (fun h => h.1 ht0))
    rw [decide_eq_true ht0] at e5
    clear ht0
    go_wp2_with fail
    go_quiet (fail)
    go_wp2
    go_ret2
    exact ⟨by rw [HE.out]; rfl, QB.out.trans ⟨rfl, rfl, rfl, Nat.le_refl _, fun _ _ => rfl⟩⟩
   rw [decide_eq_false ht0] at e5
   rcases Nat.eq_zero_or_pos j with h0 | h0
   ·have HE := Lib.hid (show R = ((j : Int), 8) by rw [<- HR2.out]; exact if_pos ⟨ht0, by rw [HLB.out, decide_eq_false (by omega)]; rfl⟩)
    subst h0
    clear ht0
    go_wp2_with fail
    go_quiet (fail)
    go_wp2
    go_ret2
    exact ⟨by rw [HE.out]; rfl, QB.out.trans ⟨rfl, rfl, rfl, Nat.le_refl _, fun _ _ => rfl⟩⟩
   ·obtain ⟨n1, hn1⟩ : ∃ x, j - 1 = x := ⟨_, rfl⟩
    have hix : (j : Int) - 1 = (n1 : Int) := by omega
    have hwr : IntKind.i64.wrap ((n1 : Nat) : Int) = (n1 : Int) := IntWalk.i64_in _ (by omega)
    have hne : ((j : Int) == 0) = false := beq_eq_false_iff_ne.2 (by omega)
    have hnlt : n1 < j := by omega
    have hla := HLB.out
    rw [hn1, decide_eq_true h0, Bool.true_and] at hla
    obtain ⟨b, off, rfl, hbk, c0, c1⟩ := QL.out.cells (j := n1) (by rw [HNR.out]; exact hnlt)
    obtain ⟨rt, hrt⟩ : ∃ x, (rA rs n1).tag = x := ⟨_, rfl⟩
    rw [hrt] at c0 hla
    have e4 := bytes_dec rt tl
    have hlt3 : (n1 : Int) < (j : Int) := by omega
    have hlt4 : (0 : Int) <= (n1 : Int) := by omega
    clear c1 hrt hn1
    by_cases h4 : rt = tl
    ·have HE := Lib.hid (show R = (0, 0) by rw [<- HR2.out]; exact if_neg (fun h => by rw [hla, decide_eq_true h4] at h; cases h.2))
     rw [decide_eq_true h4] at e4
     clear h4 hla ht0
     go_wp2_with fail
     go_quiet (fail)
     go_wp2
     go_ret2
     exact ⟨by rw [HE.out]; rfl, QB.out.trans ⟨rfl, rfl, rfl, Nat.le_refl _, fun _ _ => rfl⟩⟩
    ·have HE := Lib.hid (show R = ((j : Int), 8) by rw [<- HR2.out]; exact if_pos ⟨ht0, by rw [hla]; exact decide_eq_false h4⟩)
     rw [decide_eq_false h4] at e4
     clear h4 hla ht0
     go_wp2_with fail
     go_quiet (fail)
     go_wp2
     go_ret2
     exact ⟨by rw [HE.out]; rfl, QB.out.trans ⟨rfl, rfl, rfl, Nat.le_refl _, fun _ _ => rfl⟩⟩
set_option maxHeartbeats 2000000 in
set_option maxRecDepth 100000 in
theorem CheckOrder_c (f : Fmt) (A : Option Addr) (cp : Nat) (FA : Nat -> Option Addr) (FC : Nat -> Nat) (L : Option Addr) (LC : Nat) (rs : List RowP) (RA : Nat -> Option Addr) (RC : Nat -> Nat) (w : World) (ho : Kinds w A f.kinds FA FC) (hl : RowsM w L rs RA RC) (hLC : rs.length <= LC) (hLM : LC <= 9223372036854775807) (hcp : f.kinds.length <= cp) (hm : 0 <= f.mark /\ f.mark <= 255) (hq : 0 <= f.quote /\ f.quote <= 255) (ht : Tab w) :
  Calls Tryz.prog 7 #[fmtG f A cp, .slice L rs.length LC] w (RetNF (ordF f rs).1 (ordF f rs).2 w) := by
 have HCH := Lib.hid (fun w h => check_c f A cp FA FC w h hcp hm hq)
 have HCR := Lib.hid (fun hf w h h2 ht => chkorder_c f A cp FA FC L LC rs RA RC w h hf h2 hLC hLM hcp hm ht)
 have HKI := Lib.hid ho; have HLM := Lib.hid hl; have HTB := Lib.hid ht
 obtain ⟨X, hX⟩ : ∃ x, checkF f = x := ⟨_, rfl⟩
 obtain ⟨⟨i, e⟩, hY⟩ : ∃ x, ordR f rs = x := ⟨_, rfl⟩
 obtain ⟨R, hR⟩ : ∃ x, ordF f rs = x := ⟨_, rfl⟩
 have HR := Lib.hid (show (if X ≠ 0 then (0, X) else (i, e)) = R by rw [<- hR]; unfold ordF; rw [hX, hY])
 rw [hX] at HCH HCR
 rw [hY] at HCR
 rw [hR]
 unfold RetNF at HCR ⊢
 unfold RetI at HCH
 simp only at HCR
 have hnr := hl.len
 clear ho hl ht hX hY hR
 obtain ⟨m, q, ks, hd, tl, ct, sm⟩ := f
 unfold fmtG at HCH HCR ⊢
 simp only at HCH HCR HKI hcp ⊢
 obtain ⟨n, hn⟩ : ∃ x, ks.length = x := ⟨_, rfl⟩
 rw [hn] at HCH HCR hcp ⊢
 clear hn
 have hF0 := heap_new w (.cells #[.int .u8 m, .int .u8 q, .slice A n cp, .string hd, .string tl, .string ct, .string sm] 24) rfl
 have hB0 : Below w.heap.size w (w.alloc (.cells #[.int .u8 m, .int .u8 q, .slice A n cp, .string hd, .string tl, .string ct, .string sm] 24)) := by go_grown
 obtain ⟨nr, hnr2⟩ : ∃ x, rs.length = x := ⟨_, rfl⟩
 rw [hnr2] at HCR hnr ⊢
 clear hnr2
 go_enter Tryz.func7, Tryz.ntmps7
 obtain ⟨⟨f0, f1, f2, f3, f4, f5, f6⟩, f7⟩ := obox7 hF0
 go_wp2_with fail
 refine (HCH.out _ (HKI.out.below hB0)).mono ?_
 rintro _ w2 ⟨rfl, hb2⟩
 have hF2 := heap_below hF0 hb2
 have hB2 := below_then hb2 hB0 hB0.size
 clear hF0 hb2 f0 f1 f2 f3 f4 f5 f6 f7 hB0
 obtain ⟨⟨f0, f1, f2, f3, f4, f5, f6⟩, f7⟩ := obox7 hF2
 by_cases h0 : X = 0
 ·subst h0
  have HE := Lib.hid (show R = (i, e) by rw [<- HR.out, if_neg (fun h => h rfl)])
  go_wp2_with fail
  refine (HCR.out trivial _ (HKI.out.below hB2) (HLM.out.below hB2) (HTB.out.below hB2)).mono ?_
  rintro _ w3 ⟨rfl, hb3⟩
  have hB3 := below_then hb3 hB2 hB2.size
  go_wp2
  go_ret2
  exact ⟨by rw [HE.out]; rfl, hB3⟩
 ·have HE := Lib.hid (show R = (0, X) by rw [<- HR.out, if_pos h0])
  have h0a : (X != 0) = true := by simpa using h0
  clear h0
  go_wp2
  go_ret2
  exact ⟨by rw [HE.out]; rfl, hB2⟩
theorem one_same (X Y : Option Addr) (c d : Nat) (r s : RowP) (RA RB : Nat -> Option Addr) (RC RD : Nat -> Nat) (w : World) (h : RowsM w X [r] RA RC) (h2 : RowsM w Y [s] RB RD) :
  Calls Tryz.prog 9 #[.slice X 1 c, .slice Y 1 d] w fun e w' => e = .returned (.bool (decide ([r] = [s]))) /\ ∃ q, w' = w.drewN q :=
 sameany_q X Y c d [r] [s] RA RB RC RD w h h2
def RestR (w wx : World) (a : List RowP) (j m c : Nat) (X : Option Addr) : Prop := ∃ l, RwsI w wx X m c l /\ l.Perm (a.drop j)
theorem RestR.lay {w wx : World} {a : List RowP} {j m c : Nat} {X : Option Addr} (h : RestR w wx a j m c X) (hm : m + j = a.length) (hj : j < a.length) :
  ∃ g l RA RC, X = some ⟨g, 0, none⟩ /\ 0 < m /\ m <= c /\ c <= 9223372036854775807 /\ l.length = m /\ w.heap.size <= g /\ g < wx.heap.size /\ wx.ownsRow w.heap.size 51 2 (.slice (some ⟨g, 0, none⟩) m c) m (rowsC 2 m (rowV l RA RC)) /\ (∀ k, k < l.length -> ∀ wy, Below w.heap.size w wy -> RowM wy (rA l k) (RA k) (RC k)) /\ Below w.heap.size w wx /\ l.Perm (a.drop j) := by
 obtain ⟨l, ⟨RA, RC, h1, h2, h3, h4⟩, h5⟩ := h
 have hc := own_cap h2
 obtain ⟨g, cap, e, hb, hl⟩ := h2.form (by omega)
 cases e
 exact ⟨g, l, RA, RC, rfl, by omega, hc.1, hc.2, h1, hb, hl, h2, h3, h4, h5⟩
theorem delete_step {w w5 w6 : World} {a l : List RowP} {RA : Nat -> Option Addr} {RC : Nat -> Nat} {j m c g i : Nat} (hm : m + j = a.length) (hl : l.length = m) (hi : i < m) (hg : w.heap.size <= g)
  (h3 : ∀ k, k < l.length -> ∀ wy, Below w.heap.size w wy -> RowM wy (rA l k) (RA k) (RC k)) (hb : Below w.heap.size w w5) (hp : (delI l i).Perm (a.drop (j + 1)))
  (ho : w6.ownsRow w.heap.size 51 2 (.slice (some ⟨g, 0, none⟩) (i + (m - (i + 1))) c) (i + (m - (i + 1))) ((rowsC 2 m (rowV l RA RC)).take (i * 2) ++ (rowsC 2 m (rowV l RA RC)).drop ((i + 1) * 2)))
  (hw : ∃ q w1, w6 = w1.setCells g ((i + (m - (i + 1))) * 2) [.string ⟨#[]⟩, .slice none 0 0] /\ (w5.drewN q).grownBy w1 (some g)) :
  RestR w w6 a (j + 1) (i + (m - (i + 1))) c (some ⟨g, 0, none⟩) /\ i + (m - (i + 1)) + (j + 1) = a.length := by
 have e : i + (m - (i + 1)) = m - 1 := by omega
 rw [e] at ho hw ⊢
 obtain ⟨q, w1, rfl, hg1⟩ := hw
 have hb1 : Below w.heap.size w w1 := (ybelow_dn hb q).grown hg1 (ybelow_dn hb q).size (by intro k hk; cases hk; exact hg)
 have hb6 : Below w.heap.size w (w1.setCells g ((m - 1) * 2) [.string ⟨#[]⟩, .slice none 0 0]) := by
  exact (hb1.setCell (p := ⟨g, (m - 1) * 2, none⟩) hg _).setCell (p := ⟨g, (m - 1) * 2 + 1, none⟩) hg _
 exact ⟨⟨delI l i, RwsI.del hl hi h3 ho hb6, hp⟩, by omega⟩
theorem rowC_one (l : List RowP) (RA : Nat -> Option Addr) (RC : Nat -> Nat) (n : Nat) : ∀ u ∈ rowsC 2 n (rowV l RA RC), u.oneCell' = true := fun u hu => by
 unfold rowsC at hu
 rw [List.mem_flatMap] at hu
 obtain ⟨j, -, hu⟩ := hu
 rw [List.mem_map] at hu
 obtain ⟨k, hk, rfl⟩ := hu
 rw [List.mem_range] at hk
 rcases (show k = 0 ∨ k = 1 by omega) with rfl | rfl <;> rfl
theorem same_step {w w7 wI : World} {g m c i q nv XC : Nat} {XA : Option Addr} {rt : ByteArray} {vs : List ByteArray} {r : RowP} {l : List RowP} {LA : Nat -> Option Addr} {LD : Nat -> Nat} (hnv : vs.length = nv) (hr : (⟨rt, vs⟩ : RowP) = r) (hlm : l.length = m) (hi : i < m) (hcm : c <= 9223372036854775807) (hmc : m <= c)
  (ho : w7.ownsRow w.heap.size 51 2 (.slice (some ⟨g, 0, none⟩) m c) m (rowsC 2 m (rowV l LA LD))) (h3 : ∀ k, k < l.length -> ∀ wy, Below w.heap.size w wy -> RowM wy (rA l k) (LA k) (LD k)) (hb7 : Below w.heap.size w w7) (hbi : Below w7.heap.size w7 wI) (hrj : ∀ wx, Below w.heap.size w wx -> RowM wx r XA XC) :
  Calls Tryz.prog 9 #[.slice (some ⟨wI.heap.size, 0, none⟩) 1 1, .slice (some ⟨g, i * 2, none⟩) 1 (c - i)] ((wI.alloc (.cells #[.string rt, .slice XA nv XC] 51)).drewN q) fun e w' => e = .returned (.bool (decide ([r] = [rA l i]))) /\ ∃ q', w' = (wI.alloc (.cells #[.string rt, .slice XA nv XC] 51)).drewN q' := by
 subst hnv hr hlm
 have hb8 : Below wI.heap.size wI (wI.alloc (.cells #[.string rt, .slice XA vs.length XC] 51)) := by go_grown
 have hb9 := ybelow_dn (below_then hb8 hbi hbi.size) q
 have hb10 := below_then hb9 hb7 hb7.size
 have hA : RowsM ((wI.alloc (.cells #[.string rt, .slice XA vs.length XC] 51)).drewN q) (some ⟨wI.heap.size, 0, none⟩) [⟨rt, vs⟩] (fun _ => XA) (fun _ => XC) :=
  RowsM.mk1 (r := ⟨rt, vs⟩) (heap_new wI (.cells #[.string rt, .slice XA vs.length XC] 51) rfl) (hrj _ hb10)
 have hL : RowsM ((wI.alloc (.cells #[.string rt, .slice XA vs.length XC] 51)).drewN q) (some ⟨g, 0, none⟩) l LA LD :=
  ⟨(own_rwsK ho).below hb9, fun k hk => h3 k hk _ hb10, by omega⟩
 refine (one_same _ _ 1 (c - i) ⟨rt, vs⟩ (rA l i) _ _ _ _ _ hA (hL.oneAt (X := some ⟨g, i * 2, none⟩) hi (fun b off e => by cases e; simp))).mono ?_
 rintro e w' ⟨rfl, q', rfl⟩
 exact ⟨rfl, q + q', World.drewN_drewN _ _ _⟩
set_option maxHeartbeats 4000000 in
set_option maxRecDepth 100000 in
theorem samerows_c (L M : Option Addr) (LC MC : Nat) (rs ss : List RowP) (RA SA : Nat -> Option Addr) (RC SC : Nat -> Nat) (w : World) (hl : RowsM w L rs RA RC) (hl2 : RowsM w M ss SA SC) (hz : ss.length * 40 <= 140737488355328) (hp : ss.Perm rs) :
  Calls Tryz.prog 8 #[.slice L rs.length LC, .slice M ss.length MC] w fun e w' => e = .returned (.bool true) /\ Below w.heap.size w w' := by
 have HCR := Lib.hid (cloneR_c ss SA SC M MC w hl2.rows hz)
 unfold RetCR at HCR
 have HL := Lib.hid hl
 have HL2 := Lib.hid hl2
 have HP := Lib.hid hp
 have hm := hl.len
 have HDL := Lib.hid (fun (B g n cap i j : Nat) (xs : List Value) (w : World) ho hij hlt hj hj1 h1 => delete1_a B g n cap i j xs w ho hij hlt hj hj1 h1)
 obtain ⟨n, hnn⟩ : ∃ x, rs.length = x := ⟨_, rfl⟩
 have hnn2 : ss.length = n := hp.length_eq.trans hnn
 have HN := Lib.hid hnn
 have HN2 := Lib.hid hnn2
 rw [hnn] at hm ⊢
 rw [hnn2] at HCR ⊢
 clear hl hl2 hp hnn hnn2 hz
 go_enter Tryz.func8, Tryz.ntmps8
 go_wp2_with fail
 refine HCR.out.mono ?_
 rintro _ w1 ⟨X, d, rfl, ho, hb⟩
 have HR1 := Lib.hid (show RestR w w1 rs 0 n d X from ⟨ss, ⟨SA, SC, HN2.out, ho, fun j hj wx hx => (HL2.out.each j hj).below hx, hb⟩, HP.out⟩)
 clear ho hb HCR
 go_wp2_with fail
 go_loopw [14, 5] (fun y y5 wx => ∃ (j m c : Nat) (X : Option Addr), m + j = n /\ y = .int .i64 j /\ y5 = .slice X m c /\ Hid (RestR w wx rs j m c X)) (fun y _ _ => n - (intOf y).toNat)
 case atStart => exact ⟨0, n, d, X, rfl, rfl, rfl, HR1⟩
 case round =>
  obtain ⟨j, m, c, X, hmj, rfl, rfl, HR⟩ := hrel
  rename World => wA
  rcases Nat.lt_or_ge j n with hlt | hge
  ·obtain ⟨g, l, LA, LD, rfl, hm0, hmc, hcm, hlm, hbg, hgw, ho, h3, hbw, hpl⟩ := HR.out.lay (by rw [HN.out]; exact hmj) (by rw [HN.out]; exact hlt)
   have HO := Lib.hid ho; have H3 := Lib.hid h3; have HB := Lib.hid hbw; have HPL := Lib.hid hpl; have HLM := Lib.hid hlm
   have HF := Lib.hid (fstI_perm (l := l) (a := rs) (j := j) (by rw [HN.out]; exact hlt) hpl)
   obtain ⟨b, off, rfl, hbl, c0, c1⟩ := (HL.out.below hbw).cells (j := j) (by rw [HN.out]; exact hlt)
   have HRJ := Lib.hid (fun wx (hx : Below w.heap.size w wx) => (HL.out.each j (by rw [HN.out]; exact hlt)).below hx)
   clear ho h3 hbw hpl hlm HR
   obtain ⟨r, hr⟩ : ∃ x, rA rs j = x := ⟨_, rfl⟩
   rw [hr] at c0 c1 HRJ HF
   obtain ⟨XA, hXA⟩ : ∃ x, RA j = x := ⟨_, rfl⟩
   obtain ⟨XC, hXC⟩ : ∃ x, RC j = x := ⟨_, rfl⟩
   rw [hXA, hXC] at c1 HRJ
   clear hr hXA hXC
   obtain ⟨rt, vs⟩ := r
   simp only at c0 c1
   obtain ⟨nv, hnv⟩ : ∃ x, vs.length = x := ⟨_, rfl⟩
   have HNV := Lib.hid hnv
   rw [hnv] at c1
   clear hnv
   have HR7 := Lib.hid (heap_new wA (.cells #[.string rt, .slice XA nv XC] 51) rfl)
   have hb7 : Below wA.heap.size wA (wA.alloc (.cells #[.string rt, .slice XA nv XC] 51)) := by go_grown
   have HO7 := Lib.hid (own_below HO.out hb7)
   have HB7 := Lib.hid (below_then hb7 HB.out HB.out.size)
   have hgr : g < wA.heap.size + 1 := by omega
   go_upto_region 5 with fail
   obtain ⟨rb, hrb⟩ : ∃ x, wA.heap.size = x := ⟨_, rfl⟩
   rw [hrb] at HR7
   try rw [hrb]
   generalize wA.alloc (.cells #[.string rt, .slice XA nv XC] 51) = w7 at HR7 HO7 HB7 ⊢
   clear hb7 hrb hgr hbl hgw c0 c1 HO HB
   go_wp2_with fail
   obtain ⟨r, hr⟩ : ∃ x : RowP, ⟨rt, vs⟩ = x := ⟨_, rfl⟩
   rw [hr] at HF HRJ
   go_loopw [20, 8] (fun y y8 wx => ∃ i : Nat, i <= m /\ y = .int .i64 i /\ y8 = .int .i64 (fstI l r i) /\ Hid (Below w7.heap.size w7 wx)) (fun y _ _ => m - (intOf y).toNat)
   case atStart => exact ⟨0, Nat.zero_le _, rfl, rfl, Lib.hid (Below.refl _ _)⟩
   case round =>
    obtain ⟨i, hi, rfl, rfl, HBI⟩ := hrel
    rename World => wI
    obtain ⟨F, hF⟩ : ∃ x, fstI l r i = x := ⟨_, rfl⟩
    have HFE := Lib.hid hF
    rw [hF]
    have hge := fstI_ge l r i
    rw [hF] at hge
    clear hF
    rcases Nat.lt_or_ge i m with hlt2 | hge2
    ·by_cases hneg : F < 0
     ·have HRI := Lib.hid (heap_below HR7.out HBI.out)
      obtain ⟨r0, r1, -, -, r2⟩ := box2 HRI.out
      have s1 : (i : Int) <= (i : Int) + 1 := by omega
      have s2 : (i : Int) + 1 <= (c : Int) := by omega
      have s3 : ¬ c = i := by omega
      go_wp2_with fail
      have HSM := Lib.hid (fun q => same_step (w := w) (w7 := w7) (wI := wI) (q := q) (i := i) HNV.out hr HLM.out hlt2 hcm hmc HO7.out H3.out HB7.out HBI.out HRJ.out)
      have hwr : IntKind.i64.wrap ((i : Int) + 1) = (i : Int) + 1 := IntWalk.i64_in _ (by omega)
      have hneg1 : fstI l r i < 0 := by rw [HFE.out]; exact hneg
      have HY : Hid ([r] = [rA l i] -> fstI l r (i + 1) = i) := Lib.hid (fstI_new hneg1)
      have HNO : Hid (¬ [r] = [rA l i] -> fstI l r (i + 1) = F) := Lib.hid (fun h => (fstI_no hneg1 h).trans HFE.out)
      obtain ⟨BB, hBB⟩ : ∃ x, decide ([r] = [rA l i]) = x := ⟨_, rfl⟩
      rw [hBB] at HSM
      have HBB := Lib.hid hBB
      have HB9 := Lib.hid (fun q => ybelow_dn (below_then (show Below wI.heap.size wI (wI.alloc (.cells #[.string rt, .slice XA nv XC] 51)) by go_grown) HBI.out HBI.out.size) q)
      clear hBB hneg1
      go_region_with (go_at_call 9; refine (HSM.out _).mono ?_; rintro _ w9 ⟨rfl, q9, rfl⟩)
      have HB10 := Lib.hid (HB9.out q9)
      generalize (wI.alloc (.cells #[.string rt, .slice XA nv XC] 51)).drewN q9 = w9 at HB10 ⊢
      clear r0 r1 r2 HSM HB9 HRI
      cases BB with
      | true =>
       have HE := Lib.hid (HY.out (of_decide_eq_true HBB.out))
       go_wp2
       go_roundw
       case rel => exact ⟨i + 1, by omega, by go_num, by rw [HE.out], HB10⟩
       case measure => simp [intOf]; omega
      | false =>
       have HE := Lib.hid (HNO.out (of_decide_eq_false HBB.out))
       go_wp2
       go_roundw
       case rel => exact ⟨i + 1, by omega, by go_num, by rw [HE.out], HB10⟩
       case measure => simp [intOf]; omega
     ·have hd : decide (F < 0) = false := decide_eq_false hneg
      have HE := Lib.hid (show fstI l r (i + 1) = F by rw [fstI_old (by rw [HFE.out]; omega), HFE.out])
      go_wp2_with fail
      go_quiet (fail)
      have HB10 := Lib.hid (ybelow_dn HBI.out nq)
      generalize wI.drewN nq = w9 at HB10 ⊢
      go_wp2
      go_roundw
      case rel => exact ⟨i + 1, by omega, by go_num, by rw [HE.out], HB10⟩
      case measure => simp [intOf]; omega
    ·obtain rfl : i = m := by omega
     have h0 := HF.out
     rw [HLM.out, HFE.out] at h0
     obtain ⟨h1, h2, h4⟩ := h0
     obtain ⟨p, hp⟩ : ∃ p : Nat, F = (p : Int) := ⟨F.toNat, by omega⟩
     subst hp
     rw [Int.toNat_natCast] at h2 h4
     have HPD := Lib.hid h4
     have HBX := Lib.hid (below_then HBI.out HB7.out HB7.out.size)
     have HDD := Lib.hid (delete1_b w.heap.size g i c p (rowsC 2 i (rowV l LA LD)) wI (own_below HO7.out HBI.out) h2 (rowC_one l LA LD i))
     clear h4
     go_wp2_with fail
     refine HDD.out.mono ?_
     rintro _ w6 ⟨rfl, ho6, hw6⟩
     have h6 := delete_step (a := rs) (j := j) (by rw [HN.out]; exact hmj) HLM.out h2 hbg H3.out HBX.out HPD.out ho6 hw6
     have HR6 := Lib.hid h6.1
     have hm6 := h6.2
     rw [HN.out] at hm6
     obtain ⟨m6, hm6e⟩ : ∃ x, p + (i - (p + 1)) = x := ⟨_, rfl⟩
     rw [hm6e] at HR6 hm6
     rw [hm6e]
     clear hm6e ho6 hw6 h6 HDD
     go_wp2
     go_roundw
     case rel => exact ⟨j + 1, m6, c, some ⟨g, 0, none⟩, hm6, by go_num, rfl, HR6⟩
     case measure => simp [intOf]; omega
  ·obtain rfl : m = 0 := by omega
   have HB := Lib.hid (show Below w.heap.size w wA from HR.out.choose_spec.1.bel)
   go_wp2
   go_ret
   exact ⟨rfl, HB.out⟩
end Go.Proofs.YtbnjejenejoibaaGreatDoor
