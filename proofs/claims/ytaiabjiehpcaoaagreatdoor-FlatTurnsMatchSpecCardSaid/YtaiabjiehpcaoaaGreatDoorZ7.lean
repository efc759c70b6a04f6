
/- The walk of Fits. (Printed by genZ7.py.) -/
import Derived.Test.YtaiabjiehpcaoaaGreatDoorZ6
import Derived.Test.YtaiabjiehpcaoaaGreatDoorF9
namespace Go.Proofs.YtaiabjiehpcaoaaGreatDoor
open Go.RowKit Limb Nmb Work
set_option linter.unusedVariables false
set_option linter.unusedSimpArgs false
theorem flat_take {α β : Type} {l : List α} {F : α -> List β} {j : Nat} (h : j < l.length) : (l.take (j + 1)).flatMap F = (l.take j).flatMap F ++ F l[j] := by
 rw [List.take_succ_eq_append_getElem h, List.flatMap_append]
 simp
theorem flat_len {α β : Type} {F : α -> List β} {b : Nat} : ∀ {l : List α}, (∀ x ∈ l, (F x).length <= b) -> (l.flatMap F).length <= b * l.length
 | [], _ => by simp
 | x :: l, h => by
  have h1 := h x (List.mem_cons_self ..)
  have h2 := flat_len (l := l) fun y hy => h y (List.mem_cons_of_mem _ hy)
  rw [List.flatMap_cons, List.length_append, List.length_cons, Nat.mul_add]
  omega
theorem losses_len (f g : Fmt) (t : ByteArray) (c : Col) (k : RKd) : (lossesF f g t c k).length <= 2 := by
 unfold lossesF
 split
 ·show 1 <= 2; omega
 ·split
  ·show 1 <= 2; omega
  ·rw [List.length_append]
   split <;> split <;> simp
theorem need_len (f : Fmt) (o : RKd) (c : Col) : (needLoss1 f o c).length <= 1 := by
 unfold needLoss1
 split <;> simp
def LosO (w1 wr : World) (X : Option Addr) (n c : Nat) (l : List Loss) : Prop := l.length = n /\ wr.ownsRow w1.heap.size 35 3 (.slice X n c) n (losC l) /\ Below w1.heap.size w1 wr
theorem LosO.below {w1 wr w' : World} {X : Option Addr} {n c : Nat} {l : List Loss} (h : LosO w1 wr X n c l) (hb : Below wr.heap.size wr w') : LosO w1 w' X n c l := ⟨h.1, own_below h.2.1 hb, below_then hb h.2.2 h.2.2.size⟩
theorem LosO.app {w1 wr w' : World} {X X' : Option Addr} {n c c' m : Nat} {l l2 : List Loss} (h : LosO w1 wr X n c l) (hm : l2.length = m) (ho : w'.ownsRow w1.heap.size 35 3 (.slice X' (n + m) c') (n + m) (losC l ++ losC l2)) (hg : wr.grownBy w' (Value.slice X n c).ownBlock) : LosO w1 w' X' (n + m) c' (l ++ l2) :=
 ⟨by rw [List.length_append, h.1, hm], by rw [<- losC_app]; exact ho, h.2.2.grown hg h.2.2.size (fun j hj => (h.2.1.lt j hj).1)⟩
theorem LosO.push {w1 wr w' : World} {X X' : Option Addr} {n c c' : Nat} {l : List Loss} {x : Loss} (h : LosO w1 wr X n c l) (ho : w'.ownsRow w1.heap.size 35 3 (.slice X' (n + 1) c') (n + 1) (losC l ++ losL x)) (hg : wr.grownBy w' (Value.slice X n c).ownBlock) : LosO w1 w' X' (n + 1) c' (l ++ [x]) :=
 h.app rfl (by rw [show losC [x] = losL x by simp [losC]]; exact ho) hg
theorem LosO.keep {w1 wr w' : World} {X : Option Addr} {n c g : Nat} {l : List Loss} {cs : Array Value} {U : TypeId} (h : LosO w1 wr X n c l) (hg : wr.grownBy w' (Value.slice X n c).ownBlock) (hh : wr.heap[g]? = some (.cells cs U (0, 0))) (hT : U ≠ 35) : w'.heap[g]? = some (.cells cs U (0, 0)) := grown_type h.2.1 hg hh hT
def RetFits (r : List Loss × Int) (w : World) (e : Ending) (w' : World) : Prop := ∃ X c, e = .returned (.tuple #[.slice X r.1.length c, .int .i64 r.2]) /\ Los w' X r.1 /\ Below w.heap.size w w'
theorem FmtK.places {f : Fmt} (hf : FmtK f) {j : Nat} (hj : j < f.kinds.length) {i : Nat} (hi : i < (kA f.kinds j).fields.length) : (cA (kA f.kinds j).fields i).kind = 2 -> 0 <= (cA (kA f.kinds j).fields i).places /\ (cA (kA f.kinds j).fields i).places <= 9 := ((hf.kinds j hj).cols i hi).places
theorem kinds_cols {w : World} {A : Option Addr} {ks : List RKd} {FA : Nat -> Option Addr} {FC : Nat -> Nat} (h : Kinds w A ks FA FC) {j : Nat} (hj : j < ks.length) : Cols w (FA j) (kA ks j).fields := (h.2.2 j hj).1
set_option maxHeartbeats 8000000 in
set_option maxRecDepth 100000 in
theorem fits_c (f g : Fmt) (A B : Option Addr) (cp cq : Nat) (FA GA : Nat -> Option Addr) (FC GC : Nat -> Nat) (w : World) (ho : Kinds w A f.kinds FA FC) (hg : Kinds w B g.kinds GA GC) (hc : f.kinds.length <= cp) (hd : g.kinds.length <= cq) (hm : 0 <= f.mark /\ f.mark <= 255) (hq : 0 <= f.quote /\ f.quote <= 255) (hm2 : 0 <= g.mark /\ g.mark <= 255) (hq2 : 0 <= g.quote /\ g.quote <= 255) :
  Calls Tryz.prog 8 #[fmtG f A cp, fmtG g B cq] w (RetFits (fitsR f g) w) := by
 obtain ⟨i0, hi, hz0, hz1, hz2⟩ := info_parts Tryz.infoLos
 have HC1 := Lib.hid (fun w h => check_c f A cp FA FC w h hc hm hq)
 have HC2 := Lib.hid (fun w h => check_c g B cq GA GC w h hd hm2 hq2)
 have HKF := Lib.hid ho; have HKG := Lib.hid hg
 have HKA1 := Lib.hid (fun t w h => kindat_c f A cp FA FC t w h)
 have HKA2 := Lib.hid (fun t w h => kindat_c g B cq GA GC t w h)
 have HLS := Lib.hid (fun t c K KA KC w h1 h2 h3 => losses_c f g A B f.kinds.length g.kinds.length cp cq t c K KA KC w h1 h2 h3)
 have HFK := Lib.hid (fun h => checkF_ok (f := f) h); have HGK := Lib.hid (fun h => checkF_ok (f := g) h)
 obtain ⟨F1, hF1⟩ : ∃ x, checkF f = x := ⟨_, rfl⟩
 obtain ⟨F2, hF2⟩ : ∃ x, checkF g = x := ⟨_, rfl⟩
 obtain ⟨R, hR⟩ : ∃ x, fitsR f g = x := ⟨_, rfl⟩
 have HR := Lib.hid (show (if F1 ≠ 0 then ([], F1) else if F2 ≠ 0 then ([], F2) else (fitsL f g, 0)) = R by
  rw [<- hR, <- hF1, <- hF2]
  unfold fitsR fitsE
  by_cases h1 : checkF f = 0
  ·rw [if_neg (fun h => h h1), if_neg (c := checkF f ≠ 0) (fun h => h h1)]
  ·rw [if_pos h1, if_pos (c := checkF f ≠ 0) h1, if_pos h1])
 rw [hF1] at HC1 HFK
 rw [hF2] at HC2 HGK
 rw [hR]
 clear hF1 hF2 hR ho hg
 unfold RetI at HC1 HC2
 obtain ⟨fm, fq, fks, fd, ft, fc, fs0⟩ := f
 obtain ⟨gm, gq, gks, gd, gt, gc, gs⟩ := g
 unfold fmtG at HC1 HC2 HKA1 HKA2 ⊢
 simp only at HC1 HC2 HKA1 HKA2 HLS HKF HKG hc hd ⊢
 have hnk' : fks.length <= 9223372036854775807 := HKF.out.1.2
 have hng' : gks.length <= 9223372036854775807 := HKG.out.1.2
 obtain ⟨nk, hnk⟩ : ∃ x, fks.length = x := ⟨_, rfl⟩
 obtain ⟨ng, hng⟩ : ∃ x, gks.length = x := ⟨_, rfl⟩
 have HNK := Lib.hid hnk; have HNG := Lib.hid hng
 rw [hnk] at HC1 HKA1 HLS hc hnk' ⊢
 rw [hng] at HC2 HKA2 HLS hd hng' ⊢
 clear hnk hng
 have hP1 := heap_old (heap_old (heap_new w (.cells #[.int .u8 fm, .int .u8 fq, .slice A nk cp, .string fd, .string ft, .string fc, .string fs0] 24) rfl) (.cells #[.int .u8 gm, .int .u8 gq, .slice B ng cq, .string gd, .string gt, .string gc, .string gs] 24)) (.cells #[.int .u8 fm, .int .u8 fq, .slice A nk cp, .string fd, .string ft, .string fc, .string fs0, .int .u8 gm, .int .u8 gq, .slice B ng cq, .string gd, .string gt, .string gc, .string gs] 24)
 have hP2 := heap_old (heap_new (w.alloc (.cells #[.int .u8 fm, .int .u8 fq, .slice A nk cp, .string fd, .string ft, .string fc, .string fs0] 24)) (.cells #[.int .u8 gm, .int .u8 gq, .slice B ng cq, .string gd, .string gt, .string gc, .string gs] 24) (g := w.heap.size + 1) (by simp)) (.cells #[.int .u8 fm, .int .u8 fq, .slice A nk cp, .string fd, .string ft, .string fc, .string fs0, .int .u8 gm, .int .u8 gq, .slice B ng cq, .string gd, .string gt, .string gc, .string gs] 24)
 have hL1 := heap_new ((w.alloc (.cells #[.int .u8 fm, .int .u8 fq, .slice A nk cp, .string fd, .string ft, .string fc, .string fs0] 24)).alloc (.cells #[.int .u8 gm, .int .u8 gq, .slice B ng cq, .string gd, .string gt, .string gc, .string gs] 24)) (.cells #[.int .u8 fm, .int .u8 fq, .slice A nk cp, .string fd, .string ft, .string fc, .string fs0, .int .u8 gm, .int .u8 gq, .slice B ng cq, .string gd, .string gt, .string gc, .string gs] 24) (g := w.heap.size + 1 + 1) (by simp)
 have hB1 : Below w.heap.size w (((w.alloc (.cells #[.int .u8 fm, .int .u8 fq, .slice A nk cp, .string fd, .string ft, .string fc, .string fs0] 24)).alloc (.cells #[.int .u8 gm, .int .u8 gq, .slice B ng cq, .string gd, .string gt, .string gc, .string gs] 24)).alloc (.cells #[.int .u8 fm, .int .u8 fq, .slice A nk cp, .string fd, .string ft, .string fc, .string fs0, .int .u8 gm, .int .u8 gq, .slice B ng cq, .string gd, .string gt, .string gc, .string gs] 24)) := by go_grown
 go_enter Tryz.func8, Tryz.ntmps8
 have b1 := heap_old (heap_new w (.cells #[.int .u8 fm, .int .u8 fq, .slice A nk cp, .string fd, .string ft, .string fc, .string fs0] 24) rfl) (.cells #[.int .u8 gm, .int .u8 gq, .slice B ng cq, .string gd, .string gt, .string gc, .string gs] 24)
 have b2 := heap_new (w.alloc (.cells #[.int .u8 fm, .int .u8 fq, .slice A nk cp, .string fd, .string ft, .string fc, .string fs0] 24)) (.cells #[.int .u8 gm, .int .u8 gq, .slice B ng cq, .string gd, .string gt, .string gc, .string gs] 24) (g := w.heap.size + 1) (by simp)
 obtain ⟨⟨p0, p1, p2, p3, p4, p5, p6⟩, -⟩ := obox7 b1; obtain ⟨⟨q0, q1, q2, q3, q4, q5, q6⟩, -⟩ := obox7 b2
 go_wp2_with fail
 generalize ((w.alloc (.cells #[.int .u8 fm, .int .u8 fq, .slice A nk cp, .string fd, .string ft, .string fc, .string fs0] 24)).alloc (.cells #[.int .u8 gm, .int .u8 gq, .slice B ng cq, .string gd, .string gt, .string gc, .string gs] 24)).alloc (.cells #[.int .u8 fm, .int .u8 fq, .slice A nk cp, .string fd, .string ft, .string fc, .string fs0, .int .u8 gm, .int .u8 gq, .slice B ng cq, .string gd, .string gt, .string gc, .string gs] 24) = w1 at hP1 hP2 hL1 hB1 ⊢
 have HP1 := Lib.hid hP1; have HP2 := Lib.hid hP2; have HL1 := Lib.hid hL1; have HB1 := Lib.hid hB1
 clear hP1 hP2 hL1 hB1 b1 b2 p0 p1 p2 p3 p4 p5 p6 q0 q1 q2 q3 q4 q5 q6
 go_loopw [26] (fun i wr => ∃ j : Nat, j <= 2 /\ i = .int .i64 j /\ (1 <= j -> F1 = 0) /\ (2 <= j -> F2 = 0) /\ Hid (Below w1.heap.size w1 wr)) (fun i _ => 2 - (intOf i).toNat)
 case atStart => exact ⟨0, by omega, rfl, fun h => absurd h (by decide), fun h => absurd h (by decide), Lib.hid (Below.refl _ _)⟩
 case round =>
  obtain ⟨j, hj, rfl, hi1, hi2, HB⟩ := hrel
  have hj3 : j = 0 ∨ j = 1 ∨ j = 2 := by omega
  rcases hj3 with rfl | rfl | rfl
  ·clear hi1 hi2
   have cc := fun (k : Nat) (v : Value) (hk : (#[.int .u8 fm, .int .u8 fq, .slice A nk cp, .string fd, .string ft, .string fc, .string fs0, .int .u8 gm, .int .u8 gq, .slice B ng cq, .string gd, .string gt, .string gc, .string gs] : Array Value)[k]? = some v) => (cell_of_row _ _ k _ _ _ (heap_below HL1.out HB.out)).trans hk
   have c0 := cc 0 _ rfl
   have c1 := cc 1 _ rfl
   have c2 := cc 2 _ rfl
   have c3 := cc 3 _ rfl
   have c4 := cc 4 _ rfl
   have c5 := cc 5 _ rfl
   have c6 := cc 6 _ rfl
   have hN := heap_new wr (.cells #[.int .u8 fm, .int .u8 fq, .slice A nk cp, .string fd, .string ft, .string fc, .string fs0] 24) rfl
   have hb1 : Below wr.heap.size wr (wr.alloc (.cells #[.int .u8 fm, .int .u8 fq, .slice A nk cp, .string fd, .string ft, .string fc, .string fs0] 24)) := by go_grown
   have HB2 := Lib.hid (below_then hb1 HB.out HB.out.size)
   clear cc
   go_upto_region 4 with fail
   obtain ⟨bn, hbn⟩ : ∃ x, wr.heap.size = x := ⟨_, rfl⟩
   rw [hbn] at hN
   try rw [hbn]
   generalize wr.alloc (.cells #[.int .u8 fm, .int .u8 fq, .slice A nk cp, .string fd, .string ft, .string fc, .string fs0] 24) = w4 at hN HB2 ⊢
   clear hbn c0 c1 c2 c3 c4 c5 c6 hb1
   obtain ⟨⟨p0, p1, p2, p3, p4, p5, p6⟩, -⟩ := obox7 hN
   go_wp2_with fail
   refine (HC1.out _ (HKF.out.below (below_then HB2.out HB1.out HB1.out.size))).mono ?_
   rintro _ w5 ⟨rfl, hb5⟩
   have HB5 := Lib.hid (below_then hb5 HB2.out HB2.out.size)
   clear p0 p1 p2 p3 p4 p5 p6 hN hb5
   by_cases he : F1 = 0
   ·subst he
    go_wp2
    go_roundw
    case rel => first | exact ⟨1, by omega, rfl, fun _ => rfl, fun h => absurd h (by decide), HB5⟩ | exact ⟨1, by omega, rfl, fun _ => trivial, fun h => absurd h (by decide), HB5⟩
    case measure => simp [intOf]
   ·have HE := Lib.hid (show R = ([], F1) from HR.out.symm.trans (if_pos he))
    have he2 : (F1 != 0) = true := by simpa using he
    have he3 : ¬ F1 = 0 := he
    clear he
    go_wp2
    go_ret2
    rw [HE.out]
    exact ⟨none, 0, rfl, fun h => absurd h (Nat.not_lt_zero _), below_then HB5.out HB1.out HB1.out.size⟩
  ·clear hi2
   have cc := fun (k : Nat) (v : Value) (hk : (#[.int .u8 fm, .int .u8 fq, .slice A nk cp, .string fd, .string ft, .string fc, .string fs0, .int .u8 gm, .int .u8 gq, .slice B ng cq, .string gd, .string gt, .string gc, .string gs] : Array Value)[k]? = some v) => (cell_of_row _ _ k _ _ _ (heap_below HL1.out HB.out)).trans hk
   have c0 := cc 7 _ rfl
   have c1 := cc 8 _ rfl
   have c2 := cc 9 _ rfl
   have c3 := cc 10 _ rfl
   have c4 := cc 11 _ rfl
   have c5 := cc 12 _ rfl
   have c6 := cc 13 _ rfl
   have hN := heap_new wr (.cells #[.int .u8 gm, .int .u8 gq, .slice B ng cq, .string gd, .string gt, .string gc, .string gs] 24) rfl
   have hb1 : Below wr.heap.size wr (wr.alloc (.cells #[.int .u8 gm, .int .u8 gq, .slice B ng cq, .string gd, .string gt, .string gc, .string gs] 24)) := by go_grown
   have HB2 := Lib.hid (below_then hb1 HB.out HB.out.size)
   clear cc
   go_upto_region 4 with fail
   obtain ⟨bn, hbn⟩ : ∃ x, wr.heap.size = x := ⟨_, rfl⟩
   rw [hbn] at hN
   try rw [hbn]
   generalize wr.alloc (.cells #[.int .u8 gm, .int .u8 gq, .slice B ng cq, .string gd, .string gt, .string gc, .string gs] 24) = w4 at hN HB2 ⊢
   clear hbn c0 c1 c2 c3 c4 c5 c6 hb1
   obtain ⟨⟨p0, p1, p2, p3, p4, p5, p6⟩, -⟩ := obox7 hN
   go_wp2_with fail
   refine (HC2.out _ (HKG.out.below (below_then HB2.out HB1.out HB1.out.size))).mono ?_
   rintro _ w5 ⟨rfl, hb5⟩
   have HB5 := Lib.hid (below_then hb5 HB2.out HB2.out.size)
   clear p0 p1 p2 p3 p4 p5 p6 hN hb5
   by_cases he : F2 = 0
   ·subst he
    go_wp2
    go_roundw
    case rel => first | exact ⟨2, by omega, rfl, fun _ => hi1 (by decide), fun _ => rfl, HB5⟩ | exact ⟨2, by omega, rfl, fun _ => hi1 (by decide), fun _ => trivial, HB5⟩
    case measure => simp [intOf]
   ·have HE := Lib.hid (show R = ([], F2) from HR.out.symm.trans ((if_neg (fun h => h (hi1 (by decide)))).trans (if_pos he)))
    have he2 : (F2 != 0) = true := by simpa using he
    have he3 : ¬ F2 = 0 := he
    clear he
    go_wp2
    go_ret2
    rw [HE.out]
    exact ⟨none, 0, rfl, fun h => absurd h (Nat.not_lt_zero _), below_then HB5.out HB1.out HB1.out.size⟩
  ·have h1 := hi1 (by decide)
   have h2 := hi2 (by decide)
   subst h1 h2
   have HE := Lib.hid (show R = (fitsL ⟨fm, fq, fks, fd, ft, fc, fs0⟩ ⟨gm, gq, gks, gd, gt, gc, gs⟩, 0) from HR.out.symm.trans ((if_neg (fun h => h rfl)).trans (if_neg (fun h => h rfl))))
   have HFM := Lib.hid (HFK.out rfl); have HGM := Lib.hid (HGK.out rfl)
   clear hi1 hi2 HR HC1 HC2 HFK HGK HL1
   have HW := Lib.hid (show ∀ wx, Below w1.heap.size w1 wx -> wx.heap[w.heap.size]? = some (.cells #[.int .u8 fm, .int .u8 fq, .slice A nk cp, .string fd, .string ft, .string fc, .string fs0] 24 (0, 0)) /\ wx.heap[w.heap.size + 1]? = some (.cells #[.int .u8 gm, .int .u8 gq, .slice B ng cq, .string gd, .string gt, .string gc, .string gs] 24 (0, 0)) /\ Kinds wx A fks FA FC /\ Kinds wx B gks GA GC /\ Below w.heap.size w wx from fun wx h => by
    have h2 := below_then h HB1.out HB1.out.size
    exact ⟨heap_below HP1.out h, heap_below HP2.out h, HKF.out.below h2, HKG.out.below h2, h2⟩)
   have HFL := Lib.hid (show fitsL ⟨fm, fq, fks, fd, ft, fc, fs0⟩ ⟨gm, gq, gks, gd, gt, gc, gs⟩ = fks.flatMap (kindLoss ⟨fm, fq, fks, fd, ft, fc, fs0⟩ ⟨gm, gq, gks, gd, gt, gc, gs⟩) ++ gks.flatMap (needLoss ⟨fm, fq, fks, fd, ft, fc, fs0⟩) from rfl)
   obtain ⟨KL, hKL⟩ : ∃ x, kindLoss ⟨fm, fq, fks, fd, ft, fc, fs0⟩ ⟨gm, gq, gks, gd, gt, gc, gs⟩ = x := ⟨_, rfl⟩
   obtain ⟨NL, hNL⟩ : ∃ x, needLoss ⟨fm, fq, fks, fd, ft, fc, fs0⟩ = x := ⟨_, rfl⟩
   have HKL := Lib.hid hKL; have HNL := Lib.hid hNL
   rw [hKL, hNL] at HFL
   rw [HFL.out] at HE
   clear hKL hNL HFL HP1 HP2
   have hnk30 : nk <= 30 := by rw [<- HNK.out]; exact HFM.out.some.2
   have hng30 : ng <= 30 := by rw [<- HNG.out]; exact HGM.out.some.2
   obtain ⟨⟨p0, p1, p2, p3, p4, p5, p6⟩, -⟩ := obox7 (HW.out _ HB.out).1
   go_wp2_with fail
   go_loopw [39, 9] (fun i o wr => ∃ (j : Nat) (X : Option Addr) (n c : Nat), j <= nk /\ i = .int .i64 j /\ o = .slice X n c /\ n <= 100 * j /\ Hid (LosO w1 wr X n c ((fks.take j).flatMap KL))) (fun i o _ => nk - (intOf i).toNat)
   case atStart => exact ⟨0, none, 0, 0, by omega, rfl, rfl, by omega, Lib.hid ⟨rfl, World.ownsRow_nil _ _ _ _, HB.out⟩⟩
   case round =>
    clear HB p0 p1 p2 p3 p4 p5 p6
    obtain ⟨j, X, n, c, hj, rfl, rfl, hn, HO⟩ := hrel
    have hzr := HO.out.2.2.size
    rcases Nat.lt_or_ge j nk with hlt | hge
    ·have tk : decide ((j : Int) < (nk : Int)) = true := decide_eq_true (by omega)
     obtain ⟨q1, q2, qk, qg, qb⟩ := HW.out _ HO.out.2.2
     have hjl : j < fks.length := by rw [HNK.out]; exact hlt
     obtain ⟨b, off, rfl, hbw, c0, c1, c2, c3⟩ := qk.cells hjl
     have HCO := Lib.hid (fun wx h => kinds_cols (HW.out wx h).2.2.1 hjl)
     have HNX := Lib.hid (show (fks.take (j + 1)).flatMap KL = (fks.take j).flatMap KL ++ KL (kA fks j) by rw [<- kA_get hjl]; exact flat_take hjl)
     have HPL := Lib.hid (fun i hi => HFM.out.places (j := j) (i := i) hjl hi)
     have hmny := (HFM.out.kinds j hjl).many
     simp only at HPL hmny
     obtain ⟨K, hK⟩ : ∃ x, kA fks j = x := ⟨_, rfl⟩
     rw [hK] at c0 c1 c2 c3 HCO HNX HPL hmny
     generalize FA j = KA at c1 HCO
     generalize FC j = KC at c1
     obtain ⟨kt, kfs, km, ku⟩ := K
     simp only at c0 c1 c2 c3 HCO HPL hmny
     obtain ⟨nf, hnf⟩ : ∃ x, kfs.length = x := ⟨_, rfl⟩
     have HNF := Lib.hid hnf
     rw [hnf] at c1 hmny
     have HK3 := Lib.hid (heap_new wr (.cells #[.string kt, .slice KA nf KC, .int .i64 km, .string ku] 52) rfl)
     have hbk : Below wr.heap.size wr (wr.alloc (.cells #[.string kt, .slice KA nf KC, .int .i64 km, .string ku] 52)) := by go_grown
     have HO3 := Lib.hid (HO.out.below hbk)
     clear hK hnf hjl q1 qk qg qb
     go_upto_region 12 with fail
     obtain ⟨kb, hkb⟩ : ∃ x, wr.heap.size = x := ⟨_, rfl⟩
     rw [hkb] at HK3
     try rw [hkb]
     generalize wr.alloc (.cells #[.string kt, .slice KA nf KC, .int .i64 km, .string ku] 52) = w3 at HK3 HO3 ⊢
     clear hkb c0 c1 c2 c3 hbw hbk HO q2
     obtain ⟨-, q2, -, qg, -⟩ := HW.out _ HO3.out.2.2
     obtain ⟨⟨q0, q1, q2, q3, q4, q5, q6⟩, -⟩ := obox7 q2
     obtain ⟨⟨k0, k1, k2, k3⟩, -, -⟩ := obox4 HK3.out
     have HCC := Lib.hid (kat_cases ⟨gm, gq, gks, gd, gt, gc, gs⟩ GA GC kt)
     simp only at HCC
     go_wp2_with fail
     refine (HKA2.out kt _ qg).mono ?_
     rintro _ w4 ⟨rfl, hb4⟩
     have HK4 := Lib.hid (heap_below HK3.out hb4)
     have HO4 := Lib.hid (HO3.out.below hb4)
     clear q0 q1 q2 q3 q4 q5 q6 k0 k1 k2 k3 qg hb4 HK3 HO3
     rcases HCC.out with ⟨e1, e2, e3, e4⟩ | ⟨k', hk', e1, e2, e3, e4⟩
     ·have HT := Lib.hid (show KL ⟨kt, kfs, km, ku⟩ = [⟨kt, ⟨#[]⟩, 1⟩] by rw [<- HKL.out]; unfold kindLoss; simp only; rw [e1]; exact if_pos (by decide))
      rw [e1, e2, e3, e4]
      clear e1 e2 e3 e4 HCC
      have td : decide ((0 : Int) <= -1) = false := by decide
      rw [td]
      unfold kindG kind0
      have hbo : Below w4.heap.size w4 (w4.alloc (.cells #[.string ⟨#[]⟩, .slice none 0 0, .int .i64 0, .string ⟨#[]⟩] 52)) := by go_grown
      have HK5 := Lib.hid (heap_old HK4.out (.cells #[.string ⟨#[]⟩, .slice none 0 0, .int .i64 0, .string ⟨#[]⟩] 52))
      have HO5 := Lib.hid (HO4.out.below hbo)
      clear hbo HK4 HO4
      go_upto_region 13 with fail
      generalize w4.alloc (.cells #[.string ⟨#[]⟩, .slice none 0 0, .int .i64 0, .string ⟨#[]⟩] 52) = w5 at HK5 HO5 ⊢
      obtain ⟨⟨k0, k1, k2, k3⟩, -, -⟩ := obox4 HK5.out
      have hz5 := HO5.out.2.2.size
      go_wp2_with (at_builtin; refine wpList_zpush rfl _ _ 30 rfl w1.heap.size 35 i0 (.agg #[.string ⟨#[]⟩, .string ⟨#[]⟩, .int .i64 0]) 3 40 Tryz.underlying30 hi hz0 hz1 hz2 rfl (by decide) (.slice X n c) n (losC ((fks.take j).flatMap KL)) rfl HO5.out.2.1 [.string kt, .string ⟨#[]⟩, .int .i64 1] rfl rfl (by intro u hu; simp at hu; rcases hu with rfl | rfl | rfl <;> rfl) (by unfold maxLen; omega) (by omega) hz5 ?_; intro X7 c7 w7 hown7 hg7)
      have HO7 := Lib.hid (show LosO w1 w7 X7 (n + 1) c7 ((fks.take (j + 1)).flatMap KL) by rw [HNX.out, HT.out]; exact HO5.out.push hown7 hg7)
      go_roundw
      case rel => first | exact ⟨j + 1, X7, n + 1, c7, by omega, by go_num, rfl, by omega, HO7⟩ | ((repeat apply Exists.intro); exact ⟨⟨j + 1, X7, n + 1, c7, by omega, by go_num, rfl, by omega, HO7⟩, rfl⟩)
      case measure => simp [intOf]; omega
     ·have HT := Lib.hid (show KL ⟨kt, kfs, km, ku⟩ = kfs.flatMap (fun c => lossesF ⟨fm, fq, fks, fd, ft, fc, fs0⟩ ⟨gm, gq, gks, gd, gt, gc, gs⟩ kt c (kA gks k')) by rw [<- HKL.out]; unfold kindLoss; simp only; rw [e1, e2]; exact if_neg (by omega))
      rw [e1, e2, e3, e4]
      clear e1 e2 e3 e4 HCC
      have td : decide ((0 : Int) <= (k' : Int)) = true := decide_eq_true (by omega)
      rw [td]
      have HCG := Lib.hid (fun wx h => kinds_cols (HW.out wx h).2.2.2.1 hk')
      have HPG := Lib.hid (fun i hi => HGM.out.places (j := k') (i := i) hk' hi)
      simp only at HCG HPG
      obtain ⟨O, hO⟩ : ∃ x, kA gks k' = x := ⟨_, rfl⟩
      rw [hO] at HT HCG HPG ⊢
      generalize GA k' = OA at HCG ⊢
      generalize GC k' = OC
      obtain ⟨ot, ofs, om, ou⟩ := O
      unfold kindG
      simp only at HCG HPG ⊢
      obtain ⟨no, hno⟩ : ∃ x, ofs.length = x := ⟨_, rfl⟩
      have HNO := Lib.hid hno
      rw [hno]
      have hbo : Below w4.heap.size w4 (w4.alloc (.cells #[.string ot, .slice OA no OC, .int .i64 om, .string ou] 52)) := by go_grown
      have HK5 := Lib.hid (heap_old HK4.out (.cells #[.string ot, .slice OA no OC, .int .i64 om, .string ou] 52)); have HD5 := Lib.hid (heap_new w4 (.cells #[.string ot, .slice OA no OC, .int .i64 om, .string ou] 52) rfl)
      have HO5 := Lib.hid (HO4.out.below hbo)
      clear hbo HK4 HO4 hno hO
      obtain ⟨LF, hLF⟩ : ∃ x, (fun c => lossesF ⟨fm, fq, fks, fd, ft, fc, fs0⟩ ⟨gm, gq, gks, gd, gt, gc, gs⟩ kt c ⟨ot, ofs, om, ou⟩) = x := ⟨_, rfl⟩
      have HLF := Lib.hid hLF
      rw [hLF] at HT
      clear hLF
      go_upto_region 13 with fail
      obtain ⟨ob, hob⟩ : ∃ x, w4.heap.size = x := ⟨_, rfl⟩
      rw [hob] at HD5
      try rw [hob]
      generalize w4.alloc (.cells #[.string ot, .slice OA no OC, .int .i64 om, .string ou] 52) = w5 at HK5 HD5 HO5 ⊢
      clear hob
      obtain ⟨⟨k0, k1, k2, k3⟩, -, -⟩ := obox4 HK5.out
      go_wp2_with fail
      go_loopw [61, 9] (fun i o wr => ∃ (i' : Nat) (X : Option Addr) (n c : Nat), i' <= nf /\ i = .int .i64 i' /\ o = .slice X n c /\ n <= 100 * j + 2 * i' /\ Hid (LosO w1 wr X n c ((fks.take j).flatMap KL ++ (kfs.take i').flatMap LF)) /\ Hid (wr.heap[kb]? = some (.cells #[.string kt, .slice KA nf KC, .int .i64 km, .string ku] 52 (0, 0))) /\ Hid (wr.heap[ob]? = some (.cells #[.string ot, .slice OA no OC, .int .i64 om, .string ou] 52 (0, 0)))) (fun i o _ => nf - (intOf i).toNat)
      case atStart => exact ⟨0, X, n, c, by omega, rfl, rfl, by omega, Lib.hid (by rw [show (kfs.take 0).flatMap LF = [] from rfl, List.append_nil]; exact HO5.out), HK5, HD5⟩
      case round =>
       clear HK5 HD5 HO5 hn hzr k0 k1 k2 k3
       obtain ⟨i, X, n, c, hi', rfl, rfl, hn, HO, HKB, HDB⟩ := hrel
       have hzr := HO.out.2.2.size
       rcases Nat.lt_or_ge i nf with hlt2 | hge2
       ·have hil : i < kfs.length := by rw [HNF.out]; exact hlt2
        have HNY := Lib.hid (show (kfs.take (i + 1)).flatMap LF = (kfs.take i).flatMap LF ++ lossesF ⟨fm, fq, fks, fd, ft, fc, fs0⟩ ⟨gm, gq, gks, gd, gt, gc, gs⟩ kt (cA kfs i) ⟨ot, ofs, om, ou⟩ by rw [flat_take hil, cA_get hil, <- HLF.out])
        have HLS2 := Lib.hid (fun wx (h : Below w1.heap.size w1 wx) => HLS.out kt (cA kfs i) ⟨ot, ofs, om, ou⟩ OA OC wx (HCG.out wx h) (HPL.out i hil) HPG.out)
        obtain ⟨cb, co, rfl, hcb, d0, d1, d2, d3, d4, d5, d6, d7⟩ := (HCO.out _ HO.out.2.2).cells hil
        have hl2 := losses_len ⟨fm, fq, fks, fd, ft, fc, fs0⟩ ⟨gm, gq, gks, gd, gt, gc, gs⟩ kt (cA kfs i) ⟨ot, ofs, om, ou⟩
        obtain ⟨l2, hl⟩ : ∃ x, lossesF ⟨fm, fq, fks, fd, ft, fc, fs0⟩ ⟨gm, gq, gks, gd, gt, gc, gs⟩ kt (cA kfs i) ⟨ot, ofs, om, ou⟩ = x := ⟨_, rfl⟩
        rw [hl] at HNY HLS2 hl2
        obtain ⟨C, hC⟩ : ∃ x, cA kfs i = x := ⟨_, rfl⟩
        rw [hC] at d0 d1 d2 d3 d4 d5 d6 d7 HLS2
        obtain ⟨cn, ck, cw, cl, cm, cr, ci, ce⟩ := C
        unfold kindG colG at HLS2
        unfold RetLoss at HLS2
        simp only at d0 d1 d2 d3 d4 d5 d6 d7 HLS2
        rw [HNO.out] at HLS2
        obtain ⟨m, hm⟩ : ∃ x, l2.length = x := ⟨_, rfl⟩
        have HM := Lib.hid hm
        rw [hm] at HLS2 hl2
        have hbc : Below wr.heap.size wr (wr.alloc (.cells #[.string cn, .int .i64 ck, .int .i64 cw, .int .i64 cl, .int .i64 cm, .bool cr, .int .u8 ci, .bool ce] 60)) := by go_grown
        have HKB2 := Lib.hid (heap_old HKB.out (.cells #[.string cn, .int .i64 ck, .int .i64 cw, .int .i64 cl, .int .i64 cm, .bool cr, .int .u8 ci, .bool ce] 60)); have HDB2 := Lib.hid (heap_old HDB.out (.cells #[.string cn, .int .i64 ck, .int .i64 cw, .int .i64 cl, .int .i64 cm, .bool cr, .int .u8 ci, .bool ce] 60)); have HCB2 := Lib.hid (heap_new wr (.cells #[.string cn, .int .i64 ck, .int .i64 cw, .int .i64 cl, .int .i64 cm, .bool cr, .int .u8 ci, .bool ce] 60) rfl)
        have HO2 := Lib.hid (HO.out.below hbc)
        clear hl hC hm hil hbc
        go_upto_region 18 with fail
        obtain ⟨cb2, hcb2⟩ : ∃ x, wr.heap.size = x := ⟨_, rfl⟩
        rw [hcb2] at HCB2
        try rw [hcb2]
        generalize wr.alloc (.cells #[.string cn, .int .i64 ck, .int .i64 cw, .int .i64 cl, .int .i64 cm, .bool cr, .int .u8 ci, .bool ce] 60) = w6 at HKB2 HDB2 HCB2 HO2 ⊢
        clear hcb2 d0 d1 d2 d3 d4 d5 d6 d7 hcb HKB HDB HO hzr
        obtain ⟨q1, q2, -, -, -⟩ := HW.out _ HO2.out.2.2
        obtain ⟨⟨q0, q1, q2, q3, q4, q5, q6⟩, -⟩ := obox7 q2
        obtain ⟨⟨p0, p1, p2, p3, p4, p5, p6⟩, -⟩ := obox7 (HW.out _ HO2.out.2.2).1
        obtain ⟨⟨k0, k1, k2, k3⟩, -, -⟩ := obox4 HKB2.out; obtain ⟨⟨o0, o1, o2, o3⟩, -, -⟩ := obox4 HDB2.out
        obtain ⟨⟨x0, x1, x2, x3, x4, x5, x6, x7⟩, -⟩ := obox8 HCB2.out
        go_wp2_with fail
        refine (HLS2.out _ HO2.out.2.2).mono ?_
        rintro _ w7 ⟨XS, xc, rfl, hls, hb7⟩
        have HKB7 := Lib.hid (heap_below HKB2.out hb7); have HDB7 := Lib.hid (heap_below HDB2.out hb7)
        have HO7 := Lib.hid (HO2.out.below hb7); have HL7 := Lib.hid hls
        clear q0 q1 q2 q3 q4 q5 q6 p0 p1 p2 p3 p4 p5 p6 k0 k1 k2 k3 o0 o1 o2 o3 x0 x1 x2 x3 x4 x5 x6 x7 hb7 hls HKB2 HDB2 HCB2 HO2 HLS2
        have hz7 := HO7.out.2.2.size
        have hsrc : 0 < m -> ∃ b off, XS = some ⟨b, off, none⟩ /\ ∀ j u, (losC l2)[j]? = some u -> w7.cell? ⟨b, off + j, none⟩ = some u := fun h0 => by
         obtain ⟨b, off, e, -, hc⟩ := HL7.out (by rw [HM.out]; exact h0)
         exact ⟨b, off, e, hc⟩
        have HSRC := Lib.hid hsrc
        clear hsrc
        go_wp2_with (at_builtin; refine wpList_zapp rfl _ _ 30 rfl w1.heap.size 35 i0 (.agg #[.string ⟨#[]⟩, .string ⟨#[]⟩, .int .i64 0]) 3 40 Tryz.underlying30 hi hz0 hz1 hz2 rfl (by decide) X n c (losC ((fks.take j).flatMap KL ++ (kfs.take i).flatMap LF)) rfl HO7.out.2.1 XS m xc (losC l2) (by rw [losC_len, HM.out]) rfl HSRC.out (losC_one _) (by unfold maxLen; omega) (by omega) hz7 ?_; intro X8 c8 w8 hown8 hg8)
        have HO8 := Lib.hid (show LosO w1 w8 X8 (n + m) c8 ((fks.take j).flatMap KL ++ (kfs.take (i + 1)).flatMap LF) by rw [HNY.out, <- List.append_assoc]; exact HO7.out.app HM.out hown8 hg8)
        have HKB8 := Lib.hid (HO7.out.keep hg8 HKB7.out (by decide)); have HDB8 := Lib.hid (HO7.out.keep hg8 HDB7.out (by decide))
        go_roundw
        case rel => first | exact ⟨i + 1, X8, n + m, c8, by omega, by go_num, rfl, by omega, HO8, HKB8, HDB8⟩ | ((repeat apply Exists.intro); exact ⟨⟨i + 1, X8, n + m, c8, by omega, by go_num, rfl, by omega, HO8, HKB8, HDB8⟩, rfl⟩)
        case measure => simp [intOf]; omega
       ·obtain rfl : i = nf := by omega
        have HO7 := Lib.hid (show LosO w1 wr X n c ((fks.take (j + 1)).flatMap KL) by rw [HNX.out, HT.out, show kfs = kfs.take i by rw [<- HNF.out, List.take_length]]; exact HO.out)
        go_wp2
        go_roundw
        case rel => first | exact ⟨j + 1, X, n, c, by omega, by go_num, rfl, by omega, HO7⟩ | ((repeat apply Exists.intro); exact ⟨⟨j + 1, X, n, c, by omega, by go_num, rfl, by omega, HO7⟩, rfl⟩)
        case measure => simp [intOf]; omega
    ·obtain rfl : j = nk := by omega
     have HO2 := Lib.hid (show LosO w1 wr X n c (fks.flatMap KL) by have h := HO.out; rw [show fks.take j = fks by rw [<- HNK.out, List.take_length]] at h; exact h)
     clear HO
     obtain ⟨⟨q0, q1, q2, q3, q4, q5, q6⟩, -⟩ := obox7 (HW.out _ HO2.out.2.2).2.1
     go_wp2_with fail
     go_loopw [79, 9] (fun i o wr => ∃ (j' : Nat) (X : Option Addr) (n c : Nat), j' <= ng /\ i = .int .i64 j' /\ o = .slice X n c /\ n <= 100 * j + 50 * j' /\ Hid (LosO w1 wr X n c (fks.flatMap KL ++ (gks.take j').flatMap NL))) (fun i o _ => ng - (intOf i).toNat)
     case atStart => exact ⟨0, X, n, c, by omega, rfl, rfl, by omega, Lib.hid (by rw [show (gks.take 0).flatMap NL = [] from rfl, List.append_nil]; exact HO2.out)⟩
     case round =>
      clear HO2 hn hzr q0 q1 q2 q3 q4 q5 q6
      obtain ⟨j', X, n, c, hj', rfl, rfl, hn, HO⟩ := hrel
      have hzr := HO.out.2.2.size
      rcases Nat.lt_or_ge j' ng with hlt | hge2
      ·have tk : decide ((j' : Int) < (ng : Int)) = true := decide_eq_true (by omega)
       obtain ⟨q1, q2, qk, qg, qb⟩ := HW.out _ HO.out.2.2
       have hjl : j' < gks.length := by rw [HNG.out]; exact hlt
       obtain ⟨b, off, rfl, hbw, c0, c1, c2, c3⟩ := qg.cells hjl
       have HCO := Lib.hid (fun wx h => kinds_cols (HW.out wx h).2.2.2.1 hjl)
       have HNX := Lib.hid (show (gks.take (j' + 1)).flatMap NL = (gks.take j').flatMap NL ++ NL (kA gks j') by rw [<- kA_get hjl]; exact flat_take hjl)
       have hmny := (HGM.out.kinds j' hjl).many
       simp only at hmny
       obtain ⟨K, hK⟩ : ∃ x, kA gks j' = x := ⟨_, rfl⟩
       rw [hK] at c0 c1 c2 c3 HCO HNX hmny
       generalize GA j' = KA at c1 HCO
       generalize GC j' = KC at c1
       obtain ⟨kt, kfs, km, ku⟩ := K
       simp only at c0 c1 c2 c3 HCO hmny
       obtain ⟨nf, hnf⟩ : ∃ x, kfs.length = x := ⟨_, rfl⟩
       have HNF := Lib.hid hnf
       rw [hnf] at c1 hmny
       have HK3 := Lib.hid (heap_new wr (.cells #[.string kt, .slice KA nf KC, .int .i64 km, .string ku] 52) rfl)
       have hbk : Below wr.heap.size wr (wr.alloc (.cells #[.string kt, .slice KA nf KC, .int .i64 km, .string ku] 52)) := by go_grown
       have HO3 := Lib.hid (HO.out.below hbk)
       clear hK hnf hjl q1 qk qg qb q2
       go_upto_region 24 with fail
       obtain ⟨kb, hkb⟩ : ∃ x, wr.heap.size = x := ⟨_, rfl⟩
       rw [hkb] at HK3
       try rw [hkb]
       generalize wr.alloc (.cells #[.string kt, .slice KA nf KC, .int .i64 km, .string ku] 52) = w3 at HK3 HO3 ⊢
       clear hkb c0 c1 c2 c3 hbw hbk HO
       obtain ⟨q2, -, qg, -, -⟩ := HW.out _ HO3.out.2.2
       obtain ⟨⟨q0, q1, q2, q3, q4, q5, q6⟩, -⟩ := obox7 q2
       obtain ⟨⟨k0, k1, k2, k3⟩, -, -⟩ := obox4 HK3.out
       have HCC := Lib.hid (kat_cases ⟨fm, fq, fks, fd, ft, fc, fs0⟩ FA FC kt)
       simp only at HCC
       have HCF := Lib.hid (fun k' (hk' : k' < fks.length) wx h => kinds_cols (HW.out wx h).2.2.1 hk')
       have HNLf := Lib.hid (show NL ⟨kt, kfs, km, ku⟩ = kfs.flatMap (needLoss1 ⟨fm, fq, fks, fd, ft, fc, fs0⟩ ⟨kt, kfs, km, ku⟩) by rw [<- HNL.out]; rfl)
       have HN1 := Lib.hid (show ∀ c, needLoss1 ⟨fm, fq, fks, fd, ft, fc, fs0⟩ ⟨kt, kfs, km, ku⟩ c = if 0 <= katI ⟨fm, fq, fks, fd, ft, fc, fs0⟩ kt /\ c.need = true /\ ixF (nameIs c.name) (katK ⟨fm, fq, fks, fd, ft, fc, fs0⟩ kt).fields < 0 then [⟨kt, c.name, 4⟩] else [] from fun c => rfl)
       have HN2 := Lib.hid (fun c => need_len ⟨fm, fq, fks, fd, ft, fc, fs0⟩ ⟨kt, kfs, km, ku⟩ c)
       obtain ⟨N1, hN1⟩ : ∃ x, needLoss1 ⟨fm, fq, fks, fd, ft, fc, fs0⟩ ⟨kt, kfs, km, ku⟩ = x := ⟨_, rfl⟩
       rw [hN1] at HNLf HN1 HN2
       rw [HNLf.out] at HNX
       clear hN1 HNLf
       go_wp2_with fail
       refine (HKA1.out kt _ qg).mono ?_
       rintro _ w4 ⟨rfl, hb4⟩
       have HK4 := Lib.hid (heap_below HK3.out hb4)
       have HO4 := Lib.hid (HO3.out.below hb4)
       clear q0 q1 q2 q3 q4 q5 q6 k0 k1 k2 k3 qg hb4 HK3 HO3
       obtain ⟨ok, OO, OA, OC, hkk, hcols, hn1⟩ : ∃ (ok : Bool) (OO : RKd) (OA : Option Addr) (OC : Nat), (decide (0 <= katI ⟨fm, fq, fks, fd, ft, fc, fs0⟩ kt) = ok /\ katK ⟨fm, fq, fks, fd, ft, fc, fs0⟩ kt = OO /\ katA ⟨fm, fq, fks, fd, ft, fc, fs0⟩ FA kt = OA /\ katC ⟨fm, fq, fks, fd, ft, fc, fs0⟩ FC kt = OC) /\ (ok = true -> ∀ wx, Below w1.heap.size w1 wx -> Cols wx OA OO.fields) /\ (∀ c, N1 c = if ok = true /\ c.need = true /\ ixF (nameIs c.name) OO.fields < 0 then [⟨kt, c.name, 4⟩] else []) := by
        rcases HCC.out with ⟨e1, e2, e3, e4⟩ | ⟨k', hk', e1, e2, e3, e4⟩
        ·refine ⟨false, kind0, none, 0, ⟨by rw [e1]; decide, e2, e3, e4⟩, (fun h => by cases h), fun c => ?_⟩
         rw [HN1.out, e1, if_neg (fun h => absurd h.1 (by decide)), if_neg (fun h => by cases h.1)]
        ·refine ⟨true, kA fks k', FA k', FC k', ⟨by rw [e1]; exact decide_eq_true (by omega), e2, e3, e4⟩, (fun _ => HCF.out k' hk'), fun c => ?_⟩
         rw [HN1.out, e1, e2]
         by_cases h : c.need = true /\ ixF (nameIs c.name) (kA fks k').fields < 0
         ·rw [if_pos ⟨by omega, h⟩, if_pos ⟨rfl, h⟩]
         ·rw [if_neg (fun k => h k.2), if_neg (fun k => h k.2)]
       rw [hkk.1, hkk.2.1, hkk.2.2.1, hkk.2.2.2]
       have HCL := Lib.hid hcols; have HNN := Lib.hid hn1
       clear hkk hcols hn1 HN1 HCC HCF
       obtain ⟨ot, ofs, om, ou⟩ := OO
       unfold kindG
       simp only at HCL HNN ⊢
       obtain ⟨no, hno⟩ : ∃ x, ofs.length = x := ⟨_, rfl⟩
       have HNO := Lib.hid hno
       rw [hno]
       have hbo : Below w4.heap.size w4 (w4.alloc (.cells #[.string ot, .slice OA no OC, .int .i64 om, .string ou] 52)) := by go_grown
       have HK5 := Lib.hid (heap_old HK4.out (.cells #[.string ot, .slice OA no OC, .int .i64 om, .string ou] 52)); have HD5 := Lib.hid (heap_new w4 (.cells #[.string ot, .slice OA no OC, .int .i64 om, .string ou] 52) rfl)
       have HO5 := Lib.hid (HO4.out.below hbo)
       clear hbo HK4 HO4 hno
       go_upto_region 25 with fail
       obtain ⟨ob, hob⟩ : ∃ x, w4.heap.size = x := ⟨_, rfl⟩
       rw [hob] at HD5
       try rw [hob]
       generalize w4.alloc (.cells #[.string ot, .slice OA no OC, .int .i64 om, .string ou] 52) = w5 at HK5 HD5 HO5 ⊢
       clear hob
       obtain ⟨⟨k0, k1, k2, k3⟩, -, -⟩ := obox4 HK5.out
       go_wp2_with fail
       go_loopw [93, 9] (fun i o wr => ∃ (i' : Nat) (X : Option Addr) (n c : Nat), i' <= nf /\ i = .int .i64 i' /\ o = .slice X n c /\ n <= 100 * j + 50 * j' + i' /\ Hid (LosO w1 wr X n c (fks.flatMap KL ++ (gks.take j').flatMap NL ++ (kfs.take i').flatMap N1)) /\ Hid (wr.heap[kb]? = some (.cells #[.string kt, .slice KA nf KC, .int .i64 km, .string ku] 52 (0, 0))) /\ Hid (wr.heap[ob]? = some (.cells #[.string ot, .slice OA no OC, .int .i64 om, .string ou] 52 (0, 0)))) (fun i o _ => nf - (intOf i).toNat)
       case atStart => exact ⟨0, X, n, c, by omega, rfl, rfl, by omega, Lib.hid (by rw [show (kfs.take 0).flatMap N1 = [] from rfl, List.append_nil]; exact HO5.out), HK5, HD5⟩
       case round =>
        clear HK5 HD5 HO5 hn hzr k0 k1 k2 k3
        obtain ⟨i, X, n, c, hi', rfl, rfl, hn, HO, HKB, HDB⟩ := hrel
        have hzr := HO.out.2.2.size
        rcases Nat.lt_or_ge i nf with hlt2 | hge2
        ·have hil : i < kfs.length := by rw [HNF.out]; exact hlt2
         have HNY := Lib.hid (show (kfs.take (i + 1)).flatMap N1 = (kfs.take i).flatMap N1 ++ N1 (cA kfs i) by rw [flat_take hil, cA_get hil])
         obtain ⟨cb, co, rfl, hcb, d0, d1, d2, d3, d4, d5, d6, d7⟩ := (HCO.out _ HO.out.2.2).cells hil
         have HN3 := Lib.hid (HNN.out (cA kfs i))
         obtain ⟨C, hC⟩ : ∃ x, cA kfs i = x := ⟨_, rfl⟩
         rw [hC] at d0 d1 d2 d3 d4 d5 d6 d7 HNY HN3
         obtain ⟨cn, ck, cw, cl, cm, cr, ci, ce⟩ := C
         simp only at d0 d1 d2 d3 d4 d5 d6 d7 HN3
         have hbc : Below wr.heap.size wr (wr.alloc (.cells #[.string cn, .int .i64 ck, .int .i64 cw, .int .i64 cl, .int .i64 cm, .bool cr, .int .u8 ci, .bool ce] 60)) := by go_grown
         have HKB2 := Lib.hid (heap_old HKB.out (.cells #[.string cn, .int .i64 ck, .int .i64 cw, .int .i64 cl, .int .i64 cm, .bool cr, .int .u8 ci, .bool ce] 60)); have HDB2 := Lib.hid (heap_old HDB.out (.cells #[.string cn, .int .i64 ck, .int .i64 cw, .int .i64 cl, .int .i64 cm, .bool cr, .int .u8 ci, .bool ce] 60)); have HCB2 := Lib.hid (heap_new wr (.cells #[.string cn, .int .i64 ck, .int .i64 cw, .int .i64 cl, .int .i64 cm, .bool cr, .int .u8 ci, .bool ce] 60) rfl)
         have HO2 := Lib.hid (HO.out.below hbc)
         clear hC hil hbc
         go_upto_region 28 with fail
         obtain ⟨cb2, hcb2⟩ : ∃ x, wr.heap.size = x := ⟨_, rfl⟩
         rw [hcb2] at HCB2
         try rw [hcb2]
         generalize wr.alloc (.cells #[.string cn, .int .i64 ck, .int .i64 cw, .int .i64 cl, .int .i64 cm, .bool cr, .int .u8 ci, .bool ce] 60) = w6 at HKB2 HDB2 HCB2 HO2 ⊢
         clear hcb2 d0 d1 d2 d3 d4 d5 d6 d7 hcb HKB HDB HO hzr
         obtain ⟨⟨k0, k1, k2, k3⟩, -, -⟩ := obox4 HKB2.out; obtain ⟨⟨o0, o1, o2, o3⟩, -, -⟩ := obox4 HDB2.out
         obtain ⟨⟨x0, x1, x2, x3, x4, x5, x6, x7⟩, -⟩ := obox8 HCB2.out
         cases ok with
         | false =>
          have HT := Lib.hid (show N1 ⟨cn, ck, cw, cl, cm, cr, ci, ce⟩ = [] from HN3.out.trans (if_neg (fun h => by cases h.1)))
          have HO8 := Lib.hid (show LosO w1 w6 X n c (fks.flatMap KL ++ (gks.take j').flatMap NL ++ (kfs.take (i + 1)).flatMap N1) by rw [HNY.out, HT.out, List.append_nil]; exact HO2.out)
          go_wp2
          go_roundw
          case rel => first | exact ⟨i + 1, X, n, c, by omega, by go_num, rfl, by omega, HO8, HKB2, HDB2⟩ | ((repeat apply Exists.intro); exact ⟨⟨i + 1, X, n, c, by omega, by go_num, rfl, by omega, HO8, HKB2, HDB2⟩, rfl⟩)
          case measure => simp [intOf]; omega
         | true =>
          cases ce with
          | false =>
           have HT := Lib.hid (show N1 ⟨cn, ck, cw, cl, cm, cr, ci, false⟩ = [] from HN3.out.trans (if_neg (fun h => by cases h.2.1)))
           have HO8 := Lib.hid (show LosO w1 w6 X n c (fks.flatMap KL ++ (gks.take j').flatMap NL ++ (kfs.take (i + 1)).flatMap N1) by rw [HNY.out, HT.out, List.append_nil]; exact HO2.out)
           go_wp2
           go_roundw
           case rel => first | exact ⟨i + 1, X, n, c, by omega, by go_num, rfl, by omega, HO8, HKB2, HDB2⟩ | ((repeat apply Exists.intro); exact ⟨⟨i + 1, X, n, c, by omega, by go_num, rfl, by omega, HO8, HKB2, HDB2⟩, rfl⟩)
           case measure => simp [intOf]; omega
          | true =>
           have HCA := Lib.hid (fun wx (h : Below w1.heap.size w1 wx) => colat_c ⟨ot, ofs, om, ou⟩ OA OC cn wx (HCL.out rfl wx h))
           unfold kindG at HCA
           simp only at HCA
           rw [HNO.out] at HCA
           have HIX := ixF_lo (nameIs cn) ofs
           obtain ⟨IX, hix⟩ : ∃ x, ixF (nameIs cn) ofs = x := ⟨_, rfl⟩
           rw [hix] at HCA HN3 HIX
           clear hix
           go_wp2_with fail
           refine (HCA.out _ HO2.out.2.2).mono ?_
           rintro _ w7 ⟨rfl, hb7⟩
           have HKB7 := Lib.hid (heap_below HKB2.out hb7); have HDB7 := Lib.hid (heap_below HDB2.out hb7); have HCB7 := Lib.hid (heap_below HCB2.out hb7)
           have HO7 := Lib.hid (HO2.out.below hb7)
           have hz7 := HO7.out.2.2.size
           clear k0 k1 k2 k3 o0 o1 o2 o3 x0 x1 x2 x3 x4 x5 x6 x7 hb7 HKB2 HDB2 HCB2 HO2 HCA
           by_cases hneg : IX < 0
           ·have HT := Lib.hid (show N1 ⟨cn, ck, cw, cl, cm, cr, ci, true⟩ = [⟨kt, cn, 4⟩] from HN3.out.trans (if_pos (by first | exact ⟨rfl, rfl, hneg⟩ | exact ⟨trivial, trivial, hneg⟩)))
            obtain ⟨⟨k0, k1, k2, k3⟩, -, -⟩ := obox4 HKB7.out
            obtain ⟨⟨x0, x1, x2, x3, x4, x5, x6, x7⟩, -⟩ := obox8 HCB7.out
            go_wp2_with (at_builtin; refine wpList_zpush rfl _ _ 30 rfl w1.heap.size 35 i0 (.agg #[.string ⟨#[]⟩, .string ⟨#[]⟩, .int .i64 0]) 3 40 Tryz.underlying30 hi hz0 hz1 hz2 rfl (by decide) (.slice X n c) n (losC (fks.flatMap KL ++ (gks.take j').flatMap NL ++ (kfs.take i).flatMap N1)) rfl HO7.out.2.1 [.string kt, .string cn, .int .i64 4] rfl rfl (by intro u hu; simp at hu; rcases hu with rfl | rfl | rfl <;> rfl) (by unfold maxLen; omega) (by omega) hz7 ?_; intro X8 c8 w8 hown7 hg7)
            have HO8 := Lib.hid (show LosO w1 w8 X8 (n + 1) c8 (fks.flatMap KL ++ (gks.take j').flatMap NL ++ (kfs.take (i + 1)).flatMap N1) by rw [HNY.out, HT.out, <- List.append_assoc]; exact HO7.out.push hown7 hg7)
            have HKB8 := Lib.hid (HO7.out.keep hg7 HKB7.out (by decide)); have HDB8 := Lib.hid (HO7.out.keep hg7 HDB7.out (by decide))
            go_roundw
            case rel => first | exact ⟨i + 1, X8, n + 1, c8, by omega, by go_num, rfl, by omega, HO8, HKB8, HDB8⟩ | ((repeat apply Exists.intro); exact ⟨⟨i + 1, X8, n + 1, c8, by omega, by go_num, rfl, by omega, HO8, HKB8, HDB8⟩, rfl⟩)
            case measure => simp [intOf]; omega
           ·have HT := Lib.hid (show N1 ⟨cn, ck, cw, cl, cm, cr, ci, true⟩ = [] from HN3.out.trans (if_neg (fun h => hneg h.2.2)))
            have HO8 := Lib.hid (show LosO w1 w7 X n c (fks.flatMap KL ++ (gks.take j').flatMap NL ++ (kfs.take (i + 1)).flatMap N1) by rw [HNY.out, HT.out, List.append_nil]; exact HO7.out)
            go_wp2
            go_roundw
            case rel => first | exact ⟨i + 1, X, n, c, by omega, by go_num, rfl, by omega, HO8, HKB7, HDB7⟩ | ((repeat apply Exists.intro); exact ⟨⟨i + 1, X, n, c, by omega, by go_num, rfl, by omega, HO8, HKB7, HDB7⟩, rfl⟩)
            case measure => simp [intOf]; omega
        ·obtain rfl : i = nf := by omega
         have HO7 := Lib.hid (show LosO w1 wr X n c (fks.flatMap KL ++ (gks.take (j' + 1)).flatMap NL) by
          have h := HO.out
          rw [show kfs.take i = kfs by rw [<- HNF.out, List.take_length], List.append_assoc] at h
          rw [HNX.out]
          exact h)
         go_wp2
         go_roundw
         case rel => first | exact ⟨j' + 1, X, n, c, by omega, by go_num, rfl, by omega, HO7⟩ | ((repeat apply Exists.intro); exact ⟨⟨j' + 1, X, n, c, by omega, by go_num, rfl, by omega, HO7⟩, rfl⟩)
         case measure => simp [intOf]; omega
      ·obtain rfl : j' = ng := by omega
       have HO3 := Lib.hid (show LosO w1 wr X n c (fks.flatMap KL ++ gks.flatMap NL) by have h := HO.out; rw [show gks.take j' = gks by rw [<- HNG.out, List.take_length]] at h; exact h)
       clear HO
       go_wp2
       go_ret2
       rw [HE.out]
       exact ⟨X, c, by rw [HO3.out.1]; rfl, own_los HO3.out.2.1 HO3.out.1, (HW.out _ HO3.out.2.2).2.2.2.2⟩
end Go.Proofs.YtaiabjiehpcaoaaGreatDoor
