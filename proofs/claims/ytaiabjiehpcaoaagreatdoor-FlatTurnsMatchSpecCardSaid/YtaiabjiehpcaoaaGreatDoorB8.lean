
/- The walk of the reference's Fits. (Printed by genB8.py.) -/
import Derived.Test.YtaiabjiehpcaoaaGreatDoorB7
import Derived.Test.YtaiabjiehpcaoaaGreatDoorG5
import Derived.Maps.AppendAt
namespace Go.Proofs.YtaiabjiehpcaoaaGreatDoor
open Go.RowKit Limb Nmb Work
set_option linter.unusedVariables false
set_option linter.unusedSimpArgs false
theorem lo3 {w : World} {g : Nat} {x y z : Value} {T : TypeId} (h : w.heap[g]? = some (.cells #[x, y, z] T (0, 0))) :
  w.cell? ⟨g, 0, none⟩ = some x /\ w.cell? ⟨g, 1, none⟩ = some y /\ w.cell? ⟨g, 2, none⟩ = some z /\ w.frozen? ⟨g, 2, none⟩ = false /\ g < w.heap.size :=
 ⟨cell_of_row w g 0 _ _ _ h, cell_of_row w g 1 _ _ _ h, cell_of_row w g 2 _ _ _ h, by simp [World.frozen?, h], lt_heap h⟩
theorem LosO.blk {w1 w : World} {X : Option Addr} {n c g : Nat} {l : List Loss} (h : LosO w1 w X n c l) (hb : w.heap.size <= g) : (Value.slice X n c).ownBlock ≠ some g := fun e => by
 rcases h.2.1.2 with ⟨hv, -⟩ | ⟨g', cap, cur, hv, _, h2, _⟩
 ·rw [hv] at e; cases e
 ·rw [hv] at e
  injection e with e
  have e : g' = g := e
  subst e
  have := lt_heap h2
  omega
theorem LosO.setFar {w1 w : World} {X : Option Addr} {n c g i : Nat} {l : List Loss} (h : LosO w1 w X n c l) (hne : (Value.slice X n c).ownBlock ≠ some g) (hg : w1.heap.size <= g) (u : Value) : LosO w1 (w.setCell ⟨g, i, none⟩ u) X n c l := by
 refine ⟨h.1, ⟨h.2.1.1, ?_⟩, h.2.2.setCell (p := ⟨g, i, none⟩) hg u⟩
 rcases h.2.1.2 with hn | ⟨g', cap, cur, hv, hg', hh, r⟩
 ·exact .inl hn
 ·refine .inr ⟨g', cap, cur, hv, hg', heap_far hh (p := ⟨g, i, none⟩) (fun e => hne ?_) u, r⟩
  have e : g' = g := e
  rw [hv, e]
  rfl
theorem LosO.keepNe {wr w' : World} {v : Value} {g : Nat} {o : Obj} (hne : v.ownBlock ≠ some g) (hg : wr.grownBy w' v.ownBlock) (hh : wr.heap[g]? = some o) : w'.heap[g]? = some o := (hg.block g (lt_heap hh) fun k => hne k.symm).trans hh
theorem wpList_zpushA {P : Program} {w : World} {ops : Array Oper} {rest : List Oper} {o : Oper} {a : Act} {Q : Exit -> Act -> World -> Prop}
  (hg : o.guard = none) (s x : Operand) (t : TypeId) (hop : o.op = Op.call { callee := Callee.builtin Builtin.append, args := #[s, x], argTypes := #[t, t] })
  (base : Nat) (e : TypeId) (i : TypeInfo) (z : Value) (size bytes : Nat) (h1 : P.underlying t = some (.slice e)) (h2 : P.info? e = some i) (hz : i.zero = some z) (h4 : i.size = size) (hby : i.bytes = bytes) (hzs : z.cells.size = size) (hsz : 0 < size)
  (v : Value) (n : Nat) (xs : List Value) (hs : a.eval s = v) (hown : w.ownsRow base e size v n xs) (us : List Value) (hus : us.length = size) (hx : a.eval x = .slice (some ⟨w.heap.size, 0, none⟩) 1 1)
  (h1c : ∀ u ∈ us, u.oneCell' = true) (b1 : n + 1 <= maxLen) (b2 : (n + 1) * bytes <= 140737488355328) (hbase : base <= w.heap.size)
  (hK : ∀ A c w', w'.ownsRow base e size (.slice A (n + 1) c) (n + 1) (xs ++ us) -> w.grownBy w' v.ownBlock -> ((Value.slice A (n + 1) c).ownBlock = v.ownBlock ∨ (Value.slice A (n + 1) c).ownBlock = some (w.heap.size + 1)) -> wpList P ops Q rest (a.put o.dst (.slice A (n + 1) c)) w') :
  wpList P ops Q (o :: rest) a (w.alloc (.cells us.toArray e)) :=
 wpList_append_own_at _ hg s x t hop base e i z size bytes h1 h2 hz h4 hby hzs hsz v n xs hs (hown.alloc _) ⟨w.heap.size, 0, none⟩ 1 1 us hx (by omega) (zk_cells w us e) h1c b1 b2 (by simp; omega) fun v' w' r1 r2 _ r3 => by
  obtain ⟨A, c, rfl⟩ := own_slice r1
  rw [World.size_alloc] at r3
  exact hK A c w' r1 (grown_alloc r2) r3
theorem ite_iff {p q : Prop} [Decidable p] [Decidable q] {α : Type} {x y : α} (h : p ↔ q) : (if p then x else y) = if q then x else y := by
 by_cases hp : p
 ·rw [if_pos hp, if_pos (h.1 hp)]
 ·rw [if_neg hp, if_neg (fun k => hp (h.2 k))]
theorem lossF_eq (f g : Fmt) (t : ByteArray) (c : Col) (k : RKd) : lossesF f g t c k = if ixF (nameIs c.name) k.fields < 0 then [⟨t, c.name, 2⟩] else if (cA k.fields (ixF (nameIs c.name) k.fields).toNat).kind ≠ c.kind then [⟨t, c.name, 3⟩] else (if (cA k.fields (ixF (nameIs c.name) k.fields).toNat).need = true /\ c.need = false then [⟨t, c.name, 4⟩] else []) ++ (if lossB f g c (cA k.fields (ixF (nameIs c.name) k.fields).toNat) = true then [⟨t, c.name, 5⟩] else []) := rfl
set_option maxHeartbeats 16000000 in
set_option maxRecDepth 100000 in
theorem rfits_c (f g : Fmt) (A B : Option Addr) (cp cq : Nat) (FA GA : Nat -> Option Addr) (FC GC : Nat -> Nat) (w : World) (ho : Kinds w A f.kinds FA FC) (hg : Kinds w B g.kinds GA GC) (hc : f.kinds.length <= cp) (hd : g.kinds.length <= cq) (hm : 0 <= f.mark /\ f.mark <= 255) (hq : 0 <= f.quote /\ f.quote <= 255) (hm2 : 0 <= g.mark /\ g.mark <= 255) (hq2 : 0 <= g.quote /\ g.quote <= 255) (ht : Tab w) :
  Calls Tryz.prog 9 #[fmtG f A cp, fmtG g B cq] w (RetFits (fitsR f g) w) := by
 obtain ⟨i0, hi, hz0, hz1, hz2⟩ := info_parts Tryz.infoLos
 have HC1 := Lib.hid (fun w h => rcheck_c f A cp FA FC w h hc hm hq)
 have HC2 := Lib.hid (fun w h => rcheck_c g B cq GA GC w h hd hm2 hq2)
 have HKF := Lib.hid ho; have HKG := Lib.hid hg; have HTB := Lib.hid ht
 have HKA1 := Lib.hid (fun t w h => rkindof_c f A cp FA FC t w h)
 have HKA2 := Lib.hid (fun t w h => rkindof_c g B cq GA GC t w h)
 have HIL := Lib.hid (fun c o hk hko wx h => risless_c f g A B cp cq c o wx hm hm2 hk hko h)
 have HLL := Lib.hid (fun hf hg c o hc ho hk => less_loss (f := f) (g := g) hf hg hm hm2 (c := c) (o := o) hc ho hk (smp_ne hc.width.1))
 have HFK := Lib.hid (fun h => checkF_ok (f := f) h); have HGK := Lib.hid (fun h => checkF_ok (f := g) h)
 obtain ⟨F1, hF1⟩ : ∃ x, checkF f = x := ⟨_, rfl⟩
 obtain ⟨F2, hF2⟩ : ∃ x, checkF g = x := ⟨_, rfl⟩
 obtain ⟨R, hR⟩ : ∃ x, fitsR f g = x := ⟨_, rfl⟩
 have HR := Lib.hid (show (if F1 ≠ 0 then ([], F1) else if F2 ≠ 0 then ([], F2) else (fitsL f g, 0)) = R by
  rw [<- hR, <- hF1, <- hF2]
  unfold fitsR fitsE
  by_cases h1 : checkF f = 0
  ·rw [if_neg (fun h => h h1), if_neg (c := checkF f ≠ 0) (fun h => h h1)]
  ·rw [if_pos h1, if_pos (c := checkF f ≠ 0) h1, if_pos h1])
 rw [hF1] at HC1 HFK
 rw [hF2] at HC2 HGK
 rw [hR]
 clear hF1 hF2 hR ho hg ht
 unfold RetI at HC1 HC2
 unfold RetB at HIL
 obtain ⟨fm, fq, fks, fd, ft, fc, fs0⟩ := f
 obtain ⟨gm, gq, gks, gd, gt, gc, gs⟩ := g
 unfold fmtG at HC1 HC2 HKA1 HKA2 HIL ⊢
 simp only at HC1 HC2 HKA1 HKA2 HIL HKF HKG hc hd ⊢
 have hnk' : fks.length <= 9223372036854775807 := HKF.out.1.2
 have hng' : gks.length <= 9223372036854775807 := HKG.out.1.2
 obtain ⟨nk, hnk⟩ : ∃ x, fks.length = x := ⟨_, rfl⟩
 obtain ⟨ng, hng⟩ : ∃ x, gks.length = x := ⟨_, rfl⟩
 have HNK := Lib.hid hnk; have HNG := Lib.hid hng
 rw [hnk] at HC1 HKA1 HIL hc hnk' ⊢
 rw [hng] at HC2 HKA2 HIL hd hng' ⊢
 clear hnk hng
 have hP1 := heap_old (heap_new w (.cells #[.int .u8 fm, .int .u8 fq, .slice A nk cp, .string fd, .string ft, .string fc, .string fs0] 24) rfl) (.cells #[.int .u8 gm, .int .u8 gq, .slice B ng cq, .string gd, .string gt, .string gc, .string gs] 24)
 have hP2 := heap_new (w.alloc (.cells #[.int .u8 fm, .int .u8 fq, .slice A nk cp, .string fd, .string ft, .string fc, .string fs0] 24)) (.cells #[.int .u8 gm, .int .u8 gq, .slice B ng cq, .string gd, .string gt, .string gc, .string gs] 24) (g := w.heap.size + 1) (by simp)
 have hB1 : Below w.heap.size w ((w.alloc (.cells #[.int .u8 fm, .int .u8 fq, .slice A nk cp, .string fd, .string ft, .string fc, .string fs0] 24)).alloc (.cells #[.int .u8 gm, .int .u8 gq, .slice B ng cq, .string gd, .string gt, .string gc, .string gs] 24)) := by go_grown
 go_enter Tryz.func9, Tryz.ntmps9
 go_upto_region 1 with fail
 generalize (w.alloc (.cells #[.int .u8 fm, .int .u8 fq, .slice A nk cp, .string fd, .string ft, .string fc, .string fs0] 24)).alloc (.cells #[.int .u8 gm, .int .u8 gq, .slice B ng cq, .string gd, .string gt, .string gc, .string gs] 24) = w1 at hP1 hP2 hB1 ⊢
 have HW := Lib.hid (show ∀ wx, Below w1.heap.size w1 wx -> wx.heap[w.heap.size]? = some (.cells #[.int .u8 fm, .int .u8 fq, .slice A nk cp, .string fd, .string ft, .string fc, .string fs0] 24 (0, 0)) /\ wx.heap[w.heap.size + 1]? = some (.cells #[.int .u8 gm, .int .u8 gq, .slice B ng cq, .string gd, .string gt, .string gc, .string gs] 24 (0, 0)) /\ Kinds wx A fks FA FC /\ Kinds wx B gks GA GC /\ Tab wx /\ Below w.heap.size w wx from fun wx h => by
  have h2 := below_then h hB1 hB1.size
  exact ⟨heap_below hP1 h, heap_below hP2 h, HKF.out.below h2, HKG.out.below h2, HTB.out.below h2, h2⟩)
 clear hP1 hP2 hB1
 obtain ⟨q1, -, qk, -, -, -⟩ := HW.out _ (Below.refl _ _)
 obtain ⟨⟨p0, p1, p2, p3, p4, p5, p6⟩, -⟩ := obox7 q1
 go_wp2_with fail
 refine (HC1.out _ qk).mono ?_
 rintro _ w2 ⟨rfl, hb2⟩
 have HB2 := Lib.hid hb2
 clear q1 qk p0 p1 p2 p3 p4 p5 p6 hb2 HC1
 by_cases hf0 : F1 = 0
 case neg =>
  have HE := Lib.hid (show R = ([], F1) from HR.out.symm.trans (if_pos hf0))
  have he2 : (F1 != 0) = true := by simpa using hf0
  have he3 : ¬ F1 = 0 := hf0
  clear hf0
  go_wp2
  go_ret2
  rw [HE.out]
  exact ⟨none, 0, rfl, fun h => absurd h (Nat.not_lt_zero _), (HW.out _ HB2.out).2.2.2.2.2⟩
 subst hf0
 obtain ⟨-, q2, -, qg, -, -⟩ := HW.out _ HB2.out
 obtain ⟨⟨p0, p1, p2, p3, p4, p5, p6⟩, -⟩ := obox7 q2
 go_wp2_with fail
 refine (HC2.out _ qg).mono ?_
 rintro _ w3 ⟨rfl, hb3⟩
 have HB3 := Lib.hid (below_then hb3 HB2.out HB2.out.size)
 clear q2 qg p0 p1 p2 p3 p4 p5 p6 hb3 HC2 HB2
 by_cases hg0 : F2 = 0
 case neg =>
  have HE := Lib.hid (show R = ([], F2) from HR.out.symm.trans ((if_neg (fun h => h rfl)).trans (if_pos hg0)))
  have he2 : (F2 != 0) = true := by simpa using hg0
  have he3 : ¬ F2 = 0 := hg0
  clear hg0
  go_wp2
  go_ret2
  rw [HE.out]
  exact ⟨none, 0, rfl, fun h => absurd h (Nat.not_lt_zero _), (HW.out _ HB3.out).2.2.2.2.2⟩
 subst hg0
 have HE := Lib.hid (show R = (fitsL ⟨fm, fq, fks, fd, ft, fc, fs0⟩ ⟨gm, gq, gks, gd, gt, gc, gs⟩, 0) from HR.out.symm.trans ((if_neg (fun h => h rfl)).trans (if_neg (fun h => h rfl))))
 have HFM := Lib.hid (HFK.out (by trivial)); have HGM := Lib.hid (HGK.out (by trivial))
 have HLL2 := Lib.hid (HLL.out HFM.out HGM.out)
 clear HR HFK HGK HLL
 have HFL := Lib.hid (show fitsL ⟨fm, fq, fks, fd, ft, fc, fs0⟩ ⟨gm, gq, gks, gd, gt, gc, gs⟩ = fks.flatMap (kindLoss ⟨fm, fq, fks, fd, ft, fc, fs0⟩ ⟨gm, gq, gks, gd, gt, gc, gs⟩) ++ gks.flatMap (needLoss ⟨fm, fq, fks, fd, ft, fc, fs0⟩) from rfl)
 obtain ⟨KL, hKL⟩ : ∃ x, kindLoss ⟨fm, fq, fks, fd, ft, fc, fs0⟩ ⟨gm, gq, gks, gd, gt, gc, gs⟩ = x := ⟨_, rfl⟩
 obtain ⟨NL, hNL⟩ : ∃ x, needLoss ⟨fm, fq, fks, fd, ft, fc, fs0⟩ = x := ⟨_, rfl⟩
 have HKL := Lib.hid hKL; have HNL := Lib.hid hNL
 rw [hKL, hNL] at HFL
 rw [HFL.out] at HE
 clear hKL hNL HFL
 have hnk30 : nk <= 30 := by rw [<- HNK.out]; exact HFM.out.some.2
 have hng30 : ng <= 30 := by rw [<- HNG.out]; exact HGM.out.some.2
 obtain ⟨⟨p0, p1, p2, p3, p4, p5, p6⟩, -⟩ := obox7 (HW.out _ HB3.out).1
 go_wp2_with fail
 go_loopw [35, 8] (fun i o wr => ∃ (j : Nat) (X : Option Addr) (n c : Nat), j <= nk /\ i = .int .i64 j /\ o = .slice X n c /\ n <= 100 * j /\ Hid (LosO w1 wr X n c ((fks.take j).flatMap KL))) (fun i o _ => nk - (intOf i).toNat)
 case atStart => exact ⟨0, none, 0, 0, by omega, rfl, rfl, by omega, Lib.hid ⟨rfl, World.ownsRow_nil _ _ _ _, HB3.out⟩⟩
 case round =>
  clear HB3 p0 p1 p2 p3 p4 p5 p6
  obtain ⟨j, X, n, c, hj, rfl, rfl, hn, HO⟩ := hrel
  have hzr := HO.out.2.2.size
  rcases Nat.lt_or_ge j nk with hlt | hge
  ·have tk : decide ((j : Int) < (nk : Int)) = true := decide_eq_true (by omega)
   obtain ⟨-, -, qk, -, -, -⟩ := HW.out _ HO.out.2.2
   have hjl : j < fks.length := by rw [HNK.out]; exact hlt
   obtain ⟨b, off, rfl, hbw, c0, c1, c2, c3⟩ := qk.cells hjl
   have HCO := Lib.hid (fun wx h => kinds_cols (HW.out wx h).2.2.1 hjl)
   have HNX := Lib.hid (show (fks.take (j + 1)).flatMap KL = (fks.take j).flatMap KL ++ KL (kA fks j) by rw [<- kA_get hjl]; exact flat_take hjl)
   have HCK := Lib.hid (fun i hi => (HFM.out.kinds j hjl).cols i hi)
   have hmny := (HFM.out.kinds j hjl).many
   simp only at HCK hmny
   obtain ⟨K, hK⟩ : ∃ x, kA fks j = x := ⟨_, rfl⟩
   rw [hK] at c0 c1 c2 c3 HCO HNX HCK hmny
   generalize FA j = KA at c1 HCO
   generalize FC j = KC at c1
   obtain ⟨kt, kfs, km, ku⟩ := K
   simp only at c0 c1 c2 c3 HCO HCK hmny
   obtain ⟨nf, hnf⟩ : ∃ x, kfs.length = x := ⟨_, rfl⟩
   have HNF := Lib.hid hnf
   rw [hnf] at c1 hmny
   have HK3 := Lib.hid (heap_new wr (.cells #[.string kt, .slice KA nf KC, .int .i64 km, .string ku] 52) rfl)
   have hbk : Below wr.heap.size wr (wr.alloc (.cells #[.string kt, .slice KA nf KC, .int .i64 km, .string ku] 52)) := by go_grown
   have HO3 := Lib.hid (HO.out.below hbk)
   clear hK hnf hjl qk
   go_upto_region 11 with fail
   obtain ⟨kb, hkb⟩ : ∃ x, wr.heap.size = x := ⟨_, rfl⟩
   rw [hkb] at HK3
   try rw [hkb]
   generalize wr.alloc (.cells #[.string kt, .slice KA nf KC, .int .i64 km, .string ku] 52) = w3' at HK3 HO3 ⊢
   clear hkb c0 c1 c2 c3 hbw hbk HO
   obtain ⟨-, q2, -, qg, -, -⟩ := HW.out _ HO3.out.2.2
   obtain ⟨⟨q0, q1, q2, q3, q4, q5, q6⟩, -⟩ := obox7 q2
   obtain ⟨⟨k0, k1, k2, k3⟩, -, -⟩ := obox4 HK3.out
   have HCC := Lib.hid (kat_cases ⟨gm, gq, gks, gd, gt, gc, gs⟩ GA GC kt)
   simp only at HCC
   go_wp2_with fail
   refine (HKA2.out kt _ qg).mono ?_
   rintro _ w4 ⟨rfl, hb4⟩
   have HK4 := Lib.hid (heap_below HK3.out hb4)
   have HO4 := Lib.hid (HO3.out.below hb4)
   clear q0 q1 q2 q3 q4 q5 q6 k0 k1 k2 k3 qg hb4 HK3 HO3
   rcases HCC.out with ⟨e1, e2, -, -⟩ | ⟨k', hk', e1, e2, -, -⟩
   ·have HT := Lib.hid (show KL ⟨kt, kfs, km, ku⟩ = [⟨kt, ⟨#[]⟩, 1⟩] by rw [<- HKL.out]; unfold kindLoss; simp only; rw [e1]; exact if_pos (by decide))
    have e3 : ixF (tagIs kt) gks = -1 := e1
    rw [e3]
    clear e1 e2 e3 HCC
    have td : decide ((-1 : Int) < 0) = true := by decide
    obtain ⟨⟨k0, k1, k2, k3⟩, -, -⟩ := obox4 HK4.out
    have hz5 := HO4.out.2.2.size
    go_wp2_with (at_builtin; refine wpList_zpush rfl _ _ 30 rfl w1.heap.size 35 i0 (.agg #[.string ⟨#[]⟩, .string ⟨#[]⟩, .int .i64 0]) 3 40 Tryz.underlying30 hi hz0 hz1 hz2 rfl (by decide) (.slice X n c) n (losC ((fks.take j).flatMap KL)) rfl HO4.out.2.1 [.string kt, .string ⟨#[]⟩, .int .i64 1] rfl rfl (by intro u hu; simp at hu; rcases hu with rfl | rfl | rfl <;> rfl) (by unfold maxLen; omega) (by omega) hz5 ?_; intro X7 c7 w7 hown7 hg7)
    have HO7 := Lib.hid (show LosO w1 w7 X7 (n + 1) c7 ((fks.take (j + 1)).flatMap KL) by rw [HNX.out, HT.out]; exact HO4.out.push hown7 hg7)
    go_roundw
    case rel => first | exact ⟨j + 1, X7, n + 1, c7, by omega, by go_num, rfl, by omega, HO7⟩ | ((repeat apply Exists.intro); exact ⟨⟨j + 1, X7, n + 1, c7, by omega, by go_num, rfl, by omega, HO7⟩, rfl⟩)
    case measure => simp [intOf]; omega
   have HT := Lib.hid (show KL ⟨kt, kfs, km, ku⟩ = kfs.flatMap (fun c => lossesF ⟨fm, fq, fks, fd, ft, fc, fs0⟩ ⟨gm, gq, gks, gd, gt, gc, gs⟩ kt c (kA gks k')) by rw [<- HKL.out]; unfold kindLoss; simp only; rw [e1, e2]; exact if_neg (by omega))
   have e3 : ixF (tagIs kt) gks = (k' : Int) := e1
   have hk2 : k' < gks.length := hk'
   have hkn : k' < ng := by rw [<- HNG.out]; exact hk2
   rw [e3]
   clear e1 e2 e3 HCC hk'
   have td : decide ((k' : Int) < 0) = false := decide_eq_false (by omega)
   have HCG := Lib.hid (fun wx h => kinds_cols (HW.out wx h).2.2.2.1 hk2)
   have HGC := Lib.hid (fun wx h => (HW.out wx h).2.2.2.1.cells hk2)
   have HCK2 := Lib.hid (fun i hi => (HGM.out.kinds k' hk2).cols i hi)
   simp only at HCK2
   obtain ⟨O, hO⟩ : ∃ x, kA gks k' = x := ⟨_, rfl⟩
   rw [hO] at HT HCG HGC HCK2
   generalize GA k' = OA at HCG HGC
   generalize GC k' = OC at HGC
   have HCA := Lib.hid (fun t wx (h : Below w1.heap.size w1 wx) => rcolof_c O OA OC t wx (HCG.out wx h))
   have HIX := Lib.hid (fun t => ixF_spec (nameIs t) O.fields)
   have HLQ := Lib.hid (fun c => lossF_eq ⟨fm, fq, fks, fd, ft, fc, fs0⟩ ⟨gm, gq, gks, gd, gt, gc, gs⟩ kt c O)
   obtain ⟨ot, ofs, om, ou⟩ := O
   unfold kindG at HCA
   simp only at HCG HGC HCK2 HCA HIX HLQ
   obtain ⟨no, hno⟩ : ∃ x, ofs.length = x := ⟨_, rfl⟩
   have HNO := Lib.hid hno
   rw [hno] at HCA HGC
   clear hno hO
   obtain ⟨bb, bo, rfl, -, -, -, -, -⟩ := HGC.out _ HO4.out.2.2
   have HGK := Lib.hid (show ∀ wx, Below w1.heap.size w1 wx -> wx.cell? ⟨bb, bo + k' * 4, none⟩ = some (.string ot) /\ wx.cell? ⟨bb, bo + k' * 4 + 1, none⟩ = some (.slice OA no OC) /\ wx.cell? ⟨bb, bo + k' * 4 + 2, none⟩ = some (.int .i64 om) /\ wx.cell? ⟨bb, bo + k' * 4 + 3, none⟩ = some (.string ou) from fun wx h => by
    obtain ⟨b2, o2, h2, -, x0, x1, x2, x3⟩ := HGC.out wx h
    injection h2 with h2
    injection h2 with h3 h4
    subst h3 h4
    exact ⟨x0, x1, x2, x3⟩)
   clear HGC
   obtain ⟨LF, hLF⟩ : ∃ x, (fun c => lossesF ⟨fm, fq, fks, fd, ft, fc, fs0⟩ ⟨gm, gq, gks, gd, gt, gc, gs⟩ kt c ⟨ot, ofs, om, ou⟩) = x := ⟨_, rfl⟩
   have HLF := Lib.hid hLF
   rw [hLF] at HT
   clear hLF
   have a3 : (0 : Int) <= (k' : Int) := by omega
   have a4 : (k' : Int) < (ng : Int) := by omega
   obtain ⟨⟨k0, k1, k2, k3⟩, -, -⟩ := obox4 HK4.out
   go_wp2_with fail
   go_loopw [54, 8] (fun i o wr => ∃ (i' : Nat) (X : Option Addr) (n c : Nat), i' <= nf /\ i = .int .i64 i' /\ o = .slice X n c /\ n <= 100 * j + 2 * i' /\ Hid (LosO w1 wr X n c ((fks.take j).flatMap KL ++ (kfs.take i').flatMap LF)) /\ Hid (wr.heap[kb]? = some (.cells #[.string kt, .slice KA nf KC, .int .i64 km, .string ku] 52 (0, 0)))) (fun i o _ => nf - (intOf i).toNat)
   case atStart => exact ⟨0, X, n, c, by omega, rfl, rfl, by omega, Lib.hid (by rw [show (kfs.take 0).flatMap LF = [] from rfl, List.append_nil]; exact HO4.out), HK4⟩
   case round =>
    clear HK4 HO4 hn hzr k0 k1 k2 k3
    obtain ⟨i, X, n, c, hi', rfl, rfl, hn, HO, HKB⟩ := hrel
    have hzr := HO.out.2.2.size
    rcases Nat.lt_or_ge i nf with hlt2 | hge2
    ·have hil : i < kfs.length := by rw [HNF.out]; exact hlt2
     have tk2 : decide ((i : Int) < (nf : Int)) = true := decide_eq_true (by omega)
     have HNY := Lib.hid (show (kfs.take (i + 1)).flatMap LF = (kfs.take i).flatMap LF ++ lossesF ⟨fm, fq, fks, fd, ft, fc, fs0⟩ ⟨gm, gq, gks, gd, gt, gc, gs⟩ kt (cA kfs i) ⟨ot, ofs, om, ou⟩ by rw [flat_take hil, cA_get hil, <- HLF.out])
     obtain ⟨cb, co, rfl, hcb, d0, d1, d2, d3, d4, d5, d6, d7⟩ := (HCO.out _ HO.out.2.2).cells hil
     have HCKC := Lib.hid (HCK.out i hil)
     have HLQC := Lib.hid (HLQ.out (cA kfs i))
     obtain ⟨C, hC⟩ : ∃ x, cA kfs i = x := ⟨_, rfl⟩
     rw [hC] at d0 d1 d2 d3 d4 d5 d6 d7 HNY HCKC HLQC
     obtain ⟨cn, ck, cw, cl, cm, cr, ci, ce⟩ := C
     simp only at d0 d1 d2 d3 d4 d5 d6 d7 HLQC
     have HIXC := Lib.hid (HIX.out cn)
     have HCAC := Lib.hid (fun wx h => HCA.out cn wx h)
     obtain ⟨l2, hl2⟩ : ∃ x, lossesF ⟨fm, fq, fks, fd, ft, fc, fs0⟩ ⟨gm, gq, gks, gd, gt, gc, gs⟩ kt ⟨cn, ck, cw, cl, cm, cr, ci, ce⟩ ⟨ot, ofs, om, ou⟩ = x := ⟨_, rfl⟩
     rw [hl2] at HNY HLQC
     obtain ⟨IX, hIX⟩ : ∃ x, ixF (nameIs cn) ofs = x := ⟨_, rfl⟩
     rw [hIX] at HIXC HCAC HLQC
     have hbc : Below wr.heap.size wr (wr.alloc (.cells #[.string cn, .int .i64 ck, .int .i64 cw, .int .i64 cl, .int .i64 cm, .bool cr, .int .u8 ci, .bool ce] 60)) := by go_grown
     have HKB2 := Lib.hid (heap_old HKB.out (.cells #[.string cn, .int .i64 ck, .int .i64 cw, .int .i64 cl, .int .i64 cm, .bool cr, .int .u8 ci, .bool ce] 60)); have HCB2 := Lib.hid (heap_new wr (.cells #[.string cn, .int .i64 ck, .int .i64 cw, .int .i64 cl, .int .i64 cm, .bool cr, .int .u8 ci, .bool ce] 60) rfl)
     have HO2 := Lib.hid (HO.out.below hbc)
     clear hl2 hC hil hbc hIX
     go_upto_region 17 with fail
     obtain ⟨cb2, hcb2⟩ : ∃ x, wr.heap.size = x := ⟨_, rfl⟩
     rw [hcb2] at HCB2
     try rw [hcb2]
     generalize wr.alloc (.cells #[.string cn, .int .i64 ck, .int .i64 cw, .int .i64 cl, .int .i64 cm, .bool cr, .int .u8 ci, .bool ce] 60) = w6 at HKB2 HCB2 HO2 ⊢
     clear hcb2 d0 d1 d2 d3 d4 d5 d6 d7 hcb HKB HO hzr
     have HSC := Lib.hid (show ∀ wx, Below w6.heap.size w6 wx -> (fun w' : World => w'.cell? ⟨w.heap.size + 1, 0, none⟩ = some (.int .u8 gm) /\ w'.cell? ⟨w.heap.size + 1, 1, none⟩ = some (.int .u8 gq) /\ w'.cell? ⟨w.heap.size + 1, 2, none⟩ = some (.slice (some ⟨bb, bo, none⟩) ng cq) /\ w'.cell? ⟨w.heap.size + 1, 3, none⟩ = some (.string gd) /\ w'.cell? ⟨w.heap.size + 1, 4, none⟩ = some (.string gt) /\ w'.cell? ⟨w.heap.size + 1, 5, none⟩ = some (.string gc) /\ w'.cell? ⟨w.heap.size + 1, 6, none⟩ = some (.string gs) /\ w'.cell? ⟨bb, bo + k' * 4, none⟩ = some (.string ot) /\ w'.cell? ⟨bb, bo + k' * 4 + 1, none⟩ = some (.slice OA no OC) /\ w'.cell? ⟨bb, bo + k' * 4 + 2, none⟩ = some (.int .i64 om) /\ w'.cell? ⟨bb, bo + k' * 4 + 3, none⟩ = some (.string ou) /\ w'.cell? ⟨cb2, 0, none⟩ = some (.string cn)) wx from fun wx h => by
      have h2 := (HO2.out.below h).2.2
      obtain ⟨⟨q0, q1, q2, q3, q4, q5, q6⟩, -⟩ := obox7 (HW.out _ h2).2.1
      obtain ⟨x0, x1, x2, x3⟩ := HGK.out _ h2
      obtain ⟨⟨y0, y1, y2, y3, y4, y5, y6, y7⟩, -⟩ := obox8 (heap_below HCB2.out h)
      exact ⟨q0, q1, q2, q3, q4, q5, q6, x0, x1, x2, x3, y0⟩)
     have T5 : Below w6.heap.size w6 w6 := Below.refl _ _
     go_region_held3 (fun w' : World => w'.cell? ⟨w.heap.size + 1, 0, none⟩ = some (.int .u8 gm) /\ w'.cell? ⟨w.heap.size + 1, 1, none⟩ = some (.int .u8 gq) /\ w'.cell? ⟨w.heap.size + 1, 2, none⟩ = some (.slice (some ⟨bb, bo, none⟩) ng cq) /\ w'.cell? ⟨w.heap.size + 1, 3, none⟩ = some (.string gd) /\ w'.cell? ⟨w.heap.size + 1, 4, none⟩ = some (.string gt) /\ w'.cell? ⟨w.heap.size + 1, 5, none⟩ = some (.string gc) /\ w'.cell? ⟨w.heap.size + 1, 6, none⟩ = some (.string gs) /\ w'.cell? ⟨bb, bo + k' * 4, none⟩ = some (.string ot) /\ w'.cell? ⟨bb, bo + k' * 4 + 1, none⟩ = some (.slice OA no OC) /\ w'.cell? ⟨bb, bo + k' * 4 + 2, none⟩ = some (.int .i64 om) /\ w'.cell? ⟨bb, bo + k' * 4 + 3, none⟩ = some (.string ou) /\ w'.cell? ⟨cb2, 0, none⟩ = some (.string cn))
      (first | (with_reducible exact HSC.out _ T6) | (refine HSC.out _ ?_; go_grown))
      (first | (go_at_call 33; refine (HCAC.out _ (HO2.out.below (Below.refl _ _).drew).2.2).mono ?_; rintro e w7 ⟨rfl, hb7'⟩; (have T6 : Below w6.heap.size w6 w7 := by exact ⟨hb7'.os, hb7'.tape, hb7'.output, hb7'.size, hb7'.block⟩)))
     have HKB7 := Lib.hid (heap_below HKB2.out T6); have HCB7 := Lib.hid (heap_below HCB2.out T6); have HO7 := Lib.hid (HO2.out.below T6)
     have HGS := Lib.hid (fun wx (h : Below w7.heap.size w7 wx) => HSC.out wx (below_then h T6 T6.size))
     clear T5 T6 HKB2 HCB2 HO2 HSC HCAC
     obtain ⟨⟨k0, k1, k2, k3⟩, -, -⟩ := obox4 HKB7.out
     obtain ⟨⟨x0, x1, x2, x3, x4, x5, x6, x7⟩, -⟩ := obox8 HCB7.out
     have HLB8 := Lib.hid (heap_new w7 (.cells #[.string kt, .string cn, .int .i64 2] 35) rfl)
     have HB8 := Lib.hid (show Below w7.heap.size w7 (w7.alloc (.cells #[.string kt, .string cn, .int .i64 2] 35)) by go_grown)
     go_upto_region 19 with fail
     obtain ⟨lb, hlb⟩ : ∃ x, w7.heap.size = x := ⟨_, rfl⟩
     have HLBE := Lib.hid hlb
     rw [hlb] at HLB8
     try rw [hlb]
     generalize w7.alloc (.cells #[.string kt, .string cn, .int .i64 2] 35) = w8 at HLB8 HB8 ⊢
     clear hlb k0 k1 k2 k3 x0 x1 x2 x3 x4 x5 x6 x7
     have hz8 := (HO7.out.below HB8.out).2.2.size
     rcases HIXC.out with ⟨e1, -⟩ | ⟨ic, hic, e1, -, -⟩
     ·have HLV := Lib.hid (show l2 = [⟨kt, cn, 2⟩] by rw [HLQC.out, e1]; exact if_pos (by decide))
      rw [e1]
      have td2 : decide ((-1 : Int) < 0) = true := by decide
      have HO8 := Lib.hid (HO7.out.below HB8.out)
      have HKB8 := Lib.hid (heap_below HKB7.out HB8.out)
      obtain ⟨l0, l1, l2', -, -⟩ := lo3 HLB8.out
      clear e1
      go_wp2_with (at_builtin; refine wpList_zpush rfl _ _ 30 rfl w1.heap.size 35 i0 (.agg #[.string ⟨#[]⟩, .string ⟨#[]⟩, .int .i64 0]) 3 40 Tryz.underlying30 hi hz0 hz1 hz2 rfl (by decide) (.slice X n c) n (losC ((fks.take j).flatMap KL ++ (kfs.take i).flatMap LF)) rfl HO8.out.2.1 [.string kt, .string cn, .int .i64 2] rfl rfl (by intro u hu; simp at hu; rcases hu with rfl | rfl | rfl <;> rfl) (by unfold maxLen; omega) (by omega) hz8 ?_; intro X9 c9 w9 hown7 hg7)
      have HO9 := Lib.hid (show LosO w1 w9 X9 (n + 1) c9 ((fks.take j).flatMap KL ++ (kfs.take (i + 1)).flatMap LF) by rw [HNY.out, HLV.out, <- List.append_assoc]; exact HO8.out.push hown7 hg7)
      have HKB9 := Lib.hid (HO8.out.keep hg7 HKB8.out (by decide))
      go_roundw
      case rel => first | exact ⟨i + 1, X9, n + 1, c9, by omega, by go_num, rfl, by omega, HO9, HKB9⟩ | ((repeat apply Exists.intro); exact ⟨⟨i + 1, X9, n + 1, c9, by omega, by go_num, rfl, by omega, HO9, HKB9⟩, rfl⟩)
      case measure => simp [intOf]; omega
     have hicn : ic < no := by rw [<- HNO.out]; exact hic
     have HLQ2 := Lib.hid (show l2 = if (cA ofs ic).kind ≠ ck then [⟨kt, cn, 3⟩] else (if (cA ofs ic).need = true /\ ce = false then [⟨kt, cn, 4⟩] else []) ++ (if lossB ⟨fm, fq, fks, fd, ft, fc, fs0⟩ ⟨gm, gq, gks, gd, gt, gc, gs⟩ ⟨cn, ck, cw, cl, cm, cr, ci, ce⟩ (cA ofs ic) = true then [⟨kt, cn, 5⟩] else []) by rw [HLQC.out, e1, if_neg (by omega), Int.toNat_natCast])
     have td2 : decide ((ic : Int) < 0) = false := decide_eq_false (by omega)
     have a5 : (0 : Int) <= (ic : Int) := by omega
     have a6 : (ic : Int) < (no : Int) := by omega
     rw [e1]
     have HB8w := Lib.hid (HO7.out.below HB8.out).2.2
     obtain ⟨ob2, oo, rfl, hob2, u0, u1, u2, u3, u4, u5, u6, u7⟩ := (HCG.out _ HB8w.out).cells (j := ic) hic
     have HCKD := Lib.hid (HCK2.out ic hic)
     obtain ⟨D, hD⟩ : ∃ x, cA ofs ic = x := ⟨_, rfl⟩
     rw [hD] at u0 u1 u2 u3 u4 u5 u6 u7 HCKD HLQ2
     obtain ⟨dn, dk, dw, dl, dm, dr, di, de⟩ := D
     simp only at u0 u1 u2 u3 u4 u5 u6 u7 HLQ2
     have HDB9 := Lib.hid (heap_new w8 (.cells #[.string dn, .int .i64 dk, .int .i64 dw, .int .i64 dl, .int .i64 dm, .bool dr, .int .u8 di, .bool de] 60) rfl)
     have HLB9 := Lib.hid (heap_old HLB8.out (.cells #[.string dn, .int .i64 dk, .int .i64 dw, .int .i64 dl, .int .i64 dm, .bool dr, .int .u8 di, .bool de] 60))
     have HB9 := Lib.hid (show Below w7.heap.size w7 (w8.alloc (.cells #[.string dn, .int .i64 dk, .int .i64 dw, .int .i64 dl, .int .i64 dm, .bool dr, .int .u8 di, .bool de] 60)) from HB8.out.alloc HB8.out.size _)
     obtain ⟨-, -, g2, -, -, -, -, g7, g8, -, -, -⟩ := HGS.out _ HB8.out
     clear e1 hD hic HLQC HIXC
     go_upto_region 22 with fail
     obtain ⟨db, hdb⟩ : ∃ x, w8.heap.size = x := ⟨_, rfl⟩
     rw [hdb] at HDB9
     try rw [hdb]
     generalize w8.alloc (.cells #[.string dn, .int .i64 dk, .int .i64 dw, .int .i64 dl, .int .i64 dm, .bool dr, .int .u8 di, .bool de] 60) = w9 at HDB9 HLB9 HB9 ⊢
     clear hdb g2 g7 g8 u0 u1 u2 u3 u4 u5 u6 u7 hob2 HLB8 HB8 HB8w hz8
     have HCB9 := Lib.hid (heap_below HCB7.out HB9.out); have HKB9 := Lib.hid (heap_below HKB7.out HB9.out); have HO9 := Lib.hid (HO7.out.below HB9.out)
     have hz9 := HO9.out.2.2.size
     obtain ⟨⟨x0, x1, x2, x3, x4, x5, x6, x7⟩, -⟩ := obox8 HCB9.out
     obtain ⟨⟨y0, y1, y2, y3, y4, y5, y6, y7⟩, -⟩ := obox8 HDB9.out
     obtain ⟨l0, l1, l2', l3, l4⟩ := lo3 HLB9.out
     by_cases hkk : dk = ck
     case neg =>
      have HLV := Lib.hid (show l2 = [⟨kt, cn, 3⟩] by rw [HLQ2.out]; exact if_pos hkk)
      have g1 : (dk != ck) = true := by simpa using hkk
      clear hkk
      have HLBX := Lib.hid (show (w9.setCell ⟨lb, 2, none⟩ (.int .i64 3)).heap[lb]? = some (.cells #[.string kt, .string cn, .int .i64 3] 35 (0, 0)) from heap_set HLB9.out 2 _)
      have HBX := Lib.hid (show Below w7.heap.size w7 (w9.setCell ⟨lb, 2, none⟩ (.int .i64 3)) from HB9.out.setCell (p := ⟨lb, 2, none⟩) (by show w7.heap.size <= lb; rw [HLBE.out]; exact Nat.le_refl _) _)
      go_upto_region 24 with fail
      generalize w9.setCell ⟨lb, 2, none⟩ (.int .i64 3) = wX at HLBX HBX ⊢
      clear l0 l1 l2' l3 l4 x0 x1 x2 x3 x4 x5 x6 x7 y0 y1 y2 y3 y4 y5 y6 y7
      have HOX := Lib.hid (HO7.out.below HBX.out)
      have HKX := Lib.hid (heap_below HKB7.out HBX.out)
      have hzX := HOX.out.2.2.size
      obtain ⟨l0, l1, l2', -, -⟩ := lo3 HLBX.out
      go_wp2_with (at_builtin; refine wpList_zpush rfl _ _ 30 rfl w1.heap.size 35 i0 (.agg #[.string ⟨#[]⟩, .string ⟨#[]⟩, .int .i64 0]) 3 40 Tryz.underlying30 hi hz0 hz1 hz2 rfl (by decide) (.slice X n c) n (losC ((fks.take j).flatMap KL ++ (kfs.take i).flatMap LF)) rfl HOX.out.2.1 [.string kt, .string cn, .int .i64 3] rfl rfl (by intro u hu; simp at hu; rcases hu with rfl | rfl | rfl <;> rfl) (by unfold maxLen; omega) (by omega) hzX ?_; intro X9 c9 w10 hown7 hg7)
      have HOY := Lib.hid (show LosO w1 w10 X9 (n + 1) c9 ((fks.take j).flatMap KL ++ (kfs.take (i + 1)).flatMap LF) by rw [HNY.out, HLV.out, <- List.append_assoc]; exact HOX.out.push hown7 hg7)
      have HKY := Lib.hid (HOX.out.keep hg7 HKX.out (by decide))
      go_roundw
      case rel => first | exact ⟨i + 1, X9, n + 1, c9, by omega, by go_num, rfl, by omega, HOY, HKY⟩ | ((repeat apply Exists.intro); exact ⟨⟨i + 1, X9, n + 1, c9, by omega, by go_num, rfl, by omega, HOY, HKY⟩, rfl⟩)
      case measure => simp [intOf]; omega
     subst hkk
     have HLQ3 := Lib.hid (show l2 = (if de = true /\ ce = false then [⟨kt, cn, 4⟩] else []) ++ (if lossB ⟨fm, fq, fks, fd, ft, fc, fs0⟩ ⟨gm, gq, gks, gd, gt, gc, gs⟩ ⟨cn, dk, cw, cl, cm, cr, ci, ce⟩ ⟨dn, dk, dw, dl, dm, dr, di, de⟩ = true then [⟨kt, cn, 5⟩] else []) by rw [HLQ2.out]; exact if_neg (fun h => h rfl))
     have HLS := Lib.hid (HLL2.out ⟨cn, dk, cw, cl, cm, cr, ci, ce⟩ ⟨dn, dk, dw, dl, dm, dr, di, de⟩ HCKC.out HCKD.out rfl)
     have HILC := Lib.hid (HIL.out ⟨cn, dk, cw, cl, cm, cr, ci, ce⟩ ⟨dn, dk, dw, dl, dm, dr, di, de⟩ HCKC.out HCKD.out)
     rw [HLS.out] at HILC
     unfold colG at HILC
     simp only at HILC
     obtain ⟨LB, hLB⟩ : ∃ x, lossB ⟨fm, fq, fks, fd, ft, fc, fs0⟩ ⟨gm, gq, gks, gd, gt, gc, gs⟩ ⟨cn, dk, cw, cl, cm, cr, ci, ce⟩ ⟨dn, dk, dw, dl, dm, dr, di, de⟩ = x := ⟨_, rfl⟩
     rw [hLB] at HLQ3 HILC
     clear HLQ2 HLS hLB
     have g1 : (dk != dk) = false := by simp
     obtain ⟨l4x, hl4x⟩ : ∃ x, (if de = true /\ ce = false then [(⟨kt, cn, 4⟩ : Loss)] else []) = x := ⟨_, rfl⟩
     have HL4 := Lib.hid hl4x
     rw [hl4x] at HLQ3
     clear hl4x
     obtain ⟨NB, hNB⟩ : ∃ x, (de && !ce) = x := ⟨_, rfl⟩
     have HNB := Lib.hid hNB
     go_upto_region 25 with fail
     go_cut [102] (fun v wx => v = .bool NB /\ w9 = wx)
     case first =>
      have hnb := HNB.out
      clear hNB
      cases de with
      | false =>
       obtain rfl : false = NB := hnb
       go_wp2_with fail
       go_meet
       exact ⟨rfl, rfl⟩
      | true =>
       cases ce with
       | false =>
        obtain rfl : true = NB := hnb
        go_wp2_with fail
        go_meet
        exact ⟨rfl, rfl⟩
       | true =>
        obtain rfl : false = NB := hnb
        go_wp2_with fail
        go_meet
        exact ⟨rfl, rfl⟩
     case rest =>
     obtain ⟨rfl, rfl⟩ := hcut
     clear hNB
     go_upto_if 102 with fail
     go_cut [8] (fun o wx => ∃ (X9 : Option Addr) (n9 c9 : Nat), o = .slice X9 n9 c9 /\ n9 <= n + 1 /\ Hid (LosO w1 wx X9 n9 c9 ((fks.take j).flatMap KL ++ (kfs.take i).flatMap LF ++ l4x)) /\ Hid (wx.heap[kb]? = some (.cells #[.string kt, .slice (some ⟨cb, co, none⟩) nf KC, .int .i64 km, .string ku] 52 (0, 0))) /\ Hid (wx.heap[cb2]? = some (.cells #[.string cn, .int .i64 dk, .int .i64 cw, .int .i64 cl, .int .i64 cm, .bool cr, .int .u8 ci, .bool ce] 60 (0, 0))) /\ Hid (wx.heap[db]? = some (.cells #[.string dn, .int .i64 dk, .int .i64 dw, .int .i64 dl, .int .i64 dm, .bool dr, .int .u8 di, .bool de] 60 (0, 0))) /\ Hid (∃ x, wx.heap[lb]? = some (.cells #[.string kt, .string cn, .int .i64 x] 35 (0, 0))) /\ Hid ((Value.slice X9 n9 c9).ownBlock ≠ some lb))
     case first =>
      cases NB with
      | false =>
       have HE4 := Lib.hid (show l4x = [] by
        rw [<- HL4.out]
        have hnb := HNB.out
        cases de with
        | false => rfl
        | true =>
         cases ce with
         | false => cases hnb
         | true => rfl)
       clear l0 l1 l2' l3 l4 x0 x1 x2 x3 x4 x5 x6 x7 y0 y1 y2 y3 y4 y5 y6 y7
       go_wp2_with fail
       go_meet
       exact ⟨X, n, c, rfl, by omega, Lib.hid (by rw [HE4.out, List.append_nil]; exact HO9.out), HKB9, HCB9, HDB9, Lib.hid ⟨2, HLB9.out⟩, Lib.hid (HO7.out.blk (by rw [HLBE.out]; exact Nat.le_refl _))⟩
      | true =>
       have HE4 := Lib.hid (show l4x = [⟨kt, cn, 4⟩] by
        rw [<- HL4.out]
        have hnb := HNB.out
        cases de with
        | false => cases hnb
        | true =>
         cases ce with
         | false => rfl
         | true => cases hnb)
       have HLBX := Lib.hid (show (w9.setCell ⟨lb, 2, none⟩ (.int .i64 4)).heap[lb]? = some (.cells #[.string kt, .string cn, .int .i64 4] 35 (0, 0)) from heap_set HLB9.out 2 _)
       have HBX := Lib.hid (show Below w7.heap.size w7 (w9.setCell ⟨lb, 2, none⟩ (.int .i64 4)) from HB9.out.setCell (p := ⟨lb, 2, none⟩) (by show w7.heap.size <= lb; rw [HLBE.out]; exact Nat.le_refl _) _)
       have HDX := Lib.hid (show (w9.setCell ⟨lb, 2, none⟩ (.int .i64 4)).heap[db]? = some (.cells #[.string dn, .int .i64 dk, .int .i64 dw, .int .i64 dl, .int .i64 dm, .bool dr, .int .u8 di, .bool de] 60 (0, 0)) from heap_far HDB9.out (p := ⟨lb, 2, none⟩) (heap_ne HDB9.out HLB9.out (by decide)) _)
       go_upto_region 27 with fail
       generalize w9.setCell ⟨lb, 2, none⟩ (.int .i64 4) = wX at HLBX HBX HDX ⊢
       clear l0 l1 l2' l3 l4 x0 x1 x2 x3 x4 x5 x6 x7 y0 y1 y2 y3 y4 y5 y6 y7
       have HOX := Lib.hid (HO7.out.below HBX.out)
       have HKX := Lib.hid (heap_below HKB7.out HBX.out); have HCX := Lib.hid (heap_below HCB7.out HBX.out)
       have HBK := Lib.hid (HO7.out.blk (g := lb) (by rw [HLBE.out]; exact Nat.le_refl _))
       have hzX := HOX.out.2.2.size
       have hlX := lt_heap HLBX.out
       obtain ⟨l0, l1, l2', -, -⟩ := lo3 HLBX.out
       go_wp2_with (at_builtin; refine wpList_zpushA rfl _ _ 30 rfl w1.heap.size 35 i0 (.agg #[.string ⟨#[]⟩, .string ⟨#[]⟩, .int .i64 0]) 3 40 Tryz.underlying30 hi hz0 hz1 hz2 rfl (by decide) (.slice X n c) n (losC ((fks.take j).flatMap KL ++ (kfs.take i).flatMap LF)) rfl HOX.out.2.1 [.string kt, .string cn, .int .i64 4] rfl rfl (by intro u hu; simp at hu; rcases hu with rfl | rfl | rfl <;> rfl) (by unfold maxLen; omega) (by omega) hzX ?_; intro X9 c9 w10 hown7 hg7 hblk)
       have HOY := Lib.hid (show LosO w1 w10 X9 (n + 1) c9 ((fks.take j).flatMap KL ++ (kfs.take i).flatMap LF ++ l4x) by rw [HE4.out]; exact HOX.out.push hown7 hg7)
       have HKY := Lib.hid (HOX.out.keep hg7 HKX.out (by decide)); have HCY := Lib.hid (HOX.out.keep hg7 HCX.out (by decide)); have HDY := Lib.hid (HOX.out.keep hg7 HDX.out (by decide))
       have HLY := Lib.hid (LosO.keepNe HBK.out hg7 HLBX.out)
       have HBY := Lib.hid (show (Value.slice X9 (n + 1) c9).ownBlock ≠ some lb from fun e => by
        rcases hblk with h | h
        ·exact HBK.out (h.symm.trans e)
        ·rw [h] at e
         injection e with e
         omega)
       go_meet
       exact ⟨X9, n + 1, c9, rfl, by omega, HOY, HKY, HCY, HDY, Lib.hid ⟨4, HLY.out⟩, HBY⟩
     case rest =>
     obtain ⟨X9, n9, c9, rfl, hn9, HOc, HKc, HCc, HDc, HLc, HBc⟩ := hcut
     clear l0 l1 l2' l3 l4 x0 x1 x2 x3 x4 x5 x6 x7 y0 y1 y2 y3 y4 y5 y6 y7 HKB9 HCB9 HDB9 HLB9 HO9 hz9
     obtain ⟨q1, q2, -, -, qt, -⟩ := HW.out _ HOc.out.2.2
     obtain ⟨⟨p0, p1, p2, p3, p4, p5, p6⟩, -⟩ := obox7 q1; obtain ⟨⟨q0, q1, q2, q3, q4, q5, q6⟩, -⟩ := obox7 q2
     obtain ⟨⟨x0, x1, x2, x3, x4, x5, x6, x7⟩, -⟩ := obox8 HCc.out; obtain ⟨⟨y0, y1, y2, y3, y4, y5, y6, y7⟩, -⟩ := obox8 HDc.out
     have HTc := Lib.hid qt
     clear qt
     go_wp2_with fail
     refine (HILC.out _ HTc.out).mono ?_
     rintro _ wd ⟨rfl, hbd⟩
     have HOd := Lib.hid (HOc.out.below hbd); have HKd := Lib.hid (heap_below HKc.out hbd)
     obtain ⟨xk, hxk⟩ := HLc.out
     have HLd := Lib.hid (heap_below hxk hbd)
     clear q0 q1 q2 q3 q4 q5 q6 p0 p1 p2 p3 p4 p5 p6 x0 x1 x2 x3 x4 x5 x6 x7 y0 y1 y2 y3 y4 y5 y6 y7 hbd hxk HOc HKc HCc HDc HLc
     cases LB with
     | false =>
      have HLV := Lib.hid (show l2 = l4x by rw [HLQ3.out, if_neg (by decide), List.append_nil])
      have HOz := Lib.hid (show LosO w1 wd X9 n9 c9 ((fks.take j).flatMap KL ++ (kfs.take (i + 1)).flatMap LF) by rw [HNY.out, HLV.out, <- List.append_assoc]; exact HOd.out)
      go_wp2
      go_roundw
      case rel => first | exact ⟨i + 1, X9, n9, c9, by omega, by go_num, rfl, by omega, HOz, HKd⟩ | ((repeat apply Exists.intro); exact ⟨⟨i + 1, X9, n9, c9, by omega, by go_num, rfl, by omega, HOz, HKd⟩, rfl⟩)
      case measure => simp [intOf]; omega
     | true =>
      have HLV := Lib.hid (show l2 = l4x ++ [⟨kt, cn, 5⟩] by rw [HLQ3.out, if_pos rfl])
      have hlb1 : w1.heap.size <= lb := by rw [<- HLBE.out]; exact HO7.out.2.2.size
      have HLBX := Lib.hid (show (wd.setCell ⟨lb, 2, none⟩ (.int .i64 5)).heap[lb]? = some (.cells #[.string kt, .string cn, .int .i64 5] 35 (0, 0)) from heap_set HLd.out 2 _)
      have HOX := Lib.hid (HOd.out.setFar (i := 2) HBc.out hlb1 (.int .i64 5))
      have HKX := Lib.hid (show (wd.setCell ⟨lb, 2, none⟩ (.int .i64 5)).heap[kb]? = some (.cells #[.string kt, .slice (some ⟨cb, co, none⟩) nf KC, .int .i64 km, .string ku] 52 (0, 0)) from heap_far HKd.out (p := ⟨lb, 2, none⟩) (heap_ne HKd.out HLd.out (by decide)) _)
      obtain ⟨l0, l1, l2', l3, l4⟩ := lo3 HLd.out
      go_upto_region 30 with fail
      generalize wd.setCell ⟨lb, 2, none⟩ (.int .i64 5) = wX at HLBX HOX HKX ⊢
      clear l0 l1 l2' l3 l4
      have hzX := HOX.out.2.2.size
      obtain ⟨l0, l1, l2', -, -⟩ := lo3 HLBX.out
      go_wp2_with (at_builtin; refine wpList_zpush rfl _ _ 30 rfl w1.heap.size 35 i0 (.agg #[.string ⟨#[]⟩, .string ⟨#[]⟩, .int .i64 0]) 3 40 Tryz.underlying30 hi hz0 hz1 hz2 rfl (by decide) (.slice X9 n9 c9) n9 (losC ((fks.take j).flatMap KL ++ (kfs.take i).flatMap LF ++ l4x)) rfl HOX.out.2.1 [.string kt, .string cn, .int .i64 5] rfl rfl (by intro u hu; simp at hu; rcases hu with rfl | rfl | rfl <;> rfl) (by unfold maxLen; omega) (by omega) hzX ?_; intro X8 c8 w10 hown7 hg7)
      have HOz := Lib.hid (show LosO w1 w10 X8 (n9 + 1) c8 ((fks.take j).flatMap KL ++ (kfs.take (i + 1)).flatMap LF) by rw [HNY.out, HLV.out, <- List.append_assoc, <- List.append_assoc]; exact HOX.out.push hown7 hg7)
      have HKz := Lib.hid (HOX.out.keep hg7 HKX.out (by decide))
      go_roundw
      case rel => first | exact ⟨i + 1, X8, n9 + 1, c8, by omega, by go_num, rfl, by omega, HOz, HKz⟩ | ((repeat apply Exists.intro); exact ⟨⟨i + 1, X8, n9 + 1, c8, by omega, by go_num, rfl, by omega, HOz, HKz⟩, rfl⟩)
      case measure => simp [intOf]; omega
    ·obtain rfl : i = nf := by omega
     have HO7 := Lib.hid (show LosO w1 wr X n c ((fks.take (j + 1)).flatMap KL) by rw [HNX.out, HT.out, show kfs = kfs.take i by rw [<- HNF.out, List.take_length]]; exact HO.out)
     go_wp2
     go_roundw
     case rel => first | exact ⟨j + 1, X, n, c, by omega, by go_num, rfl, by omega, HO7⟩ | ((repeat apply Exists.intro); exact ⟨⟨j + 1, X, n, c, by omega, by go_num, rfl, by omega, HO7⟩, rfl⟩)
     case measure => simp [intOf]; omega
  ·obtain rfl : j = nk := by omega
   have HO2 := Lib.hid (show LosO w1 wr X n c (fks.flatMap KL) by have h := HO.out; rw [show fks.take j = fks by rw [<- HNK.out, List.take_length]] at h; exact h)
   clear HO
   obtain ⟨⟨q0, q1, q2, q3, q4, q5, q6⟩, -⟩ := obox7 (HW.out _ HO2.out.2.2).2.1
   go_wp2_with fail
   go_loopw [123, 8] (fun i o wr => ∃ (j' : Nat) (X : Option Addr) (n c : Nat), j' <= ng /\ i = .int .i64 j' /\ o = .slice X n c /\ n <= 100 * j + 50 * j' /\ Hid (LosO w1 wr X n c (fks.flatMap KL ++ (gks.take j').flatMap NL))) (fun i o _ => ng - (intOf i).toNat)
   case atStart => exact ⟨0, X, n, c, by omega, rfl, rfl, by omega, Lib.hid (by rw [show (gks.take 0).flatMap NL = [] from rfl, List.append_nil]; exact HO2.out)⟩
   case round =>
    clear HO2 hn hzr q0 q1 q2 q3 q4 q5 q6
    obtain ⟨j', X, n, c, hj', rfl, rfl, hn, HO⟩ := hrel
    have hzr := HO.out.2.2.size
    rcases Nat.lt_or_ge j' ng with hlt | hge2
    ·have tk : decide ((j' : Int) < (ng : Int)) = true := decide_eq_true (by omega)
     obtain ⟨q1, q2, qk, qg, -, qb⟩ := HW.out _ HO.out.2.2
     have hjl : j' < gks.length := by rw [HNG.out]; exact hlt
     obtain ⟨b, off, rfl, hbw, c0, c1, c2, c3⟩ := qg.cells hjl
     have HCO := Lib.hid (fun wx h => kinds_cols (HW.out wx h).2.2.2.1 hjl)
     have HNX := Lib.hid (show (gks.take (j' + 1)).flatMap NL = (gks.take j').flatMap NL ++ NL (kA gks j') by rw [<- kA_get hjl]; exact flat_take hjl)
     have hmny := (HGM.out.kinds j' hjl).many
     simp only at hmny
     obtain ⟨K, hK⟩ : ∃ x, kA gks j' = x := ⟨_, rfl⟩
     rw [hK] at c0 c1 c2 c3 HCO HNX hmny
     generalize GA j' = KA at c1 HCO
     generalize GC j' = KC at c1
     obtain ⟨kt, kfs, km, ku⟩ := K
     simp only at c0 c1 c2 c3 HCO hmny
     obtain ⟨nf, hnf⟩ : ∃ x, kfs.length = x := ⟨_, rfl⟩
     have HNF := Lib.hid hnf
     rw [hnf] at c1 hmny
     have HK3 := Lib.hid (heap_new wr (.cells #[.string kt, .slice KA nf KC, .int .i64 km, .string ku] 52) rfl)
     have hbk : Below wr.heap.size wr (wr.alloc (.cells #[.string kt, .slice KA nf KC, .int .i64 km, .string ku] 52)) := by go_grown
     have HO3 := Lib.hid (HO.out.below hbk)
     clear hK hnf hjl q1 qk qg qb q2
     go_upto_region 36 with fail
     obtain ⟨kb, hkb⟩ : ∃ x, wr.heap.size = x := ⟨_, rfl⟩
     rw [hkb] at HK3
     try rw [hkb]
     generalize wr.alloc (.cells #[.string kt, .slice KA nf KC, .int .i64 km, .string ku] 52) = w3' at HK3 HO3 ⊢
     clear hkb c0 c1 c2 c3 hbw hbk HO
     obtain ⟨q2, -, qg, -, -, -⟩ := HW.out _ HO3.out.2.2
     obtain ⟨⟨q0, q1, q2, q3, q4, q5, q6⟩, -⟩ := obox7 q2
     obtain ⟨⟨k0, k1, k2, k3⟩, -, -⟩ := obox4 HK3.out
     have HCC := Lib.hid (kat_cases ⟨fm, fq, fks, fd, ft, fc, fs0⟩ FA FC kt)
     simp only at HCC
     have HNLf := Lib.hid (show NL ⟨kt, kfs, km, ku⟩ = kfs.flatMap (needLoss1 ⟨fm, fq, fks, fd, ft, fc, fs0⟩ ⟨kt, kfs, km, ku⟩) by rw [<- HNL.out]; rfl)
     have HN1 := Lib.hid (show ∀ c, needLoss1 ⟨fm, fq, fks, fd, ft, fc, fs0⟩ ⟨kt, kfs, km, ku⟩ c = if 0 <= katI ⟨fm, fq, fks, fd, ft, fc, fs0⟩ kt /\ c.need = true /\ ixF (nameIs c.name) (katK ⟨fm, fq, fks, fd, ft, fc, fs0⟩ kt).fields < 0 then [⟨kt, c.name, 4⟩] else [] from fun c => rfl)
     obtain ⟨N1, hN1⟩ : ∃ x, needLoss1 ⟨fm, fq, fks, fd, ft, fc, fs0⟩ ⟨kt, kfs, km, ku⟩ = x := ⟨_, rfl⟩
     rw [hN1] at HNLf HN1
     rw [HNLf.out] at HNX
     clear hN1 HNLf
     go_wp2_with fail
     refine (HKA1.out kt _ qg).mono ?_
     rintro _ w4 ⟨rfl, hb4⟩
     have HK4 := Lib.hid (heap_below HK3.out hb4)
     have HO4 := Lib.hid (HO3.out.below hb4)
     clear q0 q1 q2 q3 q4 q5 q6 k0 k1 k2 k3 qg hb4 HK3 HO3
     rcases HCC.out with ⟨e1, e2, -, -⟩ | ⟨k', hk', e1, e2, -, -⟩
     ·have HNZ := Lib.hid (show ∀ c, N1 c = [] from fun c => by rw [HN1.out, e1]; exact if_neg (fun h => absurd h.1 (by decide)))
      have e3 : ixF (tagIs kt) fks = -1 := e1
      rw [e3]
      have td : decide ((0 : Int) <= -1) = false := by decide
      clear e1 e2 e3 HN1 HCC
      obtain ⟨⟨k0, k1, k2, k3⟩, -, -⟩ := obox4 HK4.out
      go_wp2_with fail
      go_loopw [134, 8] (fun i o wr => ∃ (i' : Nat) (X : Option Addr) (n c : Nat), i' <= nf /\ i = .int .i64 i' /\ o = .slice X n c /\ n <= 100 * j + 50 * j' + i' /\ Hid (LosO w1 wr X n c (fks.flatMap KL ++ (gks.take j').flatMap NL ++ (kfs.take i').flatMap N1)) /\ Hid (wr.heap[kb]? = some (.cells #[.string kt, .slice KA nf KC, .int .i64 km, .string ku] 52 (0, 0)))) (fun i o _ => nf - (intOf i).toNat)
      case atStart => exact ⟨0, X, n, c, by omega, rfl, rfl, by omega, Lib.hid (by rw [show (kfs.take 0).flatMap N1 = [] from rfl, List.append_nil]; exact HO4.out), HK4⟩
      case round =>
       clear HK4 HO4 hn hzr k0 k1 k2 k3
       obtain ⟨i, X, n, c, hi', rfl, rfl, hn, HO, HKB⟩ := hrel
       have hzr := HO.out.2.2.size
       rcases Nat.lt_or_ge i nf with hlt2 | hge2
       ·have hil : i < kfs.length := by rw [HNF.out]; exact hlt2
        have tk2 : decide ((i : Int) < (nf : Int)) = true := decide_eq_true (by omega)
        have HNY := Lib.hid (show (kfs.take (i + 1)).flatMap N1 = (kfs.take i).flatMap N1 ++ N1 (cA kfs i) by rw [flat_take hil, cA_get hil])
        obtain ⟨cb, co, rfl, hcb, d0, d1, d2, d3, d4, d5, d6, d7⟩ := (HCO.out _ HO.out.2.2).cells hil
        obtain ⟨C, hC⟩ : ∃ x, cA kfs i = x := ⟨_, rfl⟩
        rw [hC] at d0 d1 d2 d3 d4 d5 d6 d7 HNY
        obtain ⟨cn, ck, cw, cl, cm, cr, ci, ce⟩ := C
        simp only at d0 d1 d2 d3 d4 d5 d6 d7
        have hbc : Below wr.heap.size wr (wr.alloc (.cells #[.string cn, .int .i64 ck, .int .i64 cw, .int .i64 cl, .int .i64 cm, .bool cr, .int .u8 ci, .bool ce] 60)) := by go_grown
        have HKB2 := Lib.hid (heap_old HKB.out (.cells #[.string cn, .int .i64 ck, .int .i64 cw, .int .i64 cl, .int .i64 cm, .bool cr, .int .u8 ci, .bool ce] 60)); have HCB2 := Lib.hid (heap_new wr (.cells #[.string cn, .int .i64 ck, .int .i64 cw, .int .i64 cl, .int .i64 cm, .bool cr, .int .u8 ci, .bool ce] 60) rfl)
        have HO2 := Lib.hid (HO.out.below hbc)
        clear hC hil hbc
        go_upto_region 40 with fail
        obtain ⟨cb2, hcb2⟩ : ∃ x, wr.heap.size = x := ⟨_, rfl⟩
        rw [hcb2] at HCB2
        try rw [hcb2]
        generalize wr.alloc (.cells #[.string cn, .int .i64 ck, .int .i64 cw, .int .i64 cl, .int .i64 cm, .bool cr, .int .u8 ci, .bool ce] 60) = w6 at HKB2 HCB2 HO2 ⊢
        clear hcb2 d0 d1 d2 d3 d4 d5 d6 d7 hcb HKB HO hzr
        have HSD := Lib.hid (show ∀ wx, Below w6.heap.size w6 wx -> (fun w' : World => w'.cell? ⟨cb2, 0, none⟩ = some (.string cn) /\ w'.cell? ⟨cb2, 7, none⟩ = some (.bool ce)) wx from fun wx h => by
         obtain ⟨⟨y0, y1, y2, y3, y4, y5, y6, y7⟩, -⟩ := obox8 (heap_below HCB2.out h)
         exact ⟨y0, y7⟩)
        have hT := HSD.out _ (Below.refl _ _).drew
        refine region_till 16 (fun w' : World => w'.cell? ⟨cb2, 0, none⟩ = some (.string cn) /\ w'.cell? ⟨cb2, 7, none⟩ = some (.bool ce)) (by kernel_rfl) ?_
        refine Till.tk (i := 0) (v := ?_) rfl [1, 2, 6] hT (Or.inl ⟨by kernel_rfl, ?_⟩) ?_
        rotate_left
        ·(intro w' hw'; obtain ⟨u0, u1⟩ := hw'; go_simp; try with_reducible rfl)
        (try simp only [Act.put, Till.a, Till.b, Till.c])
        refine Till.tk (i := 1) (v := ?_) rfl [2, 6] hT (Or.inl ⟨by kernel_rfl, ?_⟩) ?_
        rotate_left
        ·(intro w' hw'; obtain ⟨u0, u1⟩ := hw'; go_simp; try with_reducible rfl)
        (try simp only [Act.put, Till.a, Till.b, Till.c])
        refine Till.tk (i := 2) (v := ?_) rfl [6] hT (Or.inl ⟨by kernel_rfl, ?_⟩) ?_
        rotate_left
        ·(intro w' hw'; obtain ⟨u0, u1⟩ := hw'; go_simp; try with_reducible rfl)
        (try simp only [Act.put, Till.a, Till.b, Till.c])
        refine Till.tk (i := 3) (v := undef) rfl [4, 5, 6] hT (Or.inr ⟨by kernel_rfl, rfl⟩) ?_
        (try simp only [Act.put, Till.a, Till.b, Till.c])
        refine Till.tk (i := 4) (v := undef) rfl [5, 6] hT (Or.inr ⟨by kernel_rfl, rfl⟩) ?_
        (try simp only [Act.put, Till.a, Till.b, Till.c])
        refine Till.tk (i := 5) (v := ?_) rfl [6] hT (Or.inl ⟨by kernel_rfl, ?_⟩) ?_
        rotate_left
        ·(intro w' hw'; obtain ⟨u0, u1⟩ := hw'; go_simp; try with_reducible rfl)
        (try simp only [Act.put, Till.a, Till.b, Till.c])
        refine Till.tk (i := 6) (v := ?_) rfl [] hT (Or.inl ⟨by kernel_rfl, ?_⟩) ?_
        rotate_left
        ·(intro w' hw'; obtain ⟨u0, u1⟩ := hw'; go_simp; try with_reducible rfl)
        (try simp only [Act.put, Till.a, Till.b, Till.c])
        refine Till.tk (i := 7) (v := undef) rfl [8, 10, 11, 14, 15] hT (Or.inr ⟨by kernel_rfl, rfl⟩) ?_
        (try simp only [Act.put, Till.a, Till.b, Till.c])
        refine Till.tk (i := 8) (v := undef) rfl [10, 11, 14, 15] hT (Or.inr ⟨by kernel_rfl, rfl⟩) ?_
        (try simp only [Act.put, Till.a, Till.b, Till.c])
        refine Till.tk (i := 9) (v := undef) rfl [10, 11, 14, 15] hT (Or.inr ⟨by kernel_rfl, rfl⟩) ?_
        (try simp only [Act.put, Till.a, Till.b, Till.c])
        refine Till.tk (i := 10) (v := undef) rfl [11, 14, 15] hT (Or.inr ⟨by kernel_rfl, rfl⟩) ?_
        (try simp only [Act.put, Till.a, Till.b, Till.c])
        refine Till.tk (i := 11) (v := undef) rfl [14, 15] hT (Or.inr ⟨by kernel_rfl, rfl⟩) ?_
        (try simp only [Act.put, Till.a, Till.b, Till.c])
        refine Till.tk (i := 12) (v := undef) rfl [13, 14, 15] hT (Or.inr ⟨by kernel_rfl, rfl⟩) ?_
        (try simp only [Act.put, Till.a, Till.b, Till.c])
        refine Till.tk (i := 13) (v := undef) rfl [14, 15] hT (Or.inr ⟨by kernel_rfl, rfl⟩) ?_
        (try simp only [Act.put, Till.a, Till.b, Till.c])
        refine Till.step (i := 14) (by kernel_rfl) rfl ?_
        intro K hK
        go_simp
        refine hK.out _ _ (fun _ => hT) ?_
        clear hK K
        (try simp only [Act.put, Till.a, Till.b, Till.c])
        refine Till.tk (i := 15) (v := undef) rfl [] hT (Or.inr ⟨by kernel_rfl, rfl⟩) ?_
        (try simp only [Act.put, Till.a, Till.b, Till.c])
        refine Till.step (i := 16) (by kernel_rfl) rfl ?_
        intro K hK
        go_simp
        refine hK.out _ _ (fun h => absurd h (by decide)) ?_
        clear hK K
        (try simp only [Act.put, Till.a, Till.b, Till.c])
        refine Till.done (by kernel_rfl) ?_ _
        have HOE := Lib.hid (HO2.out.below (Below.refl _ _).drew); have HKE := Lib.hid (heap_below HKB2.out (Below.refl _ _).drew)
        have HT := Lib.hid (show N1 ⟨cn, ck, cw, cl, cm, cr, ci, ce⟩ = [] from HNZ.out _)
        have HO8 := Lib.hid (show LosO w1 w6.drew X n c (fks.flatMap KL ++ (gks.take j').flatMap NL ++ (kfs.take (i + 1)).flatMap N1) by rw [HNY.out, HT.out, List.append_nil]; exact HOE.out)
        go_wp2
        go_roundw
        case rel => first | exact ⟨i + 1, X, n, c, by omega, by go_num, rfl, by omega, HO8, HKE⟩ | ((repeat apply Exists.intro); exact ⟨⟨i + 1, X, n, c, by omega, by go_num, rfl, by omega, HO8, HKE⟩, rfl⟩)
        case measure => simp [intOf]; omega
       ·obtain rfl : i = nf := by omega
        have HO7 := Lib.hid (show LosO w1 wr X n c (fks.flatMap KL ++ (gks.take (j' + 1)).flatMap NL) by
         have h := HO.out
         rw [show kfs.take i = kfs by rw [<- HNF.out, List.take_length], List.append_assoc] at h
         rw [HNX.out]
         exact h)
        go_wp2
        go_roundw
        case rel => first | exact ⟨j' + 1, X, n, c, by omega, by go_num, rfl, by omega, HO7⟩ | ((repeat apply Exists.intro); exact ⟨⟨j' + 1, X, n, c, by omega, by go_num, rfl, by omega, HO7⟩, rfl⟩)
        case measure => simp [intOf]; omega
     ·have e3 : ixF (tagIs kt) fks = (k' : Int) := e1
      have hk2 : k' < fks.length := hk'
      have hkn : k' < j := by rw [<- HNK.out]; exact hk2
      have HN3 := Lib.hid (show ∀ c, N1 c = if c.need = true /\ ixF (nameIs c.name) (kA fks k').fields < 0 then [⟨kt, c.name, 4⟩] else [] from fun c => by
       rw [HN1.out, e1, e2]
       by_cases h : c.need = true /\ ixF (nameIs c.name) (kA fks k').fields < 0
       ·rw [if_pos ⟨by omega, h⟩]; exact (if_pos h).symm
       ·rw [if_neg (fun k => h k.2)]; exact (if_neg h).symm)
      rw [e3]
      have td : decide ((0 : Int) <= (k' : Int)) = true := decide_eq_true (by omega)
      clear e1 e2 e3 HN1 HCC hk'
      have HCG := Lib.hid (fun wx h => kinds_cols (HW.out wx h).2.2.1 hk2)
      have HGC := Lib.hid (fun wx h => (HW.out wx h).2.2.1.cells hk2)
      obtain ⟨O, hO⟩ : ∃ x, kA fks k' = x := ⟨_, rfl⟩
      rw [hO] at HN3 HCG HGC
      generalize FA k' = OA at HCG HGC
      generalize FC k' = OC at HGC
      have HCA0 := Lib.hid (fun t wx (h : Below w1.heap.size w1 wx) => rcolof_c O OA OC t wx (HCG.out wx h))
      obtain ⟨ot, ofs, om, ou⟩ := O
      unfold kindG at HCA0
      simp only at HN3 HCG HGC HCA0
      obtain ⟨no, hno⟩ : ∃ x, ofs.length = x := ⟨_, rfl⟩
      have HNO := Lib.hid hno
      rw [hno] at HCA0 HGC
      clear hno hO
      obtain ⟨ab, ao, rfl, -, -, -, -, -⟩ := HGC.out _ HO4.out.2.2
      have HGK := Lib.hid (show ∀ wx, Below w1.heap.size w1 wx -> wx.cell? ⟨ab, ao + k' * 4, none⟩ = some (.string ot) /\ wx.cell? ⟨ab, ao + k' * 4 + 1, none⟩ = some (.slice OA no OC) /\ wx.cell? ⟨ab, ao + k' * 4 + 2, none⟩ = some (.int .i64 om) /\ wx.cell? ⟨ab, ao + k' * 4 + 3, none⟩ = some (.string ou) from fun wx h => by
       obtain ⟨b2, o2, h2, -, x0, x1, x2, x3⟩ := HGC.out wx h
       injection h2 with h2
       injection h2 with h3 h4
       subst h3 h4
       exact ⟨x0, x1, x2, x3⟩)
      clear HGC
      have a3 : (0 : Int) <= (k' : Int) := by omega
      have a4 : (k' : Int) < (j : Int) := by omega
      obtain ⟨⟨k0, k1, k2, k3⟩, -, -⟩ := obox4 HK4.out
      go_wp2_with fail
      go_loopw [134, 8] (fun i o wr => ∃ (i' : Nat) (X : Option Addr) (n c : Nat), i' <= nf /\ i = .int .i64 i' /\ o = .slice X n c /\ n <= 100 * j + 50 * j' + i' /\ Hid (LosO w1 wr X n c (fks.flatMap KL ++ (gks.take j').flatMap NL ++ (kfs.take i').flatMap N1)) /\ Hid (wr.heap[kb]? = some (.cells #[.string kt, .slice KA nf KC, .int .i64 km, .string ku] 52 (0, 0)))) (fun i o _ => nf - (intOf i).toNat)
      case atStart => exact ⟨0, X, n, c, by omega, rfl, rfl, by omega, Lib.hid (by rw [show (kfs.take 0).flatMap N1 = [] from rfl, List.append_nil]; exact HO4.out), HK4⟩
      case round =>
       clear HK4 HO4 hn hzr k0 k1 k2 k3
       obtain ⟨i, X, n, c, hi', rfl, rfl, hn, HO, HKB⟩ := hrel
       have hzr := HO.out.2.2.size
       rcases Nat.lt_or_ge i nf with hlt2 | hge2
       ·have hil : i < kfs.length := by rw [HNF.out]; exact hlt2
        have tk2 : decide ((i : Int) < (nf : Int)) = true := decide_eq_true (by omega)
        have HNY := Lib.hid (show (kfs.take (i + 1)).flatMap N1 = (kfs.take i).flatMap N1 ++ N1 (cA kfs i) by rw [flat_take hil, cA_get hil])
        obtain ⟨cb, co, rfl, hcb, d0, d1, d2, d3, d4, d5, d6, d7⟩ := (HCO.out _ HO.out.2.2).cells hil
        obtain ⟨C, hC⟩ : ∃ x, cA kfs i = x := ⟨_, rfl⟩
        rw [hC] at d0 d1 d2 d3 d4 d5 d6 d7 HNY
        obtain ⟨cn, ck, cw, cl, cm, cr, ci, ce⟩ := C
        simp only at d0 d1 d2 d3 d4 d5 d6 d7
        have hbc : Below wr.heap.size wr (wr.alloc (.cells #[.string cn, .int .i64 ck, .int .i64 cw, .int .i64 cl, .int .i64 cm, .bool cr, .int .u8 ci, .bool ce] 60)) := by go_grown
        have HKB2 := Lib.hid (heap_old HKB.out (.cells #[.string cn, .int .i64 ck, .int .i64 cw, .int .i64 cl, .int .i64 cm, .bool cr, .int .u8 ci, .bool ce] 60)); have HCB2 := Lib.hid (heap_new wr (.cells #[.string cn, .int .i64 ck, .int .i64 cw, .int .i64 cl, .int .i64 cm, .bool cr, .int .u8 ci, .bool ce] 60) rfl)
        have HO2 := Lib.hid (HO.out.below hbc)
        clear hC hil hbc
        go_upto_region 40 with fail
        obtain ⟨cb2, hcb2⟩ : ∃ x, wr.heap.size = x := ⟨_, rfl⟩
        rw [hcb2] at HCB2
        try rw [hcb2]
        generalize wr.alloc (.cells #[.string cn, .int .i64 ck, .int .i64 cw, .int .i64 cl, .int .i64 cm, .bool cr, .int .u8 ci, .bool ce] 60) = w6 at HKB2 HCB2 HO2 ⊢
        clear hcb2 d0 d1 d2 d3 d4 d5 d6 d7 hcb HKB HO hzr
        have HN4 := Lib.hid (HN3.out ⟨cn, ck, cw, cl, cm, cr, ci, ce⟩)
        cases ce with
        | false =>
         have HSD := Lib.hid (show ∀ wx, Below w6.heap.size w6 wx -> (fun w' : World => w'.cell? ⟨cb2, 0, none⟩ = some (.string cn) /\ w'.cell? ⟨cb2, 7, none⟩ = some (.bool false)) wx from fun wx h => by
          obtain ⟨⟨y0, y1, y2, y3, y4, y5, y6, y7⟩, -⟩ := obox8 (heap_below HCB2.out h)
          exact ⟨y0, y7⟩)
         have hT := HSD.out _ (Below.refl _ _).drew
         refine region_till 16 (fun w' : World => w'.cell? ⟨cb2, 0, none⟩ = some (.string cn) /\ w'.cell? ⟨cb2, 7, none⟩ = some (.bool false)) (by kernel_rfl) ?_
         refine Till.tk (i := 0) (v := ?_) rfl [1, 2, 6] hT (Or.inl ⟨by kernel_rfl, ?_⟩) ?_
         rotate_left
         ·(intro w' hw'; obtain ⟨u0, u1⟩ := hw'; go_simp; try with_reducible rfl)
         (try simp only [Act.put, Till.a, Till.b, Till.c])
         refine Till.tk (i := 1) (v := ?_) rfl [2, 6] hT (Or.inl ⟨by kernel_rfl, ?_⟩) ?_
         rotate_left
         ·(intro w' hw'; obtain ⟨u0, u1⟩ := hw'; go_simp; try with_reducible rfl)
         (try simp only [Act.put, Till.a, Till.b, Till.c])
         refine Till.tk (i := 2) (v := ?_) rfl [6] hT (Or.inl ⟨by kernel_rfl, ?_⟩) ?_
         rotate_left
         ·(intro w' hw'; obtain ⟨u0, u1⟩ := hw'; go_simp; try with_reducible rfl)
         (try simp only [Act.put, Till.a, Till.b, Till.c])
         refine Till.tk (i := 3) (v := ?_) rfl [4, 5, 6] hT (Or.inl ⟨by kernel_rfl, ?_⟩) ?_
         rotate_left
         ·(intro w' hw'; obtain ⟨u0, u1⟩ := hw'; go_simp; try with_reducible rfl)
         (try simp only [Act.put, Till.a, Till.b, Till.c])
         refine Till.tk (i := 4) (v := ?_) rfl [5, 6] hT (Or.inl ⟨by kernel_rfl, ?_⟩) ?_
         rotate_left
         ·(intro w' hw'; obtain ⟨u0, u1⟩ := hw'; go_simp; try with_reducible rfl)
         (try simp only [Act.put, Till.a, Till.b, Till.c])
         refine Till.tk (i := 5) (v := ?_) rfl [6] hT (Or.inl ⟨by kernel_rfl, ?_⟩) ?_
         rotate_left
         ·(intro w' hw'; obtain ⟨u0, u1⟩ := hw'; go_simp; try with_reducible rfl)
         (try simp only [Act.put, Till.a, Till.b, Till.c])
         refine Till.tk (i := 6) (v := ?_) rfl [] hT (Or.inl ⟨by kernel_rfl, ?_⟩) ?_
         rotate_left
         ·(intro w' hw'; obtain ⟨u0, u1⟩ := hw'; go_simp; try with_reducible rfl)
         (try simp only [Act.put, Till.a, Till.b, Till.c])
         refine Till.tk (i := 7) (v := undef) rfl [8, 10, 11, 14, 15] hT (Or.inr ⟨by kernel_rfl, rfl⟩) ?_
         (try simp only [Act.put, Till.a, Till.b, Till.c])
         refine Till.tk (i := 8) (v := undef) rfl [10, 11, 14, 15] hT (Or.inr ⟨by kernel_rfl, rfl⟩) ?_
         (try simp only [Act.put, Till.a, Till.b, Till.c])
         refine Till.tk (i := 9) (v := undef) rfl [10, 11, 14, 15] hT (Or.inr ⟨by kernel_rfl, rfl⟩) ?_
         (try simp only [Act.put, Till.a, Till.b, Till.c])
         refine Till.tk (i := 10) (v := undef) rfl [11, 14, 15] hT (Or.inr ⟨by kernel_rfl, rfl⟩) ?_
         (try simp only [Act.put, Till.a, Till.b, Till.c])
         refine Till.tk (i := 11) (v := undef) rfl [14, 15] hT (Or.inr ⟨by kernel_rfl, rfl⟩) ?_
         (try simp only [Act.put, Till.a, Till.b, Till.c])
         refine Till.tk (i := 12) (v := undef) rfl [13, 14, 15] hT (Or.inr ⟨by kernel_rfl, rfl⟩) ?_
         (try simp only [Act.put, Till.a, Till.b, Till.c])
         refine Till.tk (i := 13) (v := undef) rfl [14, 15] hT (Or.inr ⟨by kernel_rfl, rfl⟩) ?_
         (try simp only [Act.put, Till.a, Till.b, Till.c])
         refine Till.step (i := 14) (by kernel_rfl) rfl ?_
         intro K hK
         go_simp
         refine hK.out _ _ (fun _ => hT) ?_
         clear hK K
         (try simp only [Act.put, Till.a, Till.b, Till.c])
         refine Till.tk (i := 15) (v := undef) rfl [] hT (Or.inr ⟨by kernel_rfl, rfl⟩) ?_
         (try simp only [Act.put, Till.a, Till.b, Till.c])
         refine Till.step (i := 16) (by kernel_rfl) rfl ?_
         intro K hK
         go_simp
         refine hK.out _ _ (fun h => absurd h (by decide)) ?_
         clear hK K
         (try simp only [Act.put, Till.a, Till.b, Till.c])
         refine Till.done (by kernel_rfl) ?_ _
         have HOE := Lib.hid (HO2.out.below (Below.refl _ _).drew); have HKE := Lib.hid (heap_below HKB2.out (Below.refl _ _).drew)
         have HT := Lib.hid (show N1 ⟨cn, ck, cw, cl, cm, cr, ci, false⟩ = [] from HN4.out.trans (if_neg (fun h => by cases h.1)))
         have HO8 := Lib.hid (show LosO w1 w6.drew X n c (fks.flatMap KL ++ (gks.take j').flatMap NL ++ (kfs.take (i + 1)).flatMap N1) by rw [HNY.out, HT.out, List.append_nil]; exact HOE.out)
         go_wp2
         go_roundw
         case rel => first | exact ⟨i + 1, X, n, c, by omega, by go_num, rfl, by omega, HO8, HKE⟩ | ((repeat apply Exists.intro); exact ⟨⟨i + 1, X, n, c, by omega, by go_num, rfl, by omega, HO8, HKE⟩, rfl⟩)
         case measure => simp [intOf]; omega
        | true =>
         have HCA := Lib.hid (fun wx h => HCA0.out cn wx h)
         have HIX := ixF_lo (nameIs cn) ofs
         obtain ⟨IX, hix⟩ : ∃ x, ixF (nameIs cn) ofs = x := ⟨_, rfl⟩
         have HN5 := Lib.hid (show N1 ⟨cn, ck, cw, cl, cm, cr, ci, true⟩ = if IX < 0 then [⟨kt, cn, 4⟩] else [] from HN4.out.trans (ite_iff (x := [(⟨kt, cn, 4⟩ : Loss)]) (y := []) (q := IX < 0) ⟨fun k => (by rw [<- hix]; exact k.2), fun k => ⟨rfl, (by rw [<- hix] at k; exact k)⟩⟩))
         rw [hix] at HCA HIX
         clear hix HN4
         have HSD := Lib.hid (show ∀ wx, Below w6.heap.size w6 wx -> (fun w' : World => w'.cell? ⟨cb2, 0, none⟩ = some (.string cn) /\ w'.cell? ⟨cb2, 7, none⟩ = some (.bool true) /\ w'.cell? ⟨ab, ao + k' * 4, none⟩ = some (.string ot) /\ w'.cell? ⟨ab, ao + k' * 4 + 1, none⟩ = some (.slice OA no OC) /\ w'.cell? ⟨ab, ao + k' * 4 + 2, none⟩ = some (.int .i64 om) /\ w'.cell? ⟨ab, ao + k' * 4 + 3, none⟩ = some (.string ou) /\ w'.cell? ⟨w.heap.size, 2, none⟩ = some (.slice (some ⟨ab, ao, none⟩) j cp)) wx from fun wx h => by
          obtain ⟨⟨y0, y1, y2, y3, y4, y5, y6, y7⟩, -⟩ := obox8 (heap_below HCB2.out h)
          have h2 := (HO2.out.below h).2.2
          obtain ⟨⟨-, -, v2, -, -, -, -⟩, -⟩ := obox7 (HW.out _ h2).1
          obtain ⟨v3, v4, v5, v6⟩ := HGK.out _ h2
          exact ⟨y0, y7, v3, v4, v5, v6, v2⟩)
         have hT := HSD.out _ (Below.refl _ _).drew
         refine region_till 16 (fun w' : World => w'.cell? ⟨cb2, 0, none⟩ = some (.string cn) /\ w'.cell? ⟨cb2, 7, none⟩ = some (.bool true) /\ w'.cell? ⟨ab, ao + k' * 4, none⟩ = some (.string ot) /\ w'.cell? ⟨ab, ao + k' * 4 + 1, none⟩ = some (.slice OA no OC) /\ w'.cell? ⟨ab, ao + k' * 4 + 2, none⟩ = some (.int .i64 om) /\ w'.cell? ⟨ab, ao + k' * 4 + 3, none⟩ = some (.string ou) /\ w'.cell? ⟨w.heap.size, 2, none⟩ = some (.slice (some ⟨ab, ao, none⟩) j cp)) (by kernel_rfl) ?_
         refine Till.tk (i := 0) (v := ?_) rfl [1, 2, 6] hT (Or.inl ⟨by kernel_rfl, ?_⟩) ?_
         rotate_left
         ·(intro w' hw'; obtain ⟨u0, u1, u2, u3, u4, u5, u6⟩ := hw'; go_simp; try with_reducible rfl)
         (try simp only [Act.put, Till.a, Till.b, Till.c])
         refine Till.tk (i := 1) (v := ?_) rfl [2, 6] hT (Or.inl ⟨by kernel_rfl, ?_⟩) ?_
         rotate_left
         ·(intro w' hw'; obtain ⟨u0, u1, u2, u3, u4, u5, u6⟩ := hw'; go_simp; try with_reducible rfl)
         (try simp only [Act.put, Till.a, Till.b, Till.c])
         refine Till.tk (i := 2) (v := ?_) rfl [6] hT (Or.inl ⟨by kernel_rfl, ?_⟩) ?_
         rotate_left
         ·(intro w' hw'; obtain ⟨u0, u1, u2, u3, u4, u5, u6⟩ := hw'; go_simp; try with_reducible rfl)
         (try simp only [Act.put, Till.a, Till.b, Till.c])
         refine Till.tk (i := 3) (v := ?_) rfl [4, 5, 6] hT (Or.inl ⟨by kernel_rfl, ?_⟩) ?_
         rotate_left
         ·(intro w' hw'; obtain ⟨u0, u1, u2, u3, u4, u5, u6⟩ := hw'; go_simp; try with_reducible rfl)
         (try simp only [Act.put, Till.a, Till.b, Till.c])
         refine Till.tk (i := 4) (v := ?_) rfl [5, 6] hT (Or.inl ⟨by kernel_rfl, ?_⟩) ?_
         rotate_left
         ·(intro w' hw'; obtain ⟨u0, u1, u2, u3, u4, u5, u6⟩ := hw'; go_simp; try with_reducible rfl)
         (try simp only [Act.put, Till.a, Till.b, Till.c])
         refine Till.tk (i := 5) (v := ?_) rfl [6] hT (Or.inl ⟨by kernel_rfl, ?_⟩) ?_
         rotate_left
         ·(intro w' hw'; obtain ⟨u0, u1, u2, u3, u4, u5, u6⟩ := hw'; go_simp; try with_reducible rfl)
         (try simp only [Act.put, Till.a, Till.b, Till.c])
         refine Till.tk (i := 6) (v := ?_) rfl [] hT (Or.inl ⟨by kernel_rfl, ?_⟩) ?_
         rotate_left
         ·(intro w' hw'; obtain ⟨u0, u1, u2, u3, u4, u5, u6⟩ := hw'; go_simp; try with_reducible rfl)
         (try simp only [Act.put, Till.a, Till.b, Till.c])
         refine Till.tk (i := 7) (v := ?_) rfl [8, 10, 11, 14, 15] hT (Or.inl ⟨by kernel_rfl, ?_⟩) ?_
         rotate_left
         ·(intro w' hw'; obtain ⟨u0, u1, u2, u3, u4, u5, u6⟩ := hw'; go_simp; try with_reducible rfl)
         (try simp only [Act.put, Till.a, Till.b, Till.c])
         refine Till.tk (i := 8) (v := ?_) rfl [10, 11, 14, 15] hT (Or.inl ⟨by kernel_rfl, ?_⟩) ?_
         rotate_left
         ·(intro w' hw'; obtain ⟨u0, u1, u2, u3, u4, u5, u6⟩ := hw'; go_simp; try with_reducible rfl)
         (try simp only [Act.put, Till.a, Till.b, Till.c])
         refine Till.tk (i := 9) (v := ?_) rfl [10, 11, 14, 15] hT (Or.inl ⟨by kernel_rfl, ?_⟩) ?_
         rotate_left
         ·(intro w' hw'; obtain ⟨u0, u1, u2, u3, u4, u5, u6⟩ := hw'; go_simp; try with_reducible rfl)
         (try simp only [Act.put, Till.a, Till.b, Till.c])
         refine Till.tk (i := 10) (v := ?_) rfl [11, 14, 15] hT (Or.inl ⟨by kernel_rfl, ?_⟩) ?_
         rotate_left
         ·(intro w' hw'; obtain ⟨u0, u1, u2, u3, u4, u5, u6⟩ := hw'; go_simp; try with_reducible rfl)
         (try simp only [Act.put, Till.a, Till.b, Till.c])
         refine Till.tk (i := 11) (v := ?_) rfl [14, 15] hT (Or.inl ⟨by kernel_rfl, ?_⟩) ?_
         rotate_left
         ·(intro w' hw'; obtain ⟨u0, u1, u2, u3, u4, u5, u6⟩ := hw'; go_simp; try with_reducible rfl)
         (try simp only [Act.put, Till.a, Till.b, Till.c])
         refine Till.tk (i := 12) (v := ?_) rfl [13, 14, 15] hT (Or.inl ⟨by kernel_rfl, ?_⟩) ?_
         rotate_left
         ·(intro w' hw'; obtain ⟨u0, u1, u2, u3, u4, u5, u6⟩ := hw'; go_simp; try with_reducible rfl)
         (try simp only [Act.put, Till.a, Till.b, Till.c])
         refine Till.tk (i := 13) (v := ?_) rfl [14, 15] hT (Or.inl ⟨by kernel_rfl, ?_⟩) ?_
         rotate_left
         ·(intro w' hw'; obtain ⟨u0, u1, u2, u3, u4, u5, u6⟩ := hw'; go_simp; try with_reducible rfl)
         (try simp only [Act.put, Till.a, Till.b, Till.c])
         refine Till.step (i := 14) (by kernel_rfl) rfl ?_
         intro K hK
         go_simp
         (go_at_call 33; refine (HCA.out _ (HO2.out.below (Below.refl _ _).drew).2.2).mono ?_; rintro _ w7 ⟨rfl, hb7⟩; (have T7 : Below w6.heap.size w6 w7 := ⟨hb7.os, hb7.tape, hb7.output, hb7.size, hb7.block⟩))
         have hT := HSD.out _ T7
         refine hK.out _ _ (fun _ => hT) ?_
         clear hK K
         (try simp only [Act.put, Till.a, Till.b, Till.c])
         refine Till.tk (i := 15) (v := ?_) rfl [] hT (Or.inl ⟨by kernel_rfl, ?_⟩) ?_
         rotate_left
         ·(intro w' hw'; obtain ⟨u0, u1, u2, u3, u4, u5, u6⟩ := hw'; go_simp; try with_reducible rfl)
         (try simp only [Act.put, Till.a, Till.b, Till.c])
         refine Till.step (i := 16) (by kernel_rfl) rfl ?_
         intro K hK
         go_simp
         refine hK.out _ _ (fun h => absurd h (by decide)) ?_
         clear hK K
         (try simp only [Act.put, Till.a, Till.b, Till.c])
         refine Till.done (by kernel_rfl) ?_ _
         have HOE := Lib.hid (HO2.out.below T7); have HKE := Lib.hid (heap_below HKB2.out T7); have HCE := Lib.hid (heap_below HCB2.out T7)
         have hz7 := HOE.out.2.2.size
         clear HKB2 HCB2 HO2 HCA
         by_cases hneg : IX < 0
         ·have HT := Lib.hid (HN5.out.trans (if_pos hneg))
          obtain ⟨⟨k0, k1, k2, k3⟩, -, -⟩ := obox4 HKE.out
          obtain ⟨⟨x0, x1, x2, x3, x4, x5, x6, x7⟩, -⟩ := obox8 HCE.out
          go_wp2_with (at_builtin; refine wpList_zpush rfl _ _ 30 rfl w1.heap.size 35 i0 (.agg #[.string ⟨#[]⟩, .string ⟨#[]⟩, .int .i64 0]) 3 40 Tryz.underlying30 hi hz0 hz1 hz2 rfl (by decide) (.slice X n c) n (losC (fks.flatMap KL ++ (gks.take j').flatMap NL ++ (kfs.take i).flatMap N1)) rfl HOE.out.2.1 [.string kt, .string cn, .int .i64 4] rfl rfl (by intro u hu; simp at hu; rcases hu with rfl | rfl | rfl <;> rfl) (by unfold maxLen; omega) (by omega) hz7 ?_; intro X8 c8 w8 hown7 hg7)
          have HO8 := Lib.hid (show LosO w1 w8 X8 (n + 1) c8 (fks.flatMap KL ++ (gks.take j').flatMap NL ++ (kfs.take (i + 1)).flatMap N1) by rw [HNY.out, HT.out, <- List.append_assoc]; exact HOE.out.push hown7 hg7)
          have HKB8 := Lib.hid (HOE.out.keep hg7 HKE.out (by decide))
          go_roundw
          case rel => first | exact ⟨i + 1, X8, n + 1, c8, by omega, by go_num, rfl, by omega, HO8, HKB8⟩ | ((repeat apply Exists.intro); exact ⟨⟨i + 1, X8, n + 1, c8, by omega, by go_num, rfl, by omega, HO8, HKB8⟩, rfl⟩)
          case measure => simp [intOf]; omega
         ·skip
          have HT := Lib.hid (show N1 ⟨cn, ck, cw, cl, cm, cr, ci, true⟩ = [] from HN5.out.trans (if_neg hneg))
          have HO8 := Lib.hid (show LosO w1 w7 X n c (fks.flatMap KL ++ (gks.take j').flatMap NL ++ (kfs.take (i + 1)).flatMap N1) by rw [HNY.out, HT.out, List.append_nil]; exact HOE.out)
          go_wp2
          go_roundw
          case rel => first | exact ⟨i + 1, X, n, c, by omega, by go_num, rfl, by omega, HO8, HKE⟩ | ((repeat apply Exists.intro); exact ⟨⟨i + 1, X, n, c, by omega, by go_num, rfl, by omega, HO8, HKE⟩, rfl⟩)
          case measure => simp [intOf]; omega
       ·obtain rfl : i = nf := by omega
        have HO7 := Lib.hid (show LosO w1 wr X n c (fks.flatMap KL ++ (gks.take (j' + 1)).flatMap NL) by
         have h := HO.out
         rw [show kfs.take i = kfs by rw [<- HNF.out, List.take_length], List.append_assoc] at h
         rw [HNX.out]
         exact h)
        go_wp2
        go_roundw
        case rel => first | exact ⟨j' + 1, X, n, c, by omega, by go_num, rfl, by omega, HO7⟩ | ((repeat apply Exists.intro); exact ⟨⟨j' + 1, X, n, c, by omega, by go_num, rfl, by omega, HO7⟩, rfl⟩)
        case measure => simp [intOf]; omega
    ·obtain rfl : j' = ng := by omega
     have HO3 := Lib.hid (show LosO w1 wr X n c (fks.flatMap KL ++ gks.flatMap NL) by have h := HO.out; rw [show gks.take j' = gks by rw [<- HNG.out, List.take_length]] at h; exact h)
     clear HO
     go_wp2
     go_ret2
     rw [HE.out]
     exact ⟨X, c, by rw [HO3.out.1]; rfl, own_los HO3.out.2.1 HO3.out.1, (HW.out _ HO3.out.2.2).2.2.2.2.2⟩
end Go.Proofs.YtaiabjiehpcaoaaGreatDoor
