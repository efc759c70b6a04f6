/- The walks of losesNumber, losesText, losesDay, loses. The walks of barred, losesText, losesDay, loses. -/
import Derived.Test.YtaiabjiehpcaoaaGreatDoorZ3
-- merged: Z4 Z5
namespace Go.Proofs.YtaiabjiehpcaoaaGreatDoor
open Go.RowKit Limb Nmb Work
set_option linter.unusedVariables false
set_option linter.unusedSimpArgs false
set_option maxHeartbeats 2000000 in
set_option maxRecDepth 100000 in
theorem lose1_c (f g : Fmt) (A B : Option Addr) (n k cp cq : Nat) (c o : Col) (s : Shp) (b1 b2 b3 b4 : Nat) (w : World) (hs : ShpK s) (hc : 0 <= c.places /\ c.places <= 9) (ho : 0 <= o.places /\ o.places <= 9)
  (h1 : w.heap[b1]? = some (.cells #[.int .u8 f.mark, .int .u8 f.quote, .slice A n cp, .string f.head, .string f.tail, .string f.count, .string f.sum] 24 (0, 0))) (h2 : w.heap[b2]? = some (.cells #[.string c.name, .int .i64 c.kind, .int .i64 c.width, .int .i64 c.places, .int .i64 c.form, .bool c.right, .int .u8 c.fill, .bool c.need] 60 (0, 0)))
  (h3 : w.heap[b3]? = some (.cells #[.int .u8 g.mark, .int .u8 g.quote, .slice B k cq, .string g.head, .string g.tail, .string g.count, .string g.sum] 24 (0, 0))) (h4 : w.heap[b4]? = some (.cells #[.string o.name, .int .i64 o.kind, .int .i64 o.width, .int .i64 o.places, .int .i64 o.form, .bool o.right, .int .u8 o.fill, .bool o.need] 60 (0, 0))) :
  Calls Tryz.prog 167 #[shpG s, .pointer (some ⟨b1, 0, none⟩), .pointer (some ⟨b2, 0, none⟩), .pointer (some ⟨b3, 0, none⟩), .pointer (some ⟨b4, 0, none⟩)] w (RetB (shInB f.mark c s && !shInB g.mark o s) w) := by
 have HI1 := Lib.hid (fun w => isin_c f A n cp c s w hs hc)
 have HI2 := Lib.hid (fun w => isin_c g B k cq o s w hs ho)
 generalize shInB f.mark c s = X at HI1 ⊢
 generalize shInB g.mark o s = Y at HI2 ⊢
 clear hs hc ho
 obtain ⟨fm, fq, fks, fd, ft, fc, fs0⟩ := f
 obtain ⟨gm, gq, gks, gd, gt, gc, gs⟩ := g
 obtain ⟨cn, ck, cw, cpl, cm, cr, cl, ce⟩ := c
 obtain ⟨on, ok, ow, op, om, or, ol, oe⟩ := o
 obtain ⟨ng, bf, p, fs⟩ := s
 unfold RetB shpG colG at HI1 HI2
 unfold shpG RetB
 simp only at HI1 HI2 h1 h2 h3 h4 ⊢
 have HS := Lib.hid (heap_new w (.cells #[.int .i64 ng, .int .i64 bf, .int .i64 p, .int .i64 fs] 182) rfl)
 have H1 := Lib.hid (heap_old h1 (.cells #[.int .i64 ng, .int .i64 bf, .int .i64 p, .int .i64 fs] 182)); have H2 := Lib.hid (heap_old h2 (.cells #[.int .i64 ng, .int .i64 bf, .int .i64 p, .int .i64 fs] 182)); have H3 := Lib.hid (heap_old h3 (.cells #[.int .i64 ng, .int .i64 bf, .int .i64 p, .int .i64 fs] 182)); have H4 := Lib.hid (heap_old h4 (.cells #[.int .i64 ng, .int .i64 bf, .int .i64 p, .int .i64 fs] 182))
 have HB : Hid (Below w.heap.size w (w.alloc (.cells #[.int .i64 ng, .int .i64 bf, .int .i64 p, .int .i64 fs] 182))) := Lib.hid (by go_grown)
 clear h1 h2 h3 h4
 go_enter Tryz.func167, Tryz.ntmps167
 obtain ⟨⟨s0, s1, s2, s3⟩, -, -⟩ := obox4 HS.out
 obtain ⟨⟨f0, f1, f2, f3, f4, f5, f6⟩, -⟩ := obox7 H1.out
 obtain ⟨⟨x0, x1, x2, x3, x4, x5, x6, x7⟩, -⟩ := obox8 H2.out
 go_wp2_with fail
 refine (HI1.out _).mono ?_
 rintro _ w2 ⟨rfl, hb2⟩
 have HB2 := Lib.hid (below_then hb2 HB.out HB.out.size)
 have hS2 := heap_below HS.out hb2; have h3 := heap_below H3.out hb2; have h4 := heap_below H4.out hb2
 clear s0 s1 s2 s3 f0 f1 f2 f3 f4 f5 f6 x0 x1 x2 x3 x4 x5 x6 x7 hb2
 cases X with
 | false =>
  go_wp2
  go_ret
  exact ⟨rfl, HB2.out⟩
 | true =>
  obtain ⟨⟨s0, s1, s2, s3⟩, -, -⟩ := obox4 hS2
  obtain ⟨⟨f0, f1, f2, f3, f4, f5, f6⟩, -⟩ := obox7 h3
  obtain ⟨⟨x0, x1, x2, x3, x4, x5, x6, x7⟩, -⟩ := obox8 h4
  go_wp2_with fail
  refine (HI2.out _).mono ?_
  rintro _ w3 ⟨rfl, hb3⟩
  have hB3 := below_then hb3 HB2.out HB2.out.size
  go_wp2
  go_ret
  exact ⟨rfl, hB3⟩
set_option maxHeartbeats 1000000 in
set_option maxRecDepth 100000 in
theorem ixs_c (N : Nat) (k1 k2 k3 k4 : Value) (q : Shp -> Bool) (A : Option Addr) (c : Nat) (cs : List Shp) (w : World) (hm : cs.length <= 9223372036854775807) (ho : Shps w A cs) (hr : ∀ args w, (Sem.run Tryz.prog (callFunc N args) w) = .ok (.enter N args) w)
  (hq : ∀ j, j < cs.length -> ∀ wr, Below w.heap.size w wr -> Calls Tryz.prog N #[shpG (sA cs j), k1, k2, k3, k4] wr fun e w' => e = .returned (.bool (q (sA cs j))) /\ Below wr.heap.size wr w') :
  Calls Tryz.prog 213 #[.slice A cs.length c, .func (.func N) #[] #[k1, k2, k3, k4]] w
   fun e w' => e = .returned (.int .i64 (ixF q cs)) /\ Below w.heap.size w w' := by
 have HO := Lib.hid ho; have HQ := Lib.hid hq; have HR := Lib.hid hr
 obtain ⟨n, hnn⟩ : ∃ n, cs.length = n := ⟨_, rfl⟩
 have HN := Lib.hid hnn
 rw [hnn] at hm ⊢
 clear ho hr hq hnn
 go_enter Tryz.func213, Tryz.ntmps213
 go_wp2
 go_loopw [8] (fun i wr => ∃ k : Nat, k <= n /\ i = .int .i64 k /\ Below w.heap.size w wr /\ Hid (∀ j, j < k -> q (sA cs j) = false)) (fun i _ => n - (intOf i).toNat)
 case atStart => exact ⟨0, Nat.zero_le _, rfl, Below.refl _ _, Lib.hid (fun j h => absurd h (Nat.not_lt_zero _))⟩
 case round =>
  obtain ⟨k, hk, rfl, hb, HK⟩ := hrel
  rcases Nat.lt_or_ge k n with hlt | hge
  ·have hltj : k < cs.length := by rw [HN.out]; exact hlt
   obtain ⟨b, off, rfl, hbw, hc⟩ := Rws.get (HO.out.below hb) hltj
   have c0 : wr.cell? ⟨b, off + k * 4, none⟩ = some (.int .i64 (sA cs k).neg) := hc 0 (by decide)
   have c1 : wr.cell? ⟨b, off + k * 4 + 1, none⟩ = some (.int .i64 (sA cs k).before) := hc 1 (by decide)
   have c2 : wr.cell? ⟨b, off + k * 4 + 2, none⟩ = some (.int .i64 (sA cs k).places) := hc 2 (by decide)
   have c3 : wr.cell? ⟨b, off + k * 4 + 3, none⟩ = some (.int .i64 (sA cs k).first) := hc 3 (by decide)
   have HC := Lib.hid (HQ.out k hltj wr hb)
   obtain ⟨x, hx⟩ : ∃ x, sA cs k = x := ⟨_, rfl⟩
   have HX := Lib.hid hx
   rw [hx] at c0 c1 c2 c3 HC
   unfold shpG at HC
   clear hc hx
   cases hot : q x with
   | true =>
    rw [hot] at HC
    have HT := Lib.hid (show ixF q cs = (k : Int) from ixF_hit hltj (by rw [sA_get hltj, HX.out]; exact hot) (fun j hj hjk => by rw [sA_get hj]; exact HK.out j hjk))
    clear hot hltj
    go_wp2_with fail
    rw [HR.out]
    refine HC.out.mono ?_
    rintro e w2 ⟨rfl, hb2⟩
    have hB2 := below_then hb2 hb hb.size
    go_wp2
    go_ret
    exact ⟨congrArg (fun i => Ending.returned (Value.int .i64 i)) HT.out.symm, hB2⟩
   | false =>
    rw [hot] at HC
    have HK2 := Lib.hid (show ∀ j, j < k + 1 -> q (sA cs j) = false from fun j hj => by
     rcases Nat.lt_or_ge j k with h | h
     ·exact HK.out j h
     ·obtain rfl : j = k := by omega
      rw [HX.out]; exact hot)
    clear hot hltj
    go_wp2_with fail
    rw [HR.out]
    refine HC.out.mono ?_
    rintro e w2 ⟨rfl, hb2⟩
    have hB2 := below_then hb2 hb hb.size
    go_wp2
    go_roundw
    case rel => exact ⟨k + 1, by omega, by go_num, hB2, HK2⟩
    case measure => simp [intOf]; omega
  ·obtain rfl : k = n := by omega
   have HT := Lib.hid (show ixF q cs = -1 from ixF_no (fun j hj => by rw [sA_get hj]; exact HK.out j (by rw [<- HN.out]; exact hj)))
   go_wp2
   go_ret
   exact ⟨congrArg (fun i => Ending.returned (Value.int .i64 i)) HT.out.symm, hb⟩
set_option maxRecDepth 100000 in
theorem anys_of (V W : Value) (b : Bool) (i : Int) (w : World) (hi : decide (0 <= i) = b)
  (h : Calls Tryz.prog 213 #[V, W] w fun e w' => e = .returned (.int .i64 i) /\ Below w.heap.size w w') :
  Calls Tryz.prog 165 #[V, W] w fun e w' => e = .returned (.bool b) /\ Below w.heap.size w w' := by
 have HI := Lib.hid hi
 clear hi
 go_enter Tryz.func165, Tryz.ntmps165
 go_wp2_with fail
 refine h.mono ?_
 rintro e w2 ⟨rfl, hb2⟩
 go_wp2
 go_ret
 exact ⟨congrArg (fun b => Ending.returned (Value.bool b)) HI.out, hb2⟩
set_option maxHeartbeats 2000000 in
set_option maxRecDepth 100000 in
theorem losenum_c (f g : Fmt) (A B : Option Addr) (n k cp cq : Nat) (c o : Col) (w : World) (hc : 0 <= c.places /\ c.places <= 9) (ho : 0 <= o.places /\ o.places <= 9) :
  Calls Tryz.prog 101 #[.agg #[.int .u8 f.mark, .int .u8 f.quote, .slice A n cp, .string f.head, .string f.tail, .string f.count, .string f.sum], .agg #[.int .u8 g.mark, .int .u8 g.quote, .slice B k cq, .string g.head, .string g.tail, .string g.count, .string g.sum], colG c, colG o] w (RetB (numLoss f g c o) w) := by
 have H1 := heap_old (heap_old (heap_old (heap_new w (.cells #[.int .u8 f.mark, .int .u8 f.quote, .slice A n cp, .string f.head, .string f.tail, .string f.count, .string f.sum] 24) rfl) (.cells #[.int .u8 g.mark, .int .u8 g.quote, .slice B k cq, .string g.head, .string g.tail, .string g.count, .string g.sum] 24)) (.cells #[.string c.name, .int .i64 c.kind, .int .i64 c.width, .int .i64 c.places, .int .i64 c.form, .bool c.right, .int .u8 c.fill, .bool c.need] 60)) (.cells #[.string o.name, .int .i64 o.kind, .int .i64 o.width, .int .i64 o.places, .int .i64 o.form, .bool o.right, .int .u8 o.fill, .bool o.need] 60)
 have H3 := heap_old (heap_old (heap_new (w.alloc (.cells #[.int .u8 f.mark, .int .u8 f.quote, .slice A n cp, .string f.head, .string f.tail, .string f.count, .string f.sum] 24)) (.cells #[.int .u8 g.mark, .int .u8 g.quote, .slice B k cq, .string g.head, .string g.tail, .string g.count, .string g.sum] 24) (g := w.heap.size + 1) (by simp)) (.cells #[.string c.name, .int .i64 c.kind, .int .i64 c.width, .int .i64 c.places, .int .i64 c.form, .bool c.right, .int .u8 c.fill, .bool c.need] 60)) (.cells #[.string o.name, .int .i64 o.kind, .int .i64 o.width, .int .i64 o.places, .int .i64 o.form, .bool o.right, .int .u8 o.fill, .bool o.need] 60)
 have H2 := heap_old (heap_new ((w.alloc (.cells #[.int .u8 f.mark, .int .u8 f.quote, .slice A n cp, .string f.head, .string f.tail, .string f.count, .string f.sum] 24)).alloc (.cells #[.int .u8 g.mark, .int .u8 g.quote, .slice B k cq, .string g.head, .string g.tail, .string g.count, .string g.sum] 24)) (.cells #[.string c.name, .int .i64 c.kind, .int .i64 c.width, .int .i64 c.places, .int .i64 c.form, .bool c.right, .int .u8 c.fill, .bool c.need] 60) (g := w.heap.size + 1 + 1) (by simp)) (.cells #[.string o.name, .int .i64 o.kind, .int .i64 o.width, .int .i64 o.places, .int .i64 o.form, .bool o.right, .int .u8 o.fill, .bool o.need] 60)
 have H4 := heap_new (((w.alloc (.cells #[.int .u8 f.mark, .int .u8 f.quote, .slice A n cp, .string f.head, .string f.tail, .string f.count, .string f.sum] 24)).alloc (.cells #[.int .u8 g.mark, .int .u8 g.quote, .slice B k cq, .string g.head, .string g.tail, .string g.count, .string g.sum] 24)).alloc (.cells #[.string c.name, .int .i64 c.kind, .int .i64 c.width, .int .i64 c.places, .int .i64 c.form, .bool c.right, .int .u8 c.fill, .bool c.need] 60)) (.cells #[.string o.name, .int .i64 o.kind, .int .i64 o.width, .int .i64 o.places, .int .i64 o.form, .bool o.right, .int .u8 o.fill, .bool o.need] 60) (g := w.heap.size + 1 + 1 + 1) (by simp)
 have HB : Hid (Below w.heap.size w ((((w.alloc (.cells #[.int .u8 f.mark, .int .u8 f.quote, .slice A n cp, .string f.head, .string f.tail, .string f.count, .string f.sum] 24)).alloc (.cells #[.int .u8 g.mark, .int .u8 g.quote, .slice B k cq, .string g.head, .string g.tail, .string g.count, .string g.sum] 24)).alloc (.cells #[.string c.name, .int .i64 c.kind, .int .i64 c.width, .int .i64 c.places, .int .i64 c.form, .bool c.right, .int .u8 c.fill, .bool c.need] 60)).alloc (.cells #[.string o.name, .int .i64 o.kind, .int .i64 o.width, .int .i64 o.places, .int .i64 o.form, .bool o.right, .int .u8 o.fill, .bool o.need] 60))) := Lib.hid (by go_grown)
 obtain ⟨R, hR⟩ : ∃ x, numLoss f g c o = x := ⟨_, rfl⟩
 have HR := Lib.hid (show decide (0 <= ixF (fun s => shInB f.mark c s && !shInB g.mark o s) shapesL) = R by rw [ixF_any]; exact hR)
 rw [hR]
 clear hR
 unfold colG
 go_enter Tryz.func101, Tryz.ntmps101
 go_wp2_with fail
 generalize (((w.alloc (.cells #[.int .u8 f.mark, .int .u8 f.quote, .slice A n cp, .string f.head, .string f.tail, .string f.count, .string f.sum] 24)).alloc (.cells #[.int .u8 g.mark, .int .u8 g.quote, .slice B k cq, .string g.head, .string g.tail, .string g.count, .string g.sum] 24)).alloc (.cells #[.string c.name, .int .i64 c.kind, .int .i64 c.width, .int .i64 c.places, .int .i64 c.form, .bool c.right, .int .u8 c.fill, .bool c.need] 60)).alloc (.cells #[.string o.name, .int .i64 o.kind, .int .i64 o.width, .int .i64 o.places, .int .i64 o.form, .bool o.right, .int .u8 o.fill, .bool o.need] 60) = w1 at H1 H2 H3 H4 HB ⊢
 refine (shapes_c w1).mono ?_
 rintro _ w2 ⟨SA, sc, rfl, hs, hb2⟩
 have HQ := Lib.hid (fun j (hj : j < shapesL.length) wr (h : Below w2.heap.size w2 wr) => lose1_c f g A B n k cp cq c o (sA shapesL j) w.heap.size (w.heap.size + 1 + 1) (w.heap.size + 1) (w.heap.size + 1 + 1 + 1) wr (shapes_ok _ (by rw [<- sA_get hj]; exact List.getElem_mem hj)) hc ho (heap_below H1 (below_then h hb2 hb2.size)) (heap_below H2 (below_then h hb2 hb2.size)) (heap_below H3 (below_then h hb2 hb2.size)) (heap_below H4 (below_then h hb2 hb2.size)))
 have HIX := Lib.hid (ixs_c 167 (.pointer (some ⟨w.heap.size, 0, none⟩)) (.pointer (some ⟨w.heap.size + 1 + 1, 0, none⟩)) (.pointer (some ⟨w.heap.size + 1, 0, none⟩)) (.pointer (some ⟨w.heap.size + 1 + 1 + 1, 0, none⟩)) (fun s => shInB f.mark c s && !shInB g.mark o s) SA sc shapesL w2 (by rw [shapes_len]; omega) hs (fun _ _ => by kernel_rfl) HQ.out)
 rw [shapes_len] at HIX
 have HB2 := Lib.hid (below_then hb2 HB.out HB.out.size)
 clear H1 H2 H3 H4 HB hb2 hs HQ hc ho
 go_wp2_with fail
 refine (anys_of _ _ R _ _ HR.out HIX.out).mono ?_
 rintro _ w3 ⟨rfl, hb3⟩
 have hB3 := below_then hb3 HB2.out HB2.out.size
 go_wp2
 go_ret
 exact ⟨rfl, hB3⟩
set_option maxRecDepth 100000 in
theorem barred_c (f : Fmt) (A : Option Addr) (n cp : Nat) (w : World) :
  Calls Tryz.prog 169 #[.agg #[.int .u8 f.mark, .int .u8 f.quote, .slice A n cp, .string f.head, .string f.tail, .string f.count, .string f.sum]] w fun e w' => e = .returned (.int .u8 (barF f)) /\ Below w.heap.size w w' := by
 obtain ⟨fm, fq, fks, fd, ft, fc, fs0⟩ := f
 simp only
 by_cases hq : fq = 0
 ·subst hq
  rw [show barF ⟨fm, 0, fks, fd, ft, fc, fs0⟩ = fm from if_neg (fun h => h rfl)]
  go_enter Tryz.func169, Tryz.ntmps169
  go_wp2
  go_ret
  exact ⟨rfl, by go_grown⟩
 ·rw [show barF ⟨fm, fq, fks, fd, ft, fc, fs0⟩ = 0 from if_pos hq]
  have h1 : (fq != 0) = true := by simpa using hq
  go_enter Tryz.func169, Tryz.ntmps169
  go_wp2
  go_ret
  exact ⟨rfl, by go_grown⟩
set_option maxHeartbeats 2000000 in
set_option maxRecDepth 100000 in
theorem losetext_c (f g : Fmt) (A B : Option Addr) (n k cp cq : Nat) (c o : Col) (w : World) :
  Calls Tryz.prog 103 #[.agg #[.int .u8 f.mark, .int .u8 f.quote, .slice A n cp, .string f.head, .string f.tail, .string f.count, .string f.sum], .agg #[.int .u8 g.mark, .int .u8 g.quote, .slice B k cq, .string g.head, .string g.tail, .string g.count, .string g.sum], colG c, colG o] w (RetB (txtLoss f g c o) w) := by
 have HG := Lib.hid (fun w => barred_c g B k cq w)
 have HF := Lib.hid (fun w => barred_c f A n cp w)
 obtain ⟨R, hR⟩ : ∃ x, txtLoss f g c o = x := ⟨_, rfl⟩
 obtain ⟨bg, hbg⟩ : ∃ x, barF g = x := ⟨_, rfl⟩
 obtain ⟨bf, hbf⟩ : ∃ x, barF f = x := ⟨_, rfl⟩
 have HR := Lib.hid (show (decide (o.width < c.width) || (decide (bg ≠ 0) && decide (bg ≠ bf) && (decide (bg ≠ 32) || decide (2 < c.width)))) = R by rw [<- hR, <- hbg, <- hbf]; rfl)
 rw [hbg] at HG
 rw [hbf] at HF
 rw [hR]
 clear hR hbg hbf
 unfold RetB colG
 obtain ⟨fm, fq, fks, fd, ft, fc, fs0⟩ := f
 obtain ⟨gm, gq, gks, gd, gt, gc, gs⟩ := g
 obtain ⟨cn, ck, cw, cpl, cm, cr, cl, ce⟩ := c
 obtain ⟨on, ok, ow, op, om, or, ol, oe⟩ := o
 simp only at HG HF HR ⊢
 have H1 := heap_old (heap_old (heap_old (heap_new w (.cells #[.int .u8 fm, .int .u8 fq, .slice A n cp, .string fd, .string ft, .string fc, .string fs0] 24) rfl) (.cells #[.int .u8 gm, .int .u8 gq, .slice B k cq, .string gd, .string gt, .string gc, .string gs] 24)) (.cells #[.string cn, .int .i64 ck, .int .i64 cw, .int .i64 cpl, .int .i64 cm, .bool cr, .int .u8 cl, .bool ce] 60)) (.cells #[.string on, .int .i64 ok, .int .i64 ow, .int .i64 op, .int .i64 om, .bool or, .int .u8 ol, .bool oe] 60)
 have H2 := heap_old (heap_old (heap_new (w.alloc (.cells #[.int .u8 fm, .int .u8 fq, .slice A n cp, .string fd, .string ft, .string fc, .string fs0] 24)) (.cells #[.int .u8 gm, .int .u8 gq, .slice B k cq, .string gd, .string gt, .string gc, .string gs] 24) (g := w.heap.size + 1) (by simp)) (.cells #[.string cn, .int .i64 ck, .int .i64 cw, .int .i64 cpl, .int .i64 cm, .bool cr, .int .u8 cl, .bool ce] 60)) (.cells #[.string on, .int .i64 ok, .int .i64 ow, .int .i64 op, .int .i64 om, .bool or, .int .u8 ol, .bool oe] 60)
 have H3 := heap_old (heap_new ((w.alloc (.cells #[.int .u8 fm, .int .u8 fq, .slice A n cp, .string fd, .string ft, .string fc, .string fs0] 24)).alloc (.cells #[.int .u8 gm, .int .u8 gq, .slice B k cq, .string gd, .string gt, .string gc, .string gs] 24)) (.cells #[.string cn, .int .i64 ck, .int .i64 cw, .int .i64 cpl, .int .i64 cm, .bool cr, .int .u8 cl, .bool ce] 60) (g := w.heap.size + 1 + 1) (by simp)) (.cells #[.string on, .int .i64 ok, .int .i64 ow, .int .i64 op, .int .i64 om, .bool or, .int .u8 ol, .bool oe] 60)
 have H4 := heap_new (((w.alloc (.cells #[.int .u8 fm, .int .u8 fq, .slice A n cp, .string fd, .string ft, .string fc, .string fs0] 24)).alloc (.cells #[.int .u8 gm, .int .u8 gq, .slice B k cq, .string gd, .string gt, .string gc, .string gs] 24)).alloc (.cells #[.string cn, .int .i64 ck, .int .i64 cw, .int .i64 cpl, .int .i64 cm, .bool cr, .int .u8 cl, .bool ce] 60)) (.cells #[.string on, .int .i64 ok, .int .i64 ow, .int .i64 op, .int .i64 om, .bool or, .int .u8 ol, .bool oe] 60) (g := w.heap.size + 1 + 1 + 1) (by simp)
 have HB : Hid (Below w.heap.size w ((((w.alloc (.cells #[.int .u8 fm, .int .u8 fq, .slice A n cp, .string fd, .string ft, .string fc, .string fs0] 24)).alloc (.cells #[.int .u8 gm, .int .u8 gq, .slice B k cq, .string gd, .string gt, .string gc, .string gs] 24)).alloc (.cells #[.string cn, .int .i64 ck, .int .i64 cw, .int .i64 cpl, .int .i64 cm, .bool cr, .int .u8 cl, .bool ce] 60)).alloc (.cells #[.string on, .int .i64 ok, .int .i64 ow, .int .i64 op, .int .i64 om, .bool or, .int .u8 ol, .bool oe] 60))) := Lib.hid (by go_grown)
 go_enter Tryz.func103, Tryz.ntmps103
 go_upto_region 1 with fail
 generalize (((w.alloc (.cells #[.int .u8 fm, .int .u8 fq, .slice A n cp, .string fd, .string ft, .string fc, .string fs0] 24)).alloc (.cells #[.int .u8 gm, .int .u8 gq, .slice B k cq, .string gd, .string gt, .string gc, .string gs] 24)).alloc (.cells #[.string cn, .int .i64 ck, .int .i64 cw, .int .i64 cpl, .int .i64 cm, .bool cr, .int .u8 cl, .bool ce] 60)).alloc (.cells #[.string on, .int .i64 ok, .int .i64 ow, .int .i64 op, .int .i64 om, .bool or, .int .u8 ol, .bool oe] 60) = w1 at H1 H2 H3 H4 HB ⊢
 obtain ⟨⟨p0, p1, p2, p3, p4, p5, p6⟩, -⟩ := obox7 H1; obtain ⟨⟨q0, q1, q2, q3, q4, q5, q6⟩, -⟩ := obox7 H2; obtain ⟨⟨x0, x1, x2, x3, x4, x5, x6, x7⟩, -⟩ := obox8 H3; obtain ⟨⟨y0, y1, y2, y3, y4, y5, y6, y7⟩, -⟩ := obox8 H4
 go_wp2_with fail
 refine (HG.out _).mono ?_
 rintro _ w2 ⟨rfl, hb2⟩
 have K1 := Lib.hid (heap_below H1 hb2); have K2 := Lib.hid (heap_below H2 hb2); have K3 := Lib.hid (heap_below H3 hb2); have K4 := Lib.hid (heap_below H4 hb2)
 have HB2 := Lib.hid (below_then hb2 HB.out HB.out.size)
 clear p0 p1 p2 p3 p4 p5 p6 q0 q1 q2 q3 q4 q5 q6 x0 x1 x2 x3 x4 x5 x6 x7 y0 y1 y2 y3 y4 y5 y6 y7 H1 H2 H3 H4 HB hb2
 obtain ⟨⟨p0, p1, p2, p3, p4, p5, p6⟩, -⟩ := obox7 K1.out; obtain ⟨⟨x0, x1, x2, x3, x4, x5, x6, x7⟩, -⟩ := obox8 K3.out; obtain ⟨⟨y0, y1, y2, y3, y4, y5, y6, y7⟩, -⟩ := obox8 K4.out
 by_cases h1 : ow < cw
 ·have HE := Lib.hid (show R = true by rw [<- HR.out, decide_eq_true h1]; rfl)
  have d1 : decide (ow < cw) = true := decide_eq_true h1
  clear h1
  go_wp2
  go_ret
  exact ⟨by rw [HE.out]; rfl, HB2.out⟩
 have d1 : decide (ow < cw) = false := decide_eq_false h1
 by_cases h2 : bg = 0
 ·subst h2
  have HE := Lib.hid (show R = false by rw [<- HR.out, d1]; rfl)
  go_wp2
  go_ret
  exact ⟨by rw [HE.out]; rfl, HB2.out⟩
 have d2 : (bg != 0) = true := by simpa using h2
 by_cases h3 : bg = bf
 ·have HE := Lib.hid (show R = false by rw [<- HR.out, d1, show decide (bg ≠ bf) = false from decide_eq_false (fun h => h h3), Bool.and_false]; rfl)
  have d3 : (bg != bf) = false := by simpa using h3
  clear h1 h2 h3
  go_wp2_with fail
  refine (HF.out _).mono ?_
  rintro _ w3 ⟨rfl, hb3⟩
  have hB3 := below_then hb3 HB2.out HB2.out.size
  go_wp2
  go_ret
  exact ⟨by rw [HE.out]; rfl, hB3⟩
 have d3 : (bg != bf) = true := by simpa using h3
 by_cases h4 : bg = 32
 ·have HE := Lib.hid (show R = decide (2 < cw) by rw [<- HR.out, d1, decide_eq_true h2, decide_eq_true h3, decide_eq_false (fun h => h h4)]; rfl)
  have d4 : (bg != 32) = false := by simpa using h4
  have K3' := K3
  clear h1 h2 h3 h4
  go_wp2_with fail
  refine (HF.out _).mono ?_
  rintro _ w3 ⟨rfl, hb3⟩
  have hB3 := below_then hb3 HB2.out HB2.out.size
  clear p0 p1 p2 p3 p4 p5 p6 x0 x1 x2 x3 x4 x5 x6 x7 y0 y1 y2 y3 y4 y5 y6 y7
  obtain ⟨⟨x0, x1, x2, x3, x4, x5, x6, x7⟩, -⟩ := obox8 (heap_below K3.out hb3)
  go_wp2
  go_ret
  exact ⟨by rw [HE.out]; rfl, hB3⟩
 have HE := Lib.hid (show R = true by rw [<- HR.out, d1, decide_eq_true h2, decide_eq_true h3, decide_eq_true h4]; rfl)
 have d4 : (bg != 32) = true := by simpa using h4
 clear h1 h2 h3 h4
 go_wp2_with fail
 refine (HF.out _).mono ?_
 rintro _ w3 ⟨rfl, hb3⟩
 have hB3 := below_then hb3 HB2.out HB2.out.size
 go_wp2
 go_ret
 exact ⟨by rw [HE.out]; rfl, hB3⟩
set_option maxHeartbeats 2000000 in
set_option maxRecDepth 100000 in
theorem loseday_c (c o : Col) (w : World) :
  Calls Tryz.prog 102 #[colG c, colG o] w (RetB (dayLoss c o) w) := by
 have HFO := Lib.hid (fun n w => formw_c n w)
 obtain ⟨R, hR⟩ : ∃ x, dayLoss c o = x := ⟨_, rfl⟩
 have HR := Lib.hid hR
 rw [hR]
 clear hR
 unfold RetB colG
 obtain ⟨cn, ck, cw, cpl, cm, cr, cl, ce⟩ := c
 obtain ⟨on, ok, ow, op, om, or, ol, oe⟩ := o
 unfold dayLoss at HR
 simp only at HR ⊢
 have H1 := heap_old (heap_new w (.cells #[.string cn, .int .i64 ck, .int .i64 cw, .int .i64 cpl, .int .i64 cm, .bool cr, .int .u8 cl, .bool ce] 60) rfl) (.cells #[.string on, .int .i64 ok, .int .i64 ow, .int .i64 op, .int .i64 om, .bool or, .int .u8 ol, .bool oe] 60)
 have H2 := heap_new (w.alloc (.cells #[.string cn, .int .i64 ck, .int .i64 cw, .int .i64 cpl, .int .i64 cm, .bool cr, .int .u8 cl, .bool ce] 60)) (.cells #[.string on, .int .i64 ok, .int .i64 ow, .int .i64 op, .int .i64 om, .bool or, .int .u8 ol, .bool oe] 60) (g := w.heap.size + 1) (by simp)
 have HB : Hid (Below w.heap.size w ((w.alloc (.cells #[.string cn, .int .i64 ck, .int .i64 cw, .int .i64 cpl, .int .i64 cm, .bool cr, .int .u8 cl, .bool ce] 60)).alloc (.cells #[.string on, .int .i64 ok, .int .i64 ow, .int .i64 op, .int .i64 om, .bool or, .int .u8 ol, .bool oe] 60))) := Lib.hid (by go_grown)
 have HF1 := Lib.hid (fun w => formw_c cm w); have HF2 := Lib.hid (fun w => formw_c om w)
 generalize formW cm = U at HF1 HR
 generalize formW om = V at HF2 HR
 go_enter Tryz.func102, Tryz.ntmps102
 go_upto_region 1 with fail
 generalize (w.alloc (.cells #[.string cn, .int .i64 ck, .int .i64 cw, .int .i64 cpl, .int .i64 cm, .bool cr, .int .u8 cl, .bool ce] 60)).alloc (.cells #[.string on, .int .i64 ok, .int .i64 ow, .int .i64 op, .int .i64 om, .bool or, .int .u8 ol, .bool oe] 60) = w1 at H1 H2 HB ⊢
 obtain ⟨⟨x0, x1, x2, x3, x4, x5, x6, x7⟩, -⟩ := obox8 H1; obtain ⟨⟨y0, y1, y2, y3, y4, y5, y6, y7⟩, -⟩ := obox8 H2
 by_cases h1 : U <= cw
 ·have d1 : decide (U <= cw) = true := decide_eq_true h1
  have HE := Lib.hid (show R = decide (ow < V) by rw [<- HR.out, d1]; rfl)
  clear h1
  go_quiet (first | (go_at_call_of 161 (Value.int .i64 cm); exact Calls.quiet_of_same (fflip (HF1.out _))) | (go_at_call_of 161 (Value.int .i64 om); exact Calls.quiet_of_same (fflip (HF2.out _))))
  go_wp2
  go_ret
  exact ⟨by rw [HE.out]; rfl, below_drewN HB.out _⟩
 ·have d1 : decide (U <= cw) = false := decide_eq_false h1
  have HE := Lib.hid (show R = false by rw [<- HR.out, d1]; rfl)
  clear h1
  go_quiet (first | (go_at_call_of 161 (Value.int .i64 cm); exact Calls.quiet_of_same (fflip (HF1.out _))) | (go_at_call_of 161 (Value.int .i64 om); exact Calls.quiet_of_same (fflip (HF2.out _))))
  go_wp2
  go_ret
  exact ⟨by rw [HE.out]; rfl, below_drewN HB.out _⟩
set_option maxHeartbeats 2000000 in
set_option maxRecDepth 100000 in
theorem loses_c (f g : Fmt) (A B : Option Addr) (n k cp cq : Nat) (c o : Col) (w : World) (hc : c.kind = 2 -> 0 <= c.places /\ c.places <= 9) (ho : c.kind = 2 -> 0 <= o.places /\ o.places <= 9) :
  Calls Tryz.prog 60 #[.agg #[.int .u8 f.mark, .int .u8 f.quote, .slice A n cp, .string f.head, .string f.tail, .string f.count, .string f.sum], .agg #[.int .u8 g.mark, .int .u8 g.quote, .slice B k cq, .string g.head, .string g.tail, .string g.count, .string g.sum], colG c, colG o] w (RetB (lossB f g c o) w) := by
 have HN := Lib.hid (fun w h => losenum_c f g A B n k cp cq c o w (hc h) (ho h))
 have HT := Lib.hid (fun w => losetext_c f g A B n k cp cq c o w)
 have HD := Lib.hid (fun w => loseday_c c o w)
 obtain ⟨R, hR⟩ : ∃ x, lossB f g c o = x := ⟨_, rfl⟩
 have HR := Lib.hid (show (if c.kind = 2 then numLoss f g c o else if c.kind = 3 then dayLoss c o else txtLoss f g c o) = R from hR)
 rw [hR]
 generalize numLoss f g c o = X at HN HR
 generalize txtLoss f g c o = Y at HT HR
 generalize dayLoss c o = Z at HD HR
 clear hR hc ho
 unfold RetB colG at HN HT HD
 unfold RetB colG
 obtain ⟨fm, fq, fks, fd, ft, fc, fs0⟩ := f
 obtain ⟨gm, gq, gks, gd, gt, gc, gs⟩ := g
 obtain ⟨cn, ck, cw, cpl, cm, cr, cl, ce⟩ := c
 obtain ⟨on, ok, ow, op, om, or, ol, oe⟩ := o
 simp only at HN HT HD HR ⊢
 have H1 := heap_old (heap_old (heap_old (heap_new w (.cells #[.int .u8 fm, .int .u8 fq, .slice A n cp, .string fd, .string ft, .string fc, .string fs0] 24) rfl) (.cells #[.int .u8 gm, .int .u8 gq, .slice B k cq, .string gd, .string gt, .string gc, .string gs] 24)) (.cells #[.string cn, .int .i64 ck, .int .i64 cw, .int .i64 cpl, .int .i64 cm, .bool cr, .int .u8 cl, .bool ce] 60)) (.cells #[.string on, .int .i64 ok, .int .i64 ow, .int .i64 op, .int .i64 om, .bool or, .int .u8 ol, .bool oe] 60)
 have H2 := heap_old (heap_old (heap_new (w.alloc (.cells #[.int .u8 fm, .int .u8 fq, .slice A n cp, .string fd, .string ft, .string fc, .string fs0] 24)) (.cells #[.int .u8 gm, .int .u8 gq, .slice B k cq, .string gd, .string gt, .string gc, .string gs] 24) (g := w.heap.size + 1) (by simp)) (.cells #[.string cn, .int .i64 ck, .int .i64 cw, .int .i64 cpl, .int .i64 cm, .bool cr, .int .u8 cl, .bool ce] 60)) (.cells #[.string on, .int .i64 ok, .int .i64 ow, .int .i64 op, .int .i64 om, .bool or, .int .u8 ol, .bool oe] 60)
 have H3 := heap_old (heap_new ((w.alloc (.cells #[.int .u8 fm, .int .u8 fq, .slice A n cp, .string fd, .string ft, .string fc, .string fs0] 24)).alloc (.cells #[.int .u8 gm, .int .u8 gq, .slice B k cq, .string gd, .string gt, .string gc, .string gs] 24)) (.cells #[.string cn, .int .i64 ck, .int .i64 cw, .int .i64 cpl, .int .i64 cm, .bool cr, .int .u8 cl, .bool ce] 60) (g := w.heap.size + 1 + 1) (by simp)) (.cells #[.string on, .int .i64 ok, .int .i64 ow, .int .i64 op, .int .i64 om, .bool or, .int .u8 ol, .bool oe] 60)
 have H4 := heap_new (((w.alloc (.cells #[.int .u8 fm, .int .u8 fq, .slice A n cp, .string fd, .string ft, .string fc, .string fs0] 24)).alloc (.cells #[.int .u8 gm, .int .u8 gq, .slice B k cq, .string gd, .string gt, .string gc, .string gs] 24)).alloc (.cells #[.string cn, .int .i64 ck, .int .i64 cw, .int .i64 cpl, .int .i64 cm, .bool cr, .int .u8 cl, .bool ce] 60)) (.cells #[.string on, .int .i64 ok, .int .i64 ow, .int .i64 op, .int .i64 om, .bool or, .int .u8 ol, .bool oe] 60) (g := w.heap.size + 1 + 1 + 1) (by simp)
 have HB : Hid (Below w.heap.size w ((((w.alloc (.cells #[.int .u8 fm, .int .u8 fq, .slice A n cp, .string fd, .string ft, .string fc, .string fs0] 24)).alloc (.cells #[.int .u8 gm, .int .u8 gq, .slice B k cq, .string gd, .string gt, .string gc, .string gs] 24)).alloc (.cells #[.string cn, .int .i64 ck, .int .i64 cw, .int .i64 cpl, .int .i64 cm, .bool cr, .int .u8 cl, .bool ce] 60)).alloc (.cells #[.string on, .int .i64 ok, .int .i64 ow, .int .i64 op, .int .i64 om, .bool or, .int .u8 ol, .bool oe] 60))) := Lib.hid (by go_grown)
 go_enter Tryz.func60, Tryz.ntmps60
 go_upto_region 1 with fail
 generalize (((w.alloc (.cells #[.int .u8 fm, .int .u8 fq, .slice A n cp, .string fd, .string ft, .string fc, .string fs0] 24)).alloc (.cells #[.int .u8 gm, .int .u8 gq, .slice B k cq, .string gd, .string gt, .string gc, .string gs] 24)).alloc (.cells #[.string cn, .int .i64 ck, .int .i64 cw, .int .i64 cpl, .int .i64 cm, .bool cr, .int .u8 cl, .bool ce] 60)).alloc (.cells #[.string on, .int .i64 ok, .int .i64 ow, .int .i64 op, .int .i64 om, .bool or, .int .u8 ol, .bool oe] 60) = w1 at H1 H2 H3 H4 HB ⊢
 obtain ⟨⟨p0, p1, p2, p3, p4, p5, p6⟩, -⟩ := obox7 H1; obtain ⟨⟨q0, q1, q2, q3, q4, q5, q6⟩, -⟩ := obox7 H2; obtain ⟨⟨x0, x1, x2, x3, x4, x5, x6, x7⟩, -⟩ := obox8 H3; obtain ⟨⟨y0, y1, y2, y3, y4, y5, y6, y7⟩, -⟩ := obox8 H4
 clear H1 H2 H3 H4
 by_cases h2 : ck = 2
 ·subst h2
  have HE := Lib.hid (show R = X by rw [<- HR.out]; exact if_pos rfl)
  go_wp2_with fail
  refine (HN.out _ trivial).mono ?_
  rintro _ w3 ⟨rfl, hb3⟩
  have hB3 := below_then hb3 HB.out HB.out.size
  go_wp2
  go_ret
  exact ⟨by rw [HE.out]; rfl, hB3⟩
 have k2 : (ck == 2) = false := beq_eq_false_iff_ne.2 h2
 by_cases h3 : ck = 3
 ·subst h3
  have HE := Lib.hid (show R = Z by rw [<- HR.out, if_neg h2]; exact if_pos rfl)
  clear h2
  go_wp2_with fail
  refine (HD.out _).mono ?_
  rintro _ w3 ⟨rfl, hb3⟩
  have hB3 := below_then hb3 HB.out HB.out.size
  go_wp2
  go_ret
  exact ⟨by rw [HE.out]; rfl, hB3⟩
 have k3 : (ck == 3) = false := beq_eq_false_iff_ne.2 h3
 have HE := Lib.hid (show R = Y by rw [<- HR.out, if_neg h2, if_neg h3])
 clear h2 h3 HN
 go_wp2_with fail
 refine (HT.out _).mono ?_
 rintro _ w3 ⟨rfl, hb3⟩
 have hB3 := below_then hb3 HB.out HB.out.size
 go_wp2
 go_ret
 exact ⟨by rw [HE.out]; rfl, hB3⟩
end Go.Proofs.YtaiabjiehpcaoaaGreatDoor
