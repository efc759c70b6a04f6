/- The walk of cloneRows. The walks of inner and sumFault. (Printed by genC2.py.) The walk of slices.Delete at rows: one row is taken out. -/
import Derived.Test.YtbnjejenejoibaaGreatDoorSQ2
import Derived.Test.YtbnjejenejoibaaGreatDoorZ1
-- merged: C5 C2 SQW
namespace Go.Proofs.YtbnjejenejoibaaGreatDoor
open Go.RowKit Limb Nmb Work
set_option linter.unusedVariables false
set_option linter.unusedSimpArgs false
theorem own_obj {w : World} {base : Nat} {e : TypeId} {size n cap g : Nat} {xs : List Value} (h : w.ownsRow base e size (.slice (some ⟨g, 0, none⟩) n cap) n xs) : ∃ cur, w.heap[g]? = some (.cells cur e (0, 0)) /\ base <= g := by
 rcases h.2 with ⟨hv, h0⟩ | ⟨g', cap', cur, hv, hb, hg, -⟩
 ·cases hv
 ·cases hv
  exact ⟨cur, hg, hb⟩
theorem rowV_up {n j : Nat} (hj : j < n) (l : List RowP) (RA : Nat -> Option Addr) (RC : Nat -> Nat) (X : Option Addr) (d : Nat) : (rowsC 2 n (rowV l RA RC)).set (j * 2 + 1) (.slice X (rA l j).vals.length d) = rowsC 2 n (rowV l (kndA RA j X) (kndN RC j d)) := by
 rw [rowsC_set _ hj (by decide)]
 refine rowsC_congr fun a ha i hi => ?_
 unfold rowV kndA kndN
 by_cases h : a = j
 ·subst h
  rcases (show i = 0 ∨ i = 1 by omega) with rfl | rfl
  ·rw [if_neg (by rintro ⟨-, h⟩; cases h)]
   rfl
  ·rw [if_pos ⟨rfl, rfl⟩, if_pos rfl, if_pos rfl]
   rfl
 ·rw [if_neg (fun k => h k.1), if_neg h, if_neg h]
def RetCl (l : List RowP) (w : World) (e : Ending) (w' : World) : Prop := ∃ X c, e = .returned (.slice X l.length c) /\ RwsO w w' X l.length c l
set_option maxHeartbeats 4000000 in
set_option maxRecDepth 100000 in
theorem clonerows_c (L : Option Addr) (LC : Nat) (l : List RowP) (RA : Nat -> Option Addr) (RC : Nat -> Nat) (w : World) (hl : RowsM w L l RA RC) (h2000 : l.length * 40 <= 140737488355328) (hv50 : ∀ j, j < l.length -> (rA l j).vals.length <= 1000000) :
  Calls Tryz.prog 15 #[.slice L l.length LC] w (RetCl l w) := by
 have HLM := Lib.hid hl
 have HCR := Lib.hid (cloneR_c l RA RC L LC w hl.rows (by omega))
 have HCS := Lib.hid (fun j (hj : j < l.length) A c w h => cloneS_c (rA l j).vals A c w h (hv50 j hj))
 unfold RetCR at HCR
 unfold RetCS at HCS
 unfold RetCl
 obtain ⟨n, hn⟩ : ∃ x, l.length = x := ⟨_, rfl⟩
 have HN := Lib.hid hn
 rw [hn] at HCR HCS h2000 ⊢
 clear hn hl hv50
 go_enter Tryz.func15, Tryz.ntmps15
 go_wp2_with fail
 refine HCR.out.mono ?_
 rintro _ w1 ⟨X, d, rfl, hown, hb1⟩
 have HOW := Lib.hid hown; have HB1 := Lib.hid hb1
 have hcap := own_cap hown
 clear hown hb1 HCR
 go_wp2_with fail
 go_loopw [9] (fun i wr => ∃ (j : Nat) (RA' : Nat -> Option Addr) (RC' : Nat -> Nat), j <= n /\ i = .int .i64 j /\ Hid (wr.ownsRow w.heap.size 51 2 (.slice X n d) n (rowsC 2 n (rowV l RA' RC'))) /\ Hid (∀ k, k < j -> RowS wr (rA l k) (RA' k) (RC' k)) /\ Hid (∀ k, j <= k -> RA' k = RA k /\ RC' k = RC k) /\ Hid (Below w.heap.size w wr)) (fun i _ => n - (intOf i).toNat)
 case atStart => exact ⟨0, RA, RC, by omega, rfl, HOW, Lib.hid (fun k hk => absurd hk (Nat.not_lt_zero _)), Lib.hid (fun k _ => ⟨rfl, rfl⟩), HB1⟩
 case round =>
  clear HOW HB1
  obtain ⟨j, RA', RC', hj, rfl, HO, HS, HE, HB⟩ := hrel
  rcases Nat.lt_or_ge j n with hlt | hge
  ·obtain ⟨g, hX, hbg, hgs, hcells⟩ := own_rowF HO.out (by omega)
   subst hX
   have c0 := (hcells (j * 2) (by omega)).trans (rowsC_at (k := 2) (f := rowV l RA' RC') (i := 0) hlt (by decide))
   have c1 := (hcells (j * 2 + 1) (by omega)).trans (rowsC_at (k := 2) (f := rowV l RA' RC') (i := 1) hlt (by decide))
   have fz := (HO.out).frozenAt (j * 2 + 1)
   have hRM := (HLM.out.below HB.out).each j (by rw [HN.out]; exact hlt)
   have HCJ := Lib.hid (fun A c w h => HCS.out j hlt A c w h)
   have he := HE.out j (Nat.le_refl _)
   have HUP := Lib.hid (fun Y e => rowV_up hlt l RA' RC' Y e)
   unfold rowV at c0 c1
   rw [he.1, he.2] at c1
   obtain ⟨r, hr⟩ : ∃ x, rA l j = x := ⟨_, rfl⟩
   have HRR := Lib.hid hr
   rw [hr] at c0 c1 hRM HCJ HUP
   generalize RA j = RJ at c1 hRM
   generalize RC j = CJ at c1 hRM
   obtain ⟨rt, vs⟩ := r
   simp only at c0 c1 HCJ HUP
   have HRM := Lib.hid hRM
   obtain ⟨nv, hnv⟩ : ∃ x, vs.length = x := ⟨_, rfl⟩
   have HNV := Lib.hid hnv
   rw [hnv] at c1 HCJ HUP
   have HRD := Lib.hid (heap_new wr (.cells #[.string rt, .slice RJ nv CJ] 51) rfl)
   have hbd : Below wr.heap.size wr (wr.alloc (.cells #[.string rt, .slice RJ nv CJ] 51)) := by go_grown
   have hzr := HB.out.size
   have HB2 := Lib.hid (below_then hbd HB.out hzr)
   have HO2 := Lib.hid (HO.out.alloc (.cells #[.string rt, .slice RJ nv CJ] 51))
   have HS2 := Lib.hid (show ∀ k, k < j -> RowS (wr.alloc (.cells #[.string rt, .slice RJ nv CJ] 51)) (rA l k) (RA' k) (RC' k) from fun k hk => ⟨(HS.out k hk).vals.below hbd, (HS.out k hk).len, (HS.out k hk).size, (HS.out k hk).tag⟩)
   have hSV := HRM.out.vals.below hbd
   clear hr hnv he hRM hcells fz
   go_upto_region 5 with fail
   obtain ⟨rb, hrb⟩ : ∃ x, wr.heap.size = x := ⟨_, rfl⟩
   rw [hrb] at HRD
   try rw [hrb]
   generalize wr.alloc (.cells #[.string rt, .slice RJ nv CJ] 51) = w2 at HRD HB2 HO2 HS2 hSV ⊢
   have HSV := Lib.hid hSV
   clear hrb c0 c1 hbd HB HO HS hSV
   obtain ⟨r0, r1, -, -, -⟩ := box2 HRD.out
   go_wp2_with fail
   refine (HCJ.out RJ CJ _ HSV.out).mono ?_
   rintro _ w3 ⟨Y, e, rfl, hown3, hb3⟩
   have HO3 := Lib.hid (own_below HO2.out hb3)
   have hz2 := HB2.out.size
   have HB3 := Lib.hid (below_then hb3 HB2.out hz2)
   have HS3 := Lib.hid (show ∀ k, k < j -> RowS w3 (rA l k) (RA' k) (RC' k) from fun k hk => ⟨(HS2.out k hk).vals.below hb3, (HS2.out k hk).len, (HS2.out k hk).size, (HS2.out k hk).tag⟩)
   have HY := Lib.hid (own_rowS (r := ⟨rt, vs⟩) (w := w3) (A := Y) (c := e) (by rw [show (⟨rt, vs⟩ : RowP).vals.length = nv from HNV.out]; exact hown3) HRM.out.size HRM.out.tag)
   have fz := HO3.out.frozenAt (j * 2 + 1)
   clear hown3 hb3 r0 r1 HO2 HB2 HS2 HSV HCJ
   obtain ⟨cur, hcur, -⟩ := own_obj HO3.out
   have HCUR := Lib.hid hcur
   clear hcur
   have hk9 : ∀ {r : RowP} {A : Option Addr} {c : Nat}, RowS w3 r A c -> RowS (w3.setCell ⟨g, j * 2 + 1, none⟩ (.slice Y nv e)) r A c := fun h => ⟨h.vals.keep fun g' cs f hh => heap_far hh (heap_ne hh HCUR.out (by decide)) _, h.len, h.size, h.tag⟩
   have HO4 := Lib.hid (show (w3.setCell ⟨g, j * 2 + 1, none⟩ (.slice Y nv e)).ownsRow w.heap.size 51 2 (.slice (some ⟨g, 0, none⟩) n d) n (rowsC 2 n (rowV l (kndA RA' j Y) (kndN RC' j e))) by rw [<- HUP.out Y e]; exact own_setAt HO3.out (by omega) _)
   have HS4 := Lib.hid (show ∀ k, k < j + 1 -> RowS (w3.setCell ⟨g, j * 2 + 1, none⟩ (.slice Y nv e)) (rA l k) (kndA RA' j Y k) (kndN RC' j e k) from fun k hk => by
    unfold kndA kndN
    by_cases h : k = j
    ·subst h
     rw [if_pos rfl, if_pos rfl, HRR.out]
     exact hk9 HY.out
    ·rw [if_neg h, if_neg h]
     exact hk9 (HS3.out k (by omega)))
   have HE4 := Lib.hid (show ∀ k, j + 1 <= k -> kndA RA' j Y k = RA k /\ kndN RC' j e k = RC k from fun k hk => by
    unfold kndA kndN
    rw [if_neg (by omega), if_neg (by omega)]
    exact HE.out k (by omega))
   have HB4 := Lib.hid (show Below w.heap.size w (w3.setCell ⟨g, j * 2 + 1, none⟩ (.slice Y nv e)) from HB3.out.setCell (p := ⟨g, j * 2 + 1, none⟩) hbg _)
   clear hk9 HS3 HY HE HB3 HCUR
   have c9 := (HO3.out.cellAt (j * 2 + 1) (by omega)).trans (rowsC_at (k := 2) (f := rowV l RA' RC') (i := 1) hlt (by decide))
   unfold rowV at c9
   simp only at c9
   go_wp2
   go_roundw
   case rel => first | exact ⟨j + 1, _, _, by omega, by go_num, HO4, HS4, HE4, HB4⟩ | ((repeat apply Exists.intro); exact ⟨⟨j + 1, _, _, by omega, by go_num, HO4, HS4, HE4, HB4⟩, rfl⟩)
   case measure => simp [intOf]; omega
  ·obtain rfl : j = n := by omega
   have HR := Lib.hid (show RwsO w wr X j d l from ⟨RA', RC', HN.out, HO.out, fun k hk => HS.out k (by rw [<- HN.out]; exact hk), HB.out⟩)
   go_wp2
   go_ret
   exact ⟨X, d, rfl, HR.out⟩
def RwsI (w1 wr : World) (X : Option Addr) (n c : Nat) (l : List RowP) : Prop :=
 ∃ (RA : Nat -> Option Addr) (RC : Nat -> Nat), l.length = n /\ wr.ownsRow w1.heap.size 51 2 (.slice X n c) n (rowsC 2 n (rowV l RA RC)) /\ (∀ j, j < l.length -> ∀ wx, Below w1.heap.size w1 wx -> RowM wx (rA l j) (RA j) (RC j)) /\ Below w1.heap.size w1 wr
theorem RwsI.nil (w1 : World) {wr : World} (hb : Below w1.heap.size w1 wr) : RwsI w1 wr none 0 0 [] := ⟨fun _ => none, fun _ => 0, rfl, World.ownsRow_nil _ _ _ _, fun j hj => absurd hj (Nat.not_lt_zero _), hb⟩
theorem RwsI.bel {w1 wr : World} {X : Option Addr} {n c : Nat} {l : List RowP} (h : RwsI w1 wr X n c l) : Below w1.heap.size w1 wr := by obtain ⟨_, _, _, _, _, hb⟩ := h; exact hb
theorem RwsI.len {w1 wr : World} {X : Option Addr} {n c : Nat} {l : List RowP} (h : RwsI w1 wr X n c l) : l.length = n := by obtain ⟨_, _, h, _⟩ := h; exact h
theorem RwsI.below {w1 wr w' : World} {X : Option Addr} {n c : Nat} {l : List RowP} (h : RwsI w1 wr X n c l) (hb : Below wr.heap.size wr w') : RwsI w1 w' X n c l := by
 obtain ⟨RA, RC, h1, h2, h3, h4⟩ := h
 exact ⟨RA, RC, h1, own_below h2 hb, h3, below_then hb h4 h4.size⟩
theorem RwsI.rowsM {w1 wr : World} {X : Option Addr} {n c : Nat} {l : List RowP} (h : RwsI w1 wr X n c l) : ∃ RA RC, RowsM wr X l RA RC := by
 obtain ⟨RA, RC, h1, h2, h3, h4⟩ := h
 have hc := own_cap h2
 subst h1
 exact ⟨RA, RC, own_rwsK h2, fun j hj => h3 j hj _ h4, by have := hc.1; have := hc.2; unfold maxLen at *; omega⟩
theorem RwsI.push {w1 wr w' : World} {X X' A : Option Addr} {n c c' d : Nat} {l : List RowP} {r : RowP} {RA : Nat -> Option Addr} {RC : Nat -> Nat} (h1 : l.length = n) (h2 : wr.ownsRow w1.heap.size 51 2 (.slice X n c) n (rowsC 2 n (rowV l RA RC))) (h3 : ∀ j, j < l.length -> ∀ wx, Below w1.heap.size w1 wx -> RowM wx (rA l j) (RA j) (RC j)) (h4 : Below w1.heap.size w1 wr) (hr : ∀ wx, Below w1.heap.size w1 wx -> RowM wx r A d)
  (ho : w'.ownsRow w1.heap.size 51 2 (.slice X' (n + 1) c') (n + 1) (rowsC 2 n (rowV l RA RC) ++ rwL r A d)) (hg : wr.grownBy w' (Value.slice X n c).ownBlock) : RwsI w1 w' X' (n + 1) c' (l ++ [r]) := by
 subst h1
 refine ⟨kndA RA l.length A, kndN RC l.length d, by simp, by rw [<- rwL_rows]; exact ho, fun j hj wx hx => ?_, h4.grown hg h4.size (fun j hj => (h2.lt j hj).1)⟩
 rw [rA_snoc]
 unfold kndA kndN
 by_cases hj2 : j = l.length
 ·rw [if_pos hj2, if_pos hj2, if_pos hj2]
  exact hr wx hx
 ·rw [if_neg hj2, if_neg hj2, if_neg hj2]
  have hjl : j < l.length := by simp at hj; omega
  exact h3 j hjl wx hx
theorem zeroRowW (w : World) : (zeroValue 51).run Tryz.prog w = .ok (.agg #[.string ⟨#[]⟩, .slice none 0 0]) w := by kernel_rfl
set_option maxHeartbeats 2000000 in
set_option maxRecDepth 100000 in
theorem delete1_a (B g n cap i j : Nat) (xs : List Value) (w : World) (ho : w.ownsRow B 51 2 (.slice (some ⟨g, 0, none⟩) n cap) n xs) (hij : i <= j) (hlt : i < j) (hj : j <= n) (hj1 : j = i + 1) (h1 : ∀ u ∈ xs, u.oneCell' = true) :
  Calls Tryz.prog 25 #[.slice (some ⟨g, 0, none⟩) n cap, .int .i64 i, .int .i64 j] w fun e w' => e = .returned (.slice (some ⟨g, 0, none⟩) (i + (n - j)) cap) /\ w'.ownsRow B 51 2 (.slice (some ⟨g, 0, none⟩) (i + (n - j)) cap) (i + (n - j)) (xs.take (i * 2) ++ xs.drop (j * 2)) /\ ∃ q w1, w' = w1.setCells g ((i + (n - j)) * 2) [.string ⟨#[]⟩, .slice none 0 0] /\ (w.drewN q).grownBy w1 (some g) := by
 obtain ⟨i0, hi0, hz0, hz1, hz2⟩ := info_parts Tryz.infoRow
 have hnc := own_cap ho
 have hcap : n <= cap := hnc.1
 have hm : cap <= 9223372036854775807 := hnc.2
 have HO := Lib.hid ho
 have H1 := Lib.hid h1
 have HJ := Lib.hid hj1
 clear hj1
 obtain ⟨A, hA, hsrc⟩ : ∃ A : Addr, (if cap = j then some (⟨g, 0, none⟩ : Addr) else some ⟨g, j * 2, none⟩) = some A /\ Hid (∀ t u, (xs.drop (j * 2))[t]? = some u -> w.drew.cell? (A.add t) = some u) := by
  have hlen : (xs.drop (j * 2)).length = (n - j) * 2 := by rw [List.length_drop, ho.1]; omega
  by_cases h : cap = j
  ·refine ⟨⟨g, 0, none⟩, by simp [h], fun t u hu => ?_⟩
   have h0 := (List.getElem?_eq_some_iff.1 hu).1
   rw [hlen] at h0
   omega
  ·refine ⟨⟨g, j * 2, none⟩, by simp [h], fun t u hu => ?_⟩
   have ht := (List.getElem?_eq_some_iff.1 hu).1
   rw [hlen] at ht
   rw [List.getElem?_drop] at hu
   rw [Addr.add_lit]
   exact (ho.cellAt (j * 2 + t) (by omega)).trans hu
 have s1 : Hid ((xs.drop (j * 2)).length = (n - j) * 2) := Lib.hid (by rw [List.length_drop, ho.1]; omega)
 have s2 : Hid (∀ u ∈ xs.drop (j * 2), u.oneCell' = true) := Lib.hid fun u hu => h1 u (List.mem_of_mem_drop hu)
 have s3 := Lib.hid (World.ownsRow.drew (ownRow_take ho (show i <= n by omega)))
 have HQ := Lib.hid (show i + (n - j) + 1 = n by have := HJ.out; omega)
 clear ho h1 hnc
 have hic : i <= cap := by omega
 have hjc : j <= cap := by omega
 have hne : ¬ i = j := by omega
 go_enter Tryz.func25, Tryz.ntmps25
 go_wp2_with fail
 go_region_law (refine step_append_fits _ rfl (.tmp 22) (.tmp 25) 25 rfl B 51 i0 2 Tryz.underlying25 hi0 hz1 g i cap (xs.take (i * 2)) (by simp [Act.eval, Act.put]) s3.out A (n - j) (cap - j) (xs.drop (j * 2)) (by simp [Act.eval, Act.put]) s1.out hsrc.out s2.out (by omega) ?_; intro w1 hown1 hg1)
 have HO1 := Lib.hid hown1
 have HG1 := Lib.hid hg1
 have hcl : ∀ ty, (Builtin.clear_ #[25] ty #[.slice (some ⟨g, (i + (n - j)) * 2, none⟩) (n - (i + (n - j))) (cap - (i + (n - j)))]).run Tryz.prog w1 = .ok (.tuple #[]) (w1.setCells g ((i + (n - j)) * 2) [.string ⟨#[]⟩, .slice none 0 0]) := fun ty => by
  rw [show n - (i + (n - j)) = 1 by have := HQ.out; omega]
  exact run_clear_two w1 _ _ ty _ _ _ Tryz.underlying25 zeroRowW rfl rfl rfl g ((i + (n - j)) * 2) _ (fun k hk => (own_there HO1.out (by have := HQ.out; omega)).1) (fun k hk => (own_there HO1.out (by have := HQ.out; omega)).2)
 have hlc : i + (n - j) <= n := by have := HQ.out; omega
 have hnl : ¬ cap = i + (n - j) := by have := HQ.out; omega
 clear hown1 hg1
 go_wp2
 go_ret
 exact ⟨rfl, own_setsOut _ _ _ HO1.out (Nat.le_refl _), 1, w1, rfl, HG1.out⟩
theorem delete1_b (B g n cap i : Nat) (xs : List Value) (w : World) (ho : w.ownsRow B 51 2 (.slice (some ⟨g, 0, none⟩) n cap) n xs) (hi : i < n) (h1 : ∀ u ∈ xs, u.oneCell' = true) :
  Calls Tryz.prog 25 #[.slice (some ⟨g, 0, none⟩) n cap, .int .i64 i, .int .i64 ((i : Int) + 1)] w fun e w' => e = .returned (.slice (some ⟨g, 0, none⟩) (i + (n - (i + 1))) cap) /\ w'.ownsRow B 51 2 (.slice (some ⟨g, 0, none⟩) (i + (n - (i + 1))) cap) (i + (n - (i + 1))) (xs.take (i * 2) ++ xs.drop ((i + 1) * 2)) /\ ∃ q w1, w' = w1.setCells g ((i + (n - (i + 1))) * 2) [.string ⟨#[]⟩, .slice none 0 0] /\ (w.drewN q).grownBy w1 (some g) :=
 delete1_a B g n cap i (i + 1) xs w ho (by omega) (by omega) (by omega) rfl h1
end Go.Proofs.YtbnjejenejoibaaGreatDoor
