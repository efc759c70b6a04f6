/- Spans of rows: plain, and as they lie in memory. The walks of the stable sort: the test between two shares, swapRange, rotate. The walks of isUnder and overOf. -/
import Derived.Test.YtbnjejenejoibaaGreatDoorSQ2
import Derived.Test.YtbnjejenejoibaaGreatDoorSQW
import Derived.Deep.DeepCutAuto
import Derived.BigRegion
import Derived.Test.YtbnjejenejoibaaGreatDoorRH
import Derived.Deep.OwnRows
import Derived.Deep.AppendLies
-- merged: SQM SQ3 C3 C6
namespace Go.Proofs.YtbnjejenejoibaaGreatDoor
open Go.RowKit Limb Nmb Work
set_option linter.unusedVariables false
set_option linter.unusedSimpArgs false
structure SpanP where
 rows : List RowP
 val : ByteArray
def span0 : SpanP := ⟨[], ⟨#[]⟩⟩
def spA (l : List SpanP) (j : Nat) : SpanP := l.getD j span0
theorem spA_get {l : List SpanP} {j : Nat} (h : j < l.length) : l[j] = spA l j := by simp [spA, List.getD_eq_getElem?_getD, h]
theorem spA_snoc {l : List SpanP} {r : SpanP} {j : Nat} : spA (l ++ [r]) j = if j = l.length then r else spA l j := by
 unfold spA
 rw [List.getD_eq_getElem?_getD, List.getD_eq_getElem?_getD]
 rcases Nat.lt_trichotomy j l.length with h | h | h
 ·rw [List.getElem?_append_left h, if_neg (by omega)]
 ·rw [if_pos h, List.getElem?_append_right (by omega)]
  simp [h]
 ·rw [if_neg (by omega), List.getElem?_eq_none (by simp; omega), List.getElem?_eq_none (by omega)]
def undR (f : Fmt) (r : RowP) : Bool := !decide ((katK f r.tag).under = ⟨#[]⟩)
def valQ (f : Fmt) (name : ByteArray) (r : RowP) : ByteArray := if ixF (nameIs name) (katK f r.tag).fields < 0 then ⟨#[]⟩ else wd r.vals (ixF (nameIs name) (katK f r.tag).fields).toNat
def upSp (sp : List SpanP) (r : RowP) : List SpanP := sp.set (sp.length - 1) ⟨(spA sp (sp.length - 1)).rows ++ [r], (spA sp (sp.length - 1)).val⟩
def spanSt (f : Fmt) (name : ByteArray) (sp : List SpanP) (r : RowP) : List SpanP := if undR f r = true /\ 0 < sp.length then upSp sp r else sp ++ [⟨[r], valQ f name r⟩]
def spansL (f : Fmt) (name : ByteArray) (l : List RowP) : List SpanP := l.foldl (spanSt f name) []
theorem spansL_take {f : Fmt} {name : ByteArray} {l : List RowP} {j : Nat} (h : j < l.length) : spansL f name (l.take (j + 1)) = spanSt f name (spansL f name (l.take j)) (rA l j) := by
 unfold spansL
 rw [List.take_succ_eq_append_getElem h, rA_get h, List.foldl_append]
 rfl
theorem upSp_len (sp : List SpanP) (r : RowP) : (upSp sp r).length = sp.length := by simp [upSp]
theorem spanSt_len (f : Fmt) (name : ByteArray) (sp : List SpanP) (r : RowP) : (spanSt f name sp r).length <= sp.length + 1 := by
 unfold spanSt
 split
 ·rw [upSp_len]; omega
 ·simp
theorem spansL_len (f : Fmt) (name : ByteArray) (l : List RowP) : ∀ j, j <= l.length -> (spansL f name (l.take j)).length <= j
 | 0, _ => Nat.le_refl _
 | j + 1, h => by
  have h1 := spansL_len f name l j (by omega)
  rw [spansL_take (by omega)]
  have h2 := spanSt_len f name (spansL f name (l.take j)) (rA l j)
  omega
theorem upSp_spA {sp : List SpanP} {r : RowP} {j : Nat} (hj : j < sp.length) : spA (upSp sp r) j = if j = sp.length - 1 then ⟨(spA sp (sp.length - 1)).rows ++ [r], (spA sp (sp.length - 1)).val⟩ else spA sp j := by
 unfold upSp
 rw [<- spA_get (by rw [List.length_set]; exact hj), List.getElem_set]
 by_cases h : j = sp.length - 1
 ·rw [if_pos h.symm, if_pos h]
 ·rw [if_neg (fun k => h k.symm), if_neg h, spA_get hj]
def spanV (sp : List SpanP) (G GC : Nat -> Nat) (j i : Nat) : Value := match i with | 0 => .slice (some ⟨G j, 0, none⟩) (spA sp j).rows.length (GC j) | _ => .string (spA sp j).val
def SpO (w1 wr : World) (S : Option Addr) (n c : Nat) (sp : List SpanP) (G GC : Nat -> Nat) : Prop :=
 sp.length = n /\ wr.ownsRow w1.heap.size 55 2 (.slice S n c) n (rowsC 2 n (spanV sp G GC)) /\ (∀ j, j < n -> RwsI w1 wr (some ⟨G j, 0, none⟩) (spA sp j).rows.length (GC j) (spA sp j).rows) /\ (∀ i j, i < j -> j < n -> G i ≠ G j) /\ Below w1.heap.size w1 wr
theorem SpO.nil (w1 : World) (G GC : Nat -> Nat) : SpO w1 w1 none 0 0 [] G GC := ⟨rfl, World.ownsRow_nil _ _ _ _, (fun j h => absurd h (Nat.not_lt_zero _)), (fun i j _ h => absurd h (Nat.not_lt_zero _)), Below.refl _ _⟩
theorem SpO.below {w1 wr w' : World} {S : Option Addr} {n c : Nat} {sp : List SpanP} {G GC : Nat -> Nat} (h : SpO w1 wr S n c sp G GC) (hb : Below wr.heap.size wr w') : SpO w1 w' S n c sp G GC :=
 ⟨h.1, own_below h.2.1 hb, fun j hj => (h.2.2.1 j hj).below hb, h.2.2.2.1, below_then hb h.2.2.2.2 h.2.2.2.2.size⟩
theorem RwsI.lt {w1 wr : World} {n c g : Nat} {l : List RowP} (h : RwsI w1 wr (some ⟨g, 0, none⟩) n c l) : g < wr.heap.size := by
 obtain ⟨RA, RC, h1, h2, h3, h4⟩ := h
 obtain ⟨cur, hc, -⟩ := own_obj h2
 exact lt_heap hc
theorem RwsI.keepT {w1 wr w' : World} {X : Option Addr} {n c : Nat} {l : List RowP} (h : RwsI w1 wr X n c l) (hk : ∀ (g : Nat) (cs : Array Value), wr.heap[g]? = some (.cells cs 51 (0, 0)) -> w'.heap[g]? = some (.cells cs 51 (0, 0))) (hb : Below w1.heap.size w1 w') : RwsI w1 w' X n c l := by
 obtain ⟨RA, RC, h1, h2, h3, h4⟩ := h
 exact ⟨RA, RC, h1, own_keepT h2 hk, h3, hb⟩
theorem RwsI.keepG {w1 wr w' : World} {g n c : Nat} {l : List RowP} (h : RwsI w1 wr (some ⟨g, 0, none⟩) n c l) (hk : wr.heap[g]? = w'.heap[g]?) (hb : Below w1.heap.size w1 w') : RwsI w1 w' (some ⟨g, 0, none⟩) n c l := by
 obtain ⟨RA, RC, h1, h2, h3, h4⟩ := h
 refine ⟨RA, RC, h1, ⟨h2.1, ?_⟩, h3, hb⟩
 rcases h2.2 with ⟨hv, -⟩ | ⟨g', cap, cur, hv, hbs, hh, r⟩
 ·cases hv
 ·cases hv
  exact .inr ⟨g, _, cur, rfl, hbs, by rw [<- hk]; exact hh, r⟩
theorem RwsI.one {w1 w' : World} {A : Option Addr} {d gb : Nat} {r : RowP} (hrow : w'.heap[gb]? = some (.cells #[.string r.tag, .slice A r.vals.length d] 51 (0, 0))) (hgb : w1.heap.size <= gb) (hr : ∀ wx, Below w1.heap.size w1 wx -> RowM wx r A d) (hb : Below w1.heap.size w1 w') : RwsI w1 w' (some ⟨gb, 0, none⟩) 1 1 [r] := by
 refine ⟨fun _ => A, fun _ => d, rfl, ⟨rfl, .inr ⟨gb, 1, _, rfl, hgb, hrow, Nat.le_refl _, by unfold maxLen; omega, rfl, rfl⟩⟩, fun j hj wx hx => ?_, hb⟩
 have : j = 0 := by simp at hj; omega
 subst this
 exact hr wx hx
theorem SpO.new {w1 wr w' : World} {S S' A : Option Addr} {n c c' d gb : Nat} {sp : List SpanP} {G GC : Nat -> Nat} {r : RowP} {v : ByteArray} (h : SpO w1 wr S n c sp G GC)
  (ho : w'.ownsRow w1.heap.size 55 2 (.slice S' (n + 1) c') (n + 1) (rowsC 2 n (spanV sp G GC) ++ [.slice (some ⟨gb, 0, none⟩) 1 1, .string v])) (hg : wr.grownBy w' (Value.slice S n c).ownBlock)
  (hrow : wr.heap[gb]? = some (.cells #[.string r.tag, .slice A r.vals.length d] 51 (0, 0))) (hgb : w1.heap.size <= gb) (hfr : ∀ j, j < n -> G j ≠ gb) (hr : ∀ wx, Below w1.heap.size w1 wx -> RowM wx r A d) :
  SpO w1 w' S' (n + 1) c' (sp ++ [⟨[r], v⟩]) (kndN G n gb) (kndN GC n 1) := by
 obtain ⟨h1, h2, h3, h4, h5⟩ := h
 have hB : Below w1.heap.size w1 w' := h5.grown hg h5.size (fun j hj => (h2.lt j hj).1)
 refine ⟨by simp [h1], ?_, fun j hj => ?_, fun i j hij hj => ?_, hB⟩
 ·have e : rowsC 2 (n + 1) (spanV (sp ++ [⟨[r], v⟩]) (kndN G n gb) (kndN GC n 1)) = rowsC 2 n (spanV sp G GC) ++ [.slice (some ⟨gb, 0, none⟩) 1 1, .string v] := by
   rw [rowsC_succ]
   congr 1
   ·refine rowsC_congr fun j hj i hi => ?_
    unfold spanV kndN
    rw [spA_snoc, h1, if_neg (by omega), if_neg (by omega), if_neg (by omega)]
   ·show [spanV _ _ _ n 0, spanV _ _ _ n 1] = _
    unfold spanV kndN
    rw [spA_snoc, h1, if_pos rfl, if_pos rfl, if_pos rfl]
    rfl
  rw [e]
  exact ho
 ·unfold kndN
  rw [spA_snoc, h1]
  by_cases hjn : j = n
  ·rw [if_pos hjn, if_pos hjn, if_pos hjn]
   exact RwsI.one (grown_type h2 hg hrow (by decide)) hgb hr hB
  ·rw [if_neg hjn, if_neg hjn, if_neg hjn]
   exact (h3 j (by omega)).keepT (fun g cs hh => grown_type h2 hg hh (by decide)) hB
 ·unfold kndN
  by_cases hjn : j = n
  ·rw [if_pos hjn, if_neg (by omega)]
   exact hfr i (by omega)
  ·rw [if_neg hjn, if_neg (by omega)]
   exact h4 i j hij (by omega)
theorem SpO.more {w1 wr w' : World} {A : Option Addr} {n c c' d g sg H : Nat} {sp : List SpanP} {G GC : Nat -> Nat} {r : RowP} {RA : Nat -> Option Addr} {RC : Nat -> Nat} (h : SpO w1 wr (some ⟨sg, 0, none⟩) n c sp G GC) (h0 : 0 < n)
  (hl2 : wr.ownsRow w1.heap.size 51 2 (.slice (some ⟨G (n - 1), 0, none⟩) (spA sp (n - 1)).rows.length (GC (n - 1))) (spA sp (n - 1)).rows.length (rowsC 2 (spA sp (n - 1)).rows.length (rowV (spA sp (n - 1)).rows RA RC)))
  (hl3 : ∀ j, j < (spA sp (n - 1)).rows.length -> ∀ wx, Below w1.heap.size w1 wx -> RowM wx (rA (spA sp (n - 1)).rows j) (RA j) (RC j))
  (ho : w'.ownsRow w1.heap.size 51 2 (.slice (some ⟨g, 0, none⟩) ((spA sp (n - 1)).rows.length + 1) c') ((spA sp (n - 1)).rows.length + 1) (rowsC 2 (spA sp (n - 1)).rows.length (rowV (spA sp (n - 1)).rows RA RC) ++ rwL r A d))
  (hg : wr.grownBy w' (Value.slice (some ⟨G (n - 1), 0, none⟩) (spA sp (n - 1)).rows.length (GC (n - 1))).ownBlock) (hgg : g = G (n - 1) ∨ g = H) (hH : wr.heap.size <= H) (hr : ∀ wx, Below w1.heap.size w1 wx -> RowM wx r A d) :
  SpO w1 (w'.setCell ⟨sg, (n - 1) * 2, none⟩ (.slice (some ⟨g, 0, none⟩) ((spA sp (n - 1)).rows.length + 1) c')) (some ⟨sg, 0, none⟩) n c (upSp sp r) (kndN G (n - 1) g) (kndN GC (n - 1) c') := by
 obtain ⟨h1, h2, h3, h4, h5⟩ := h
 have hbl : Value.ownBlock (Value.slice (some ⟨G (n - 1), 0, none⟩) (spA sp (n - 1)).rows.length (GC (n - 1))) = some (G (n - 1)) := rfl
 have hB' : Below w1.heap.size w1 w' := h5.grown hg h5.size (fun j hj => (hl2.lt j hj).1)
 have hk' := own_keepT h2 (fun gg cs hh => grown_type hl2 hg hh (by decide))
 obtain ⟨ck, hkb, hkl⟩ := own_obj hk'
 have hB : Below w1.heap.size w1 (w'.setCell ⟨sg, (n - 1) * 2, none⟩ (.slice (some ⟨g, 0, none⟩) ((spA sp (n - 1)).rows.length + 1) c')) := hB'.setCell (p := ⟨sg, (n - 1) * 2, none⟩) hkl _
 have hset : ∀ (gg : Nat) (cs : Array Value), w'.heap[gg]? = some (.cells cs 51 (0, 0)) -> (w'.setCell ⟨sg, (n - 1) * 2, none⟩ (.slice (some ⟨g, 0, none⟩) ((spA sp (n - 1)).rows.length + 1) c')).heap[gg]? = some (.cells cs 51 (0, 0)) := fun gg cs hh => heap_far hh (heap_ne hh hkb (by decide)) _
 refine ⟨by rw [upSp_len, h1], ?_, fun j hj => ?_, fun i j hij hj => ?_, hB⟩
 ·have h6 := own_setAt hk' (i := (n - 1) * 2) (by omega) (.slice (some ⟨g, 0, none⟩) ((spA sp (n - 1)).rows.length + 1) c')
  have e0 := rowsC_set (k := 2) (n := n) (j := n - 1) (i := 0) (f := spanV sp G GC) (.slice (some ⟨g, 0, none⟩) ((spA sp (n - 1)).rows.length + 1) c') (by omega) (by decide)
  rw [Nat.add_zero] at e0
  rw [e0] at h6
  have e : rowsC 2 n (spanV (upSp sp r) (kndN G (n - 1) g) (kndN GC (n - 1) c')) = rowsC 2 n (fun a b => if a = n - 1 /\ b = 0 then .slice (some ⟨g, 0, none⟩) ((spA sp (n - 1)).rows.length + 1) c' else spanV sp G GC a b) := by
   refine rowsC_congr fun j hj i hi => ?_
   unfold spanV kndN
   rw [upSp_spA (by omega), h1]
   by_cases hjl : j = n - 1
   ·rw [if_pos hjl, if_pos hjl, if_pos hjl]
    match i, hi with
    | 0, _ => rw [if_pos ⟨hjl, rfl⟩]; simp
    | 1, _ => rw [if_neg (by omega), hjl]; rfl
   ·rw [if_neg hjl, if_neg hjl, if_neg hjl, if_neg (fun k => hjl k.1)]
  rw [e]
  exact h6
 ·unfold kndN
  rw [upSp_spA (by omega), h1]
  by_cases hjl : j = n - 1
  ·rw [if_pos hjl, if_pos hjl, if_pos hjl]
   refine ⟨kndA RA (spA sp (n - 1)).rows.length A, kndN RC (spA sp (n - 1)).rows.length d, rfl, ?_, fun k hk wx hx => ?_, hB⟩
   ·simp only [List.length_append, List.length_singleton]
    rw [<- rwL_rows]
    exact own_keepT ho hset
   ·simp only
    rw [rA_snoc]
    unfold kndA kndN
    by_cases hk2 : k = (spA sp (n - 1)).rows.length
    ·rw [if_pos hk2, if_pos hk2, if_pos hk2]
     exact hr wx hx
    ·rw [if_neg hk2, if_neg hk2, if_neg hk2]
     exact hl3 k (by simp at hk; omega) wx hx
  ·rw [if_neg hjl, if_neg hjl, if_neg hjl]
   have hlt := (h3 j hj).lt
   have hne : G j ≠ G (n - 1) := h4 j (n - 1) (by omega) (by omega)
   obtain ⟨RA', RC', k1, k2, k3, k4⟩ := h3 j hj
   obtain ⟨cur, hcur, -⟩ := own_obj k2
   have hw' : w'.heap[G j]? = some (.cells cur 51 (0, 0)) := (hg.block _ hlt (by rw [hbl]; intro e; exact hne (Option.some.inj e))).trans hcur
   refine (h3 j hj).keepG ?_ hB
   rw [hcur, hset _ _ hw']
 ·unfold kndN
  have hgj : ∀ i, i < n - 1 -> G i ≠ g := fun i hi => by
   rcases hgg with rfl | rfl
   ·exact h4 i (n - 1) hi (by omega)
   ·have := (h3 i (by omega)).lt
    omega
  by_cases hjl : j = n - 1
  ·rw [if_pos hjl, if_neg (by omega)]
   exact hgj i (by omega)
  ·rw [if_neg hjl, if_neg (by omega)]
   exact h4 i j hij hj
end Go.Proofs.YtbnjejenejoibaaGreatDoor
namespace Go.Proofs.YtbnjejenejoibaaGreatDoor
open Go.RowKit Limb Stab
set_option linter.unusedVariables false
set_option linter.unusedSimpArgs false
set_option maxHeartbeats 2000000 in
set_option maxRecDepth 100000 in
theorem swaprange_c (F : Fam) (G : F.Good) {f : Nat -> Nat} {w : World} (R : F.Row f w) (a b k cap : Nat) (fv : Value) (hab : a + k <= b) (hb : b + k <= F.n) :
  Calls Tryz.prog 186 #[.slice (some ⟨F.blk, F.off, none⟩) F.n cap, .int .i64 (a : Int), .int .i64 (b : Int), .int .i64 (k : Int), fv] w fun e w' => e = .returned (.tuple #[]) /\ F.Row (swr f a b k) w' := by
 have few := G.few
 have HR0 := Lib.hid (R.congr fun x _ => swr_zero f a b x)
 clear R
 go_enter Tryz.func186, Tryz.ntmps186
 go_wp2
 go_loopw [10] (fun v1 wr => ∃ i : Nat, i <= k /\ v1 = .int .i64 (i : Int) /\ F.Row (swr f a b i) wr) (fun v1 _ => k - (intOf v1).toNat)
 case atStart => exact ⟨0, Nat.zero_le _, rfl, HR0.out⟩
 case round =>
  obtain ⟨i, hi, rfl, R⟩ := hrel
  rcases Nat.lt_or_ge i k with hik | hik
  ·obtain ⟨a0, a1⟩ := R.two (j := a + i) (by omega)
   obtain ⟨b0, b1⟩ := R.two (j := b + i) (by omega)
   have HS := Lib.hid (R.swap (i := a + i) (j := b + i) (by omega) (by omega)).drew
   have ia0 := R.ice (F.off + (a + i) * 2); have ia1 := R.ice (F.off + (a + i) * 2 + 1)
   have ib0 := R.ice (F.off + (b + i) * 2); have ib1 := R.ice (F.off + (b + i) * 2 + 1)
   clear R
   obtain ⟨X, hX⟩ : ∃ X, swr f a b i (a + i) = X := ⟨_, rfl⟩
   obtain ⟨Y, hY⟩ : ∃ Y, swr f a b i (b + i) = Y := ⟨_, rfl⟩
   rw [hX] at a0 a1
   rw [hY] at b0 b1
   have HX := Lib.hid hX; have HY := Lib.hid hY
   clear hX hY
   obtain ⟨u, hu⟩ : ∃ u, u = a + i := ⟨_, rfl⟩
   obtain ⟨v, hv⟩ : ∃ v, v = b + i := ⟨_, rfl⟩
   have hwa : IntKind.i64.wrap ((a : Int) + (i : Int)) = ((u : Nat) : Int) := by rw [hu, IntWalk.i64_in _ (by omega)]; omega
   have hwb : IntKind.i64.wrap ((b : Int) + (i : Int)) = ((v : Nat) : Int) := by rw [hv, IntWalk.i64_in _ (by omega)]; omega
   rw [<- hu] at a0 a1 ia0 ia1 HS HX
   rw [<- hv] at b0 b1 ib0 ib1 HS HY
   have huv : u < v := by omega
   have hun : ((u : Nat) : Int) < (F.n : Int) := by omega
   have hvn : ((v : Nat) : Int) < (F.n : Int) := by omega
   have HU := Lib.hid hu; have HV := Lib.hid hv
   clear hu hv
   go_wp2_with fail
   go_region
   all_goals
    go_wp2
    go_roundw
    case rel =>
     refine ⟨i + 1, by omega, by go_num, ?_⟩
     have h9 := HS.out.congr (g := swr f a b (i + 1)) fun x _ => by rw [HU.out, HV.out]; exact (swr_succ f (by omega) x).symm
     rw [HX.out, HY.out] at h9
     exact h9
    case measure => simp [intOf]; omega
  ·obtain rfl : i = k := by omega
   go_wp2
   go_end0
   exact ⟨rfl, R⟩
set_option maxHeartbeats 2000000 in
set_option maxRecDepth 100000 in
theorem rotate_c (F : Fam) (G : F.Good) {f : Nat -> Nat} {w : World} (R : F.Row f w) (a m b cap : Nat) (fv : Value) (ham : a < m) (hmb : m < b) (hb : b <= F.n) :
  Calls Tryz.prog 128 #[.slice (some ⟨F.blk, F.off, none⟩) F.n cap, .int .i64 (a : Int), .int .i64 (m : Int), .int .i64 (b : Int), fv] w fun e w' => e = .returned (.tuple #[]) /\ F.Row (rot f a m b) w' := by
 have few := G.few
 have HR0 := Lib.hid R
 clear R
 go_enter Tryz.func128, Tryz.ntmps128
 go_wp2
 go_loopw [10, 11] (fun v1 v2 wr => ∃ (i j : Nat) (g : Nat -> Nat), 0 < i /\ 0 < j /\ a + i <= m /\ m + j <= b /\ v1 = .int .i64 (i : Int) /\ v2 = .int .i64 (j : Int) /\ F.Row g wr /\ Hid (∀ x, rot g (m - i) m (m + j) x = rot f a m b x)) (fun v1 v2 _ => (intOf v1).toNat + (intOf v2).toNat)
 case atStart => exact ⟨m - a, b - m, f, by omega, by omega, by omega, by omega, by go_num, by go_num, HR0.out, fun x => by rw [show m - (m - a) = a by omega, show m + (b - m) = b by omega]⟩
 case round =>
  obtain ⟨i, j, g, hi0, hj0, hi, hj, rfl, rfl, R, HG⟩ := hrel
  have e1 : ((m : Nat) : Int) - ((i : Nat) : Int) = ((m - i : Nat) : Int) := by omega
  rcases Nat.lt_trichotomy i j with hij | hij | hij
  ·have e2 : ((m : Nat) : Int) + ((j : Nat) : Int) - ((i : Nat) : Int) = ((m + j - i : Nat) : Int) := by omega
   have hne : ¬ (i : Int) = (j : Int) := by omega
   go_wp2_with fail
   refine (swaprange_c F G R (m - i) (m + j - i) i cap fv (by omega) (by omega)).mono ?_
   rintro e w2 ⟨rfl, R2⟩
   go_wp2
   go_roundw
   case rel => exact ⟨i, j - i, _, hi0, by omega, hi, by omega, rfl, by go_num, R2, fun x => (rot_less g _ (by omega) hij (fun _ => rfl) x).trans (HG.out x)⟩
   case measure => simp [intOf]; omega
  ·subst hij
   go_wp2_with fail
   refine (swaprange_c F G R (m - i) m i cap fv (by omega) (by omega)).mono ?_
   rintro e w2 ⟨rfl, R2⟩
   go_wp2
   go_end0
   exact ⟨rfl, R2.congr fun x _ => by rw [rot_eq g (by omega)]; exact (HG.out x).symm⟩
  ·have hne : ¬ (i : Int) = (j : Int) := by omega
   go_wp2_with fail
   refine (swaprange_c F G R (m - i) m j cap fv (by omega) (by omega)).mono ?_
   rintro e w2 ⟨rfl, R2⟩
   go_wp2
   go_roundw
   case rel => exact ⟨i - j, j, _, by omega, hj0, by omega, hj, by go_num, rfl, R2, fun x => (rot_more g _ (by omega) hij (fun _ => rfl) x).trans (HG.out x)⟩
   case measure => simp [intOf]; omega
end Go.Proofs.YtbnjejenejoibaaGreatDoor
namespace Go.Proofs.YtbnjejenejoibaaGreatDoor
open Go.RowKit Limb Nmb Work
set_option linter.unusedVariables false
set_option linter.unusedSimpArgs false
theorem checkF_kinds {f : Fmt} (h : checkF f = 0) {k : Nat} (hk : k < f.kinds.length) : kindF f.mark f.kinds k = 0 := by
 have h2 : fstF (kindF f.mark f.kinds) f.kinds.length = 0 := by
  unfold checkF at h
  split at h
  ·rename_i e; exact absurd h e
  split at h; · cases h
  split at h; · cases h
  split at h
  ·rename_i e; exact absurd h e
  ·rename_i e; exact Classical.byContradiction e
 exact fstF_zero h2 k hk
theorem kindF_under {m : Int} {ks : List RKd} {i : Nat} (h : kindF m ks i = 0) (hu : (kA ks i).under ≠ ⟨#[]⟩) : (ks.take i).any (tagIs (kA ks i).under) = true := by
 unfold kindF at h
 split at h; · cases h
 split at h; · cases h
 split at h; · cases h
 split at h; · cases h
 split at h
 ·rename_i e; exact absurd h e
 split at h; · cases h
 split at h; · cases h
 rename_i e
 cases hb : (ks.take i).any (tagIs (kA ks i).under) with
 | true => rfl
 | false => exact absurd ⟨hu, hb⟩ e
theorem und_lt {f : Fmt} (hf : checkF f = 0) {t : ByteArray} (h : 0 <= katI f t) (hu : (katK f t).under ≠ ⟨#[]⟩) : 0 <= katI f (katK f t).under /\ katI f (katK f t).under < katI f t := by
 obtain ⟨k, hk, e1, e2, e3⟩ := kat_at (show ¬ katI f t < 0 by omega)
 rw [e2] at hu ⊢
 have h1 := kindF_under (checkF_kinds hf hk) hu
 obtain ⟨x, hx, h2⟩ := List.any_eq_true.1 h1
 obtain ⟨j, hj, rfl⟩ := List.getElem_of_mem hx
 rw [List.length_take] at hj
 rw [List.getElem_take] at h2
 rw [e1]
 rcases ixF_spec (tagIs (kA f.kinds k).under) f.kinds with ⟨h3, h4⟩ | ⟨i, hi, h3, h4, h5⟩
 ·rw [h4 j (by omega)] at h2; cases h2
 ·have h6 : katI f (kA f.kinds k).under = (i : Int) := h3
  rw [h6]
  rcases Nat.lt_or_ge j i with h7 | h7
  ·rw [h5 j (by omega) h7] at h2; cases h2
  ·omega
theorem katI_lt (f : Fmt) (t : ByteArray) : katI f t < f.kinds.length := by
 rcases ixF_spec (tagIs t) f.kinds with ⟨h, -⟩ | ⟨k, hk, h, -⟩
 ·show ixF (tagIs t) f.kinds < _; omega
 ·show ixF (tagIs t) f.kinds < _; omega
set_option maxHeartbeats 4000000 in
set_option maxRecDepth 100000 in
theorem isunder_c (f : Fmt) (A : Option Addr) (cp : Nat) (FA : Nat -> Option Addr) (FC : Nat -> Nat) (t over : ByteArray) (w : World) (ho : Kinds w A f.kinds FA FC) (hf : checkF f = 0) :
  Calls Tryz.prog 147 #[fmtG f A cp, .string t, .string over] w (RetB (undB f t over) w) := by
 have HKA := Lib.hid (fun t w h => kindat_c f A cp FA FC t w h)
 have HKI := Lib.hid ho
 have HUL := Lib.hid (fun t h h2 => und_lt (t := t) hf h h2)
 have HIL := Lib.hid (fun t => katI_lt f t)
 have HU0 := Lib.hid (show ∀ t, underB f over 0 t = false from fun _ => rfl)
 have HU1 := Lib.hid (show ∀ n t, underB f over (n + 1) t = if katI f t < 0 ∨ (katK f t).under = ⟨#[]⟩ then false else if (katK f t).under = over then true else underB f over n (katK f t).under from fun _ _ => rfl)
 obtain ⟨R, hR⟩ : ∃ x, undB f t over = x := ⟨_, rfl⟩
 have HR := Lib.hid (show underB f over f.kinds.length t = R from hR)
 rw [hR]
 unfold RetB
 generalize underB f over = UB at HU0 HU1 HR
 generalize katI f = IF at HKA HUL HIL HU1
 generalize katK f = KF at HKA HUL HU1
 generalize katA f FA = AF at HKA
 generalize katC f FC = CF at HKA
 clear ho hf hR
 obtain ⟨m, q, ks, hd, tl, ct, sm⟩ := f
 unfold fmtG at HKA ⊢
 unfold kindG at HKA
 simp only at HKA HKI HIL HR ⊢
 obtain ⟨nk, hnk⟩ : ∃ x, ks.length = x := ⟨_, rfl⟩
 rw [hnk] at HKA HIL HR ⊢
 clear hnk
 have hP := heap_new w (.cells #[.int .u8 m, .int .u8 q, .slice A nk cp, .string hd, .string tl, .string ct, .string sm] 24) rfl
 have hB1 : Below w.heap.size w (w.alloc (.cells #[.int .u8 m, .int .u8 q, .slice A nk cp, .string hd, .string tl, .string ct, .string sm] 24)) := by go_grown
 go_enter Tryz.func147, Tryz.ntmps147
 go_upto_region 1 with fail
 generalize w.alloc (.cells #[.int .u8 m, .int .u8 q, .slice A nk cp, .string hd, .string tl, .string ct, .string sm] 24) = w1 at hP hB1 ⊢
 have HW := Lib.hid (show ∀ wx, Below w1.heap.size w1 wx -> wx.heap[w.heap.size]? = some (.cells #[.int .u8 m, .int .u8 q, .slice A nk cp, .string hd, .string tl, .string ct, .string sm] 24 (0, 0)) /\ Kinds wx A ks FA FC /\ Below w.heap.size w wx from fun wx h => by
  have h2 := below_then h hB1 hB1.size
  exact ⟨heap_below hP h, HKI.out.below h2, h2⟩)
 have hz1 : w.heap.size < w1.heap.size := lt_heap hP
 clear hP hB1
 obtain ⟨q1, qk, qb⟩ := HW.out _ (Below.refl _ _)
 obtain ⟨⟨p0, p1, p2, p3, p4, p5, p6⟩, -⟩ := obox7 q1
 go_wp2_with fail
 refine (HKA.out t _ qk).mono ?_
 rintro _ w2 ⟨rfl, hb2⟩
 have hB3 : Below w1.heap.size w1 (w2.alloc (.cells #[.string (KF t).tag, .slice (AF t) (KF t).fields.length (CF t), .int .i64 (KF t).most, .string (KF t).under] 46)) := hb2.alloc hb2.size _
 have hN3 := heap_new w2 (.cells #[.string (KF t).tag, .slice (AF t) (KF t).fields.length (CF t), .int .i64 (KF t).most, .string (KF t).under] 46) rfl
 have hz2 := hb2.size
 clear q1 qk qb p0 p1 p2 p3 p4 p5 p6 hb2
 go_upto_region 2 with fail
 obtain ⟨kb, hkb⟩ : ∃ x, w2.heap.size = x := ⟨_, rfl⟩
 rw [hkb] at hN3 hz2
 try rw [hkb]
 generalize w2.alloc (.cells #[.string (KF t).tag, .slice (AF t) (KF t).fields.length (CF t), .int .i64 (KF t).most, .string (KF t).under] 46) = w3 at hN3 hB3 ⊢
 have HN3 := Lib.hid hN3; have HB3 := Lib.hid hB3
 clear hkb hN3 hB3
 go_loopg [7, 8] nk (fun k p o wr => ∃ (kb : Nat) (t : ByteArray), p = .pointer (some ⟨kb, 0, none⟩) /\ o = .bool (decide (0 <= IF t)) /\ w1.heap.size <= kb /\ IF t < (k : Int) /\ Hid (UB k t = R) /\ Hid (wr.heap[kb]? = some (.cells #[.string (KF t).tag, .slice (AF t) (KF t).fields.length (CF t), .int .i64 (KF t).most, .string (KF t).under] 46 (0, 0))) /\ Hid (Below w1.heap.size w1 wr))
 case atStart => exact ⟨kb, t, rfl, rfl, hz2, HIL.out t, HR, HN3, HB3⟩
 case round =>
  clear HN3 HB3
  obtain ⟨kb, t, rfl, rfl, hkb, hlt, HU, HN, HB⟩ := hrel
  have hzr := HB.out.size
  obtain ⟨q1, qk, qb⟩ := HW.out _ HB.out
  by_cases hneg : IF t < 0
  ·have HE := Lib.hid (show R = false by
    rw [<- HU.out]
    cases gk with
    | zero => exact HU0.out t
    | succ n => rw [HU1.out n t, if_pos (.inl hneg)])
   have hd : decide (0 <= IF t) = false := decide_eq_false (by omega)
   rw [hd]
   clear hneg hd q1 qk
   go_wp2
   go_ret
   exact ⟨by rw [HE.out]; rfl, qb⟩
  have hd : decide (0 <= IF t) = true := decide_eq_true (by omega)
  rw [hd]
  obtain ⟨n, hgk⟩ : ∃ n, gk = n + 1 := ⟨gk - 1, by omega⟩
  have HU2 := Lib.hid (show (if (KF t).under = ⟨#[]⟩ then false else if (KF t).under = over then true else UB n (KF t).under) = R by
   rw [<- HU.out, hgk, HU1.out n t]
   by_cases h0 : (KF t).under = ⟨#[]⟩
   ·rw [if_pos h0, if_pos (.inr h0)]
   ·rw [if_neg h0, if_neg (c := IF t < 0 ∨ (KF t).under = ⟨#[]⟩) (fun h => h.elim hneg h0)])
  have HUT := Lib.hid (HUL.out t (by omega))
  have hlt2 : IF t <= (n : Int) := by omega
  obtain ⟨K, hK⟩ : ∃ x, KF t = x := ⟨_, rfl⟩
  rw [hK] at HN HU2 HUT
  obtain ⟨kt, fs, km, ku⟩ := K
  simp only at HN HU2 HUT
  obtain ⟨nf, hnf⟩ : ∃ x, fs.length = x := ⟨_, rfl⟩
  rw [hnf] at HN
  generalize AF t = KA at HN
  generalize CF t = KC at HN
  obtain ⟨⟨k0, k1, k2, k3⟩, -, k4⟩ := obox4 HN.out
  have e1 := emp_dec ku
  have e2 := bytes_dec ku over
  clear hnf hK hneg hd HU
  by_cases h0 : ku = ⟨#[]⟩
  ·have HE := Lib.hid (show R = false by rw [<- HU2.out, if_pos h0])
   rw [decide_eq_true h0] at e1
   clear h0 q1 qk
   go_wp2
   go_ret
   exact ⟨by rw [HE.out]; rfl, qb⟩
  rw [decide_eq_false h0] at e1
  by_cases h1 : ku = over
  ·have HE := Lib.hid (show R = true by rw [<- HU2.out, if_neg h0, if_pos h1])
   rw [decide_eq_true h1] at e2
   clear h0 h1 q1 qk
   go_wp2
   go_ret
   exact ⟨by rw [HE.out]; rfl, qb⟩
  have HU3 := Lib.hid (show UB n ku = R by rw [<- HU2.out, if_neg h0, if_neg h1])
  have HUN := Lib.hid (HUT.out h0)
  rw [decide_eq_false h1] at e2
  have hN4 := heap_new wr (.cells #[.string kt, .slice KA nf KC, .int .i64 km, .string ku] 46) rfl
  have hB4 : Below w1.heap.size w1 (wr.alloc (.cells #[.string kt, .slice KA nf KC, .int .i64 km, .string ku] 46)) := HB.out.alloc hzr _
  clear h0 h1 q1 qk qb HUT HU2
  go_upto_region 3 with fail
  obtain ⟨kc, hkc⟩ : ∃ x, wr.heap.size = x := ⟨_, rfl⟩
  rw [hkc] at hN4 hzr
  try rw [hkc]
  generalize wr.alloc (.cells #[.string kt, .slice KA nf KC, .int .i64 km, .string ku] 46) = w4 at hN4 hB4 ⊢
  have HN4 := Lib.hid hN4; have HB4 := Lib.hid hB4
  clear hkc hN4 hB4 k0 k1 k2 k3 k4 e1 e2 HN HB
  obtain ⟨q1, qk, -⟩ := HW.out _ HB4.out
  obtain ⟨⟨p0, p1, p2, p3, p4, p5, p6⟩, -⟩ := obox7 q1
  obtain ⟨⟨k0, k1, k2, k3⟩, -, k4⟩ := obox4 HN4.out
  go_wp2_with fail
  refine (HKA.out ku _ qk).mono ?_
  rintro _ w5 ⟨rfl, hb5⟩
  have hN5 := heap_below HN4.out hb5
  have HN5 := Lib.hid hN5
  have HB5 := Lib.hid (below_then hb5 HB4.out HB4.out.size)
  obtain ⟨⟨k0, k1, k2, k3⟩, ⟨z0, z1, z2, z3⟩, k4⟩ := obox4 hN5
  clear hb5 hN5 q1 qk p0 p1 p2 p3 p4 p5 p6 HN4 HB4
  have HF := Lib.hid (show ((((w5.setCell ⟨kc, 0, none⟩ (.string (KF ku).tag)).setCell ⟨kc, 1, none⟩ (.slice (AF ku) (KF ku).fields.length (CF ku))).setCell ⟨kc, 2, none⟩ (.int .i64 (KF ku).most)).setCell ⟨kc, 3, none⟩ (.string (KF ku).under)).heap[kc]? = some (.cells #[.string (KF ku).tag, .slice (AF ku) (KF ku).fields.length (CF ku), .int .i64 (KF ku).most, .string (KF ku).under] 46 (0, 0)) from heap_set (heap_set (heap_set (heap_set HN5.out 0 _) 1 _) 2 _) 3 _)
  have HBF := Lib.hid (show Below w1.heap.size w1 ((((w5.setCell ⟨kc, 0, none⟩ (.string (KF ku).tag)).setCell ⟨kc, 1, none⟩ (.slice (AF ku) (KF ku).fields.length (CF ku))).setCell ⟨kc, 2, none⟩ (.int .i64 (KF ku).most)).setCell ⟨kc, 3, none⟩ (.string (KF ku).under)) from (((HB5.out.setCell (p := ⟨kc, 0, none⟩) hzr _).setCell (p := ⟨kc, 1, none⟩) hzr _).setCell (p := ⟨kc, 2, none⟩) hzr _).setCell (p := ⟨kc, 3, none⟩) hzr _)
  go_wp2
  go_roundg n
  case rel => exact ⟨kc, ku, rfl, rfl, hzr, by have := HUN.out; omega, HU3, HF, HBF⟩
  case measure => omega
section
variable {P : Program} {ops : Array Oper} {Q : Exit -> Act -> World -> Prop} {md : Region.Mode} {k : Nat}
end
theorem RowsM.take {w : World} {L : Option Addr} {rs : List RowP} {RA : Nat -> Option Addr} {RC : Nat -> Nat} (h : RowsM w L rs RA RC) (n : Nat) : RowsM w L (rs.take n) RA RC := by
 refine ⟨fun hn => ?_, fun j hj => ?_, ?_⟩
 ·rw [List.length_take] at hn
  obtain ⟨b, off, e, hb, hc⟩ := h.rows (by omega)
  refine ⟨b, off, e, hb, fun j hj i hi => ?_⟩
  rw [List.length_take] at hj
  rw [hc j (by omega) i hi]
  unfold rowV
  rw [rA_take (by omega)]
 ·rw [List.length_take] at hj
  rw [rA_take (by omega)]
  exact h.each j (by omega)
 ·rw [List.length_take]
  have := h.len
  omega
end Go.Proofs.YtbnjejenejoibaaGreatDoor
