/- A map's keys as a set; the keys that a range over it has given. The walk of maps.Copy at rows by tag and key. -/
import Derived.Test.YtbnjejenejoibaaGreatDoorDFC
import Derived.Test.YtbnjejenejoibaaGreatDoorChecked
import Derived.WalkKit
import Derived.Deep.DeepCutAuto
import Derived.Lib.Hide
import Derived.ProofKit
import Derived.Maps.OwnSet
import Derived.Maps.RangeWalk
import Derived.Shelf.SlIter.Collect
import Derived.Shelf.SlMaps.Clone
-- merged: DFD DFE DFF DFG DFM
namespace Go.Proofs.YtbnjejenejoibaaGreatDoor
open Go.RowKit Go.Maps
set_option linter.unusedVariables false
set_option linter.unusedSimpArgs false
def SetL (D : DataW Value) (S : KeyP -> Prop) : Prop := ∀ l, has D l = true ↔ ∃ k, S k /\ KeyZ k /\ l = litK k
theorem HoldsL.set {D : DataW Value} {m : List (KeyP × Value)} (h : HoldsL D m) : SetL D (fun k => k ∈ m.map (·.1)) := fun l => by
 constructor
 ·exact h.2.1 l
 ·rintro ⟨k, hk, hz, rfl⟩
  rw [h.has hz]
  cases hm : lookV m k with
  | none => exact absurd hk (lookV_none.1 hm)
  | some v => rfl
theorem SetL.key {P : Program} {T : TypeId} (K : KeysK P T) {D : DataW Value} {S : KeyP -> Prop} (h : SetL D S) {k : KeyP} (hk : KeyZ k) : has D (litK k) = true ↔ S k := by
 rw [h]
 constructor
 ·rintro ⟨x, hx, hz, e⟩
  rw [K.inj hk hz e]
  exact hx
 ·exact fun hs => ⟨k, hs, hk, rfl⟩
theorem SetL.put {P : Program} {T : TypeId} (K : KeysK P T) {D : DataW Value} {S : KeyP -> Prop} (h : SetL D S) (hD : IsMap D) {k : KeyP} (hk : KeyZ k) (d : DataW Value) : SetL (D.put (litK k) d) (fun x => S x ∨ x = k) := fun l => by
 by_cases e : l = litK k
 ·subst e
  exact ⟨fun _ => ⟨k, .inr rfl, hk, rfl⟩, fun _ => has_put_same hD (K.lit hk) d⟩
 ·rw [has_put_other e, h]
  constructor
  ·rintro ⟨x, hx, hz, e2⟩
   exact ⟨x, .inl hx, hz, e2⟩
  ·rintro ⟨x, hx | hx, hz, e2⟩
   ·exact ⟨x, hx, hz, e2⟩
   ·subst hx
    exact absurd e2 e
theorem SetL.congr {D : DataW Value} {S S' : KeyP -> Prop} (h : SetL D S) (e : ∀ k, KeyZ k -> (S k ↔ S' k)) : SetL D S' := fun l => by
 rw [h]
 constructor
 ·rintro ⟨k, hk, hz, e2⟩
  exact ⟨k, (e k hz).1 hk, hz, e2⟩
 ·rintro ⟨k, hk, hz, e2⟩
  exact ⟨k, (e k hz).2 hk, hz, e2⟩
theorem sameKey_self {k : KeyP} : (litK k).sameKey (litK k) = true := by
 unfold litK
 simp [Lit.sameKey]
theorem sameKey_ne' {P : Program} {T : TypeId} (K : KeysK P T) {x y : KeyP} (hx : KeyZ x) (hy : KeyZ y) (h : x ≠ y) : (litK x).sameKey (litK y) = false := sameKey_ne fun e => h (K.inj hx hy e)
def CollK (D : DataW Value) (left : Lit -> Bool) (ss : List KeyP) : Prop := ss.Nodup /\ (∀ x ∈ ss, KeyZ x) /\ ∀ x, KeyZ x -> (x ∈ ss ↔ (has D (litK x) = true /\ left (litK x) = false))
theorem CollK.start (D : DataW Value) : CollK D (has D) [] := ⟨List.nodup_nil, (fun x h => by cases h), fun x hx => by cases has D (litK x) <;> simp⟩
theorem CollK.step {P : Program} {T : TypeId} (K : KeysK P T) {D : DataW Value} {left : Lit -> Bool} {ss : List KeyP} (h : CollK D left ss) {x : KeyP} (hx : KeyZ x) {y : DataW Value} (hlk : left (litK x) = true) (hat : ∀ zd, D.atKey (litK x) zd = y) :
  CollK D (fun z => left z && !z.sameKey (litK x)) (ss ++ [x]) := by
 have hhas : has D (litK x) = true := has_true_of_atKey hat
 have hnew : x ∉ ss := fun hm => by
  have := ((h.2.2 x hx).1 hm).2
  rw [hlk] at this
  cases this
 refine ⟨List.nodup_append.2 ⟨h.1, by simp, fun a ha b hb => ?_⟩, fun a ha => ?_, fun a ha => ?_⟩
 ·simp at hb
  subst hb
  exact fun e => hnew (e ▸ ha)
 ·rcases List.mem_append.1 ha with q | q
  ·exact h.2.1 a q
  ·simp at q
   subst q
   exact hx
 ·by_cases e : a = x
  ·subst e
   simp [hhas, sameKey_self]
  ·simp [h.2.2 a ha, e, sameKey_ne' K ha hx e]
theorem CollK.done {P : Program} {T : TypeId} (K : KeysK P T) {D : DataW Value} {left : Lit -> Bool} {ss : List KeyP} {S : KeyP -> Prop} (h : CollK D left ss) (hS : SetL D S) (hl : ∀ l, left l = false) : ss.Nodup /\ ∀ x, KeyZ x -> (x ∈ ss ↔ S x) :=
 ⟨h.1, fun x hx => by rw [h.2.2 x hx, hS.key K hx, hl]; simp⟩
def MapS (P : Program) (T : TypeId) (w : World) (b n : Nat) (S : KeyP -> Prop) : Prop := ∃ D, w.ownsMap P T heldE b n D /\ SetL D S
theorem MapK.mapS {P : Program} {T : TypeId} {w : World} {b n : Nat} {m : List (KeyP × Value)} (h : MapK P T w b n m) : MapS P T w b n (fun k => k ∈ m.map (·.1)) := by
 obtain ⟨D, h1, h2⟩ := h
 exact ⟨D, h1, h2.set⟩
theorem MapS.kept {P : Program} {T : TypeId} {w w' : World} {b n : Nat} {S : KeyP -> Prop} {row : Option Nat} (h : MapS P T w b n S) (hg : w.grownBy w' row) (hne : some b ≠ row) : MapS P T w' b n S := by
 obtain ⟨D, h1, h2⟩ := h
 exact ⟨D, h1.kept hg hne, h2⟩
theorem laidOutK : laidOutB Tryz.prog = true := by kernel_rfl
theorem keysK : KeysK Tryz.prog 73 :=
 ⟨Keyed.of_law (deep_law_gate laidOutK (of_decide_eq_true (by kernel_rfl)) (of_decide_eq_true (by kernel_rfl)) (by kernel_rfl) (by kernel_rfl)),
  fun v l => keyOf_kk Tryz.underlying73 (by kernel_rfl) (of_decide_eq_true (by kernel_rfl)) (by kernel_rfl) Tryz.underlying9 Tryz.underlying9 (by kernel_rfl) (by kernel_rfl) rfl rfl (by decide) (by decide)⟩
theorem key_inv (key : Value) (kl : Lit) (h : keyOf Tryz.prog 73 key = some kl) : ∃ x, key = keyV x := by
 obtain ⟨x, hx, -⟩ := (keysK.2 key kl).1 h
 exact ⟨x, hx⟩
theorem row_inv (v : Value) (y : DataW Value × List MemPlace) (h : heldE v = some y) : ∃ c, v = rowE c := (heldE_out h).2
set_option maxHeartbeats 2000000 in
set_option maxRecDepth 100000 in
theorem copy_c (bd nd bs ns : Nat) (Sd Ss : KeyP -> Prop) (w : World) (hd : MapS Tryz.prog 73 w bd nd Sd) (hs : MapS Tryz.prog 73 w bs ns Ss) (hne : bs ≠ bd) (hroom : nd + ns <= maxLen) :
  Calls Tryz.prog 32 #[.map (some bd), .map (some bs)] w fun e w' => e = .returned (.tuple #[]) /\ MapS Tryz.prog 73 w' bd (nd + ns) (fun k => Sd k ∨ Ss k) /\ w.grownBy w' (some bd) := by
 obtain ⟨Dd, hd, hSd⟩ := hd
 obtain ⟨Ds, hs, hSs⟩ := hs
 have hbd := hd.lt
 have hbs := hs.lt
 have hsz := hs.size_le
 have HKK := Lib.hid keysK
 go_enter Tryz.func32, Tryz.ntmps32
 go_wp2_with (first
  | (at_range; refine wpList_range_own _ rfl _ 68 rfl 73 51 HKK.out.1 Tryz.underlying68 heldE bs ns _ rfl hs ?_; intro w0 hrg0 hg0 hs0)
  | go_in)
 go_frame
 go_loopw [8] (fun _ wr => ∃ (left : Lit -> Bool) (cnt : Nat) (Dout : DataW Value) (ss : List KeyP), wr.ranges Tryz.prog 73 heldE bs w.heap.size ns Ds left cnt /\ cnt <= Maps.size Ds /\
   wr.ownsMap Tryz.prog 73 heldE bd (nd + (Maps.size Ds - cnt)) Dout /\ SetL Dout (fun k => Sd k ∨ k ∈ ss) /\ CollK Ds left ss /\ w.grownBy wr (some bd))
  (fun _ wr => wr.rangeLeft bs w.heap.size)
 case atStart => exact ⟨_, _, Dd, [], hrg0, Nat.le_refl _, (hd.kept hg0 (by simp)).mono (by omega), hSd.congr (fun k _ => by simp), CollK.start Ds, hg0.but _⟩
 case round =>
  obtain ⟨left, cnt, Dout, ss, hrg, hcs, hout, hSo, hC, hgw⟩ := hrel
  go_wp2_with (first
   | (at_next; refine wpList_next_ranges _ rfl _ rfl 73 HKK.out.1 heldE keyV rowE key_inv row_inv bs w.heap.size ns _ _ _ rfl hrg ?_ ?_)
   | go_in)
  ·intro hc0 hl0
   go_wp2
   go_end0
   subst hc0
   have hd2 := hC.done HKK.out hSs hl0
   exact ⟨rfl, ⟨Dout, hout.mono (by omega), hSo.congr (fun k hk => by rw [hd2.2 k hk])⟩, hgw⟩
  ·intro x rt ra rn rc kl yd yp w1 cnt1 hkey hlx hv hat hrg1 hlt hg1 hs1 hen
   obtain ⟨x', ex, hz, rfl⟩ := (HKK.out.2 _ _).1 hkey
   obtain rfl := keyV_inj ex
   clear ex
   obtain ⟨tg, ky⟩ := x
   have hout1 := hout.kept hg1 (fun e => by have := Option.some.inj e; omega)
   have hC1 := hC.step HKK.out hz hlx hat
   have HV := Lib.hid (show heldE (rowE (rt, ra, rn, rc)) = some (.held (rowE (rt, ra, rn, rc)), []) from heldE_mk _)
   have HKY := Lib.hid (HKK.out.of hz)
   have HSO1 := Lib.hid (hSo.put HKK.out hout1.isMap hz (.held (rowE (rt, ra, rn, rc))))
   have HRG := Lib.hid hrg1
   have HOUT := Lib.hid hout1
   have HG := Lib.hid (hgw.andThen hg1 (fun j hj => .inl (by cases hj; exact Nat.le_refl _)))
   have HC1 := Lib.hid hC1
   have hL := hrg.left_eq
   simp only [keyV, rowE] at hen HV HKY ⊢
   clear hC1 hout1 hout hSo hC hgw hkey hlx hv hat hrg1 hg1 hrg
   have HX1 := Lib.hid (heap_old (heap_new w1 (.cells #[.string tg, .string ky] 73) rfl) (.cells #[.string rt, .slice ra rn rc] 51))
   have HX2 := Lib.hid (heap_new (w1.alloc (.cells #[.string tg, .string ky] 73)) (.cells #[.string rt, .slice ra rn rc] 51) (g := w1.heap.size + 1) (by simp))
   have HG1 := Lib.hid (show w1.grownBy ((w1.alloc (.cells #[.string tg, .string ky] 73)).alloc (.cells #[.string rt, .slice ra rn rc] 51)) none from (World.grownBy_alloc w1 (.cells #[.string tg, .string ky] 73) none).andThen (World.grownBy_alloc _ (.cells #[.string rt, .slice ra rn rc] 51) none) (fun j hj => by cases hj))
   have hz1 : w.heap.size <= w1.heap.size := HG.out.size
   rw [hs1] at HX1 HX2
   go_upto_region 3 with fail
   generalize (w1.alloc (.cells #[.string tg, .string ky] 73)).alloc (.cells #[.string rt, .slice ra rn rc] 51) = w2 at HX1 HX2 HG1 ⊢
   have hx1 := HX1.out
   have hx2 := HX2.out
   obtain ⟨x0, x1, x2, x3, x4⟩ := box2 hx1
   obtain ⟨y0, y1, y2, y3, y4⟩ := box2 hx2
   have HOUT2 := Lib.hid (HOUT.out.kept HG1.out (by simp))
   have HRG2 := Lib.hid (HRG.out.kept HG1.out (by simp) (by simp))
   clear hx1 hx2 hen
   go_wp2_with (first
    | (at_mapUpdate; refine wpList_mapUpdate_own _ rfl _ _ _ 68 rfl 73 51 HKK.out.1 Tryz.underlying68 heldE bd _ _ rfl HOUT2.out (by omega) _ _ _ rfl rfl HKY.out _ _ HV.out ?_; intro w3 hout3 hg3; go_frame)
    | go_in)
   have hrg3 := HRG2.out.kept hg3 (fun e => hne (Option.some.inj e)) (fun e => by have := Option.some.inj e; omega)
   have hgg := HG.out.andThen HG1.out (fun j hj => by cases hj)
   have hgg3 := hgg.andThen hg3 (fun j hj => .inr hj)
   go_roundw
   case rel => exact ⟨_, cnt1, _, _, hrg3, by omega, hout3.mono (by omega), HSO1.out.congr (fun k hk => by simp [or_assoc]), HC1.out, hgg3⟩
   case measure => rw [hrg3.left_eq, hL]; exact hlt
end Go.Proofs.YtbnjejenejoibaaGreatDoor
namespace Go.Proofs.YtbnjejenejoibaaGreatDoor
open Go.RowKit Go.Maps Go.Sort Go.Shelf
set_option linter.unusedVariables false
set_option linter.unusedSimpArgs false
set_option maxHeartbeats 2000000 in
set_option maxRecDepth 100000 in
theorem keys1_c (F : Fence) (n : Nat) (h10 : F.fn 67) (hro : F.round = none) (hn : 1 <= n) (l Bm b nn : Nat) (D0 : DataW Value) (J : List KeyP -> World -> Prop)
  (hY : ∀ pre x W, KeyZ x -> J pre W -> pre.length < Maps.size D0 -> YieldAt F (n - 1) Tryz.prog l #[keyV x] W fun e W' => e = .returned (.bool true) /\ J (pre ++ [x]) W' /\ KeepsWalks W W')
  (W : World) (hJ : AbidesFrom W.heap.size J) (hm : W.cell? ⟨Bm, 0, none⟩ = some (.map (some b))) (hown : W.ownsMap Tryz.prog 73 heldE b nn D0) (h0 : J [] W) :
  CallsIn F n Tryz.prog 67 #[.func (.yield l) #[] #[], .pointer (some ⟨Bm, 0, none⟩)] W fun e W' => (∃ v, e = .returned v) /\ ∃ ss : List KeyP, ((∃ left, CollK D0 left ss /\ ∀ kl, left kl = false) /\ ss.length <= Maps.size D0) /\ J ss W' := by
 have HKK := Lib.hid keysK
 refine callsIn_of_wp Tryz.func67 rfl h10 ?_ hro
 simp only [Tryz.ntmps67, List.size_toArray, List.length_cons, List.length_nil, Nat.reduceAdd, Nat.reduceSub, Array.replicate_succ, Array.replicate_zero, List.push_toArray, List.append_toArray, List.nil_append, List.cons_append]
 gi_wp2_with (first
  | (gi_at_range; refine wpListIn_range_own _ rfl _ 68 rfl 73 51 HKK.out.1 Tryz.underlying68 _ b nn _ rfl hown ?_; intro w0 hrg0 hg0 hs0)
  | gi_in)
 go_frame
 gi_loopw [3] (fun _ wr => ∃ (left : Lit -> Bool) (cnt : Nat) (ss : List KeyP), wr.ranges Tryz.prog 73 heldE b W.heap.size nn D0 left cnt /\ ss.length + cnt <= Maps.size D0 /\ CollK D0 left ss /\ J ss wr)
  (fun _ wr => wr.rangeLeft b W.heap.size)
 case atStart => exact ⟨_, _, [], hrg0, by simp, CollK.start D0, hJ [] W w0 none h0 hg0 (fun r e => by cases e)⟩
 case round =>
  obtain ⟨left, cnt, ss, hrg, hcs, hC, hJs⟩ := hrel
  gi_wp2_with (first
   | (gi_at_next; refine wpListIn_next_ranges _ rfl _ rfl 73 HKK.out.1 heldE keyV rowE key_inv row_inv b W.heap.size nn _ _ _ rfl hrg ?_ ?_)
   | gi_in)
  ·intro hc0 hl0
   gi_wp2
   go_end0
   exact ⟨⟨_, rfl⟩, ss, ⟨⟨left, hC, hl0⟩, by omega⟩, hJs⟩
  ·intro x rt ra rn rc kl yd yp w2 cnt2 hkey hlk hv hat hrg2 hlt hg2 hs2 hen
   obtain ⟨x', ex, hz, rfl⟩ := (HKK.out.2 _ _).1 hkey
   obtain rfl := keyV_inj ex
   clear ex
   have hJ2 : J ss w2 := hJ ss wr w2 (some W.heap.size) hJs hg2 (fun r e => by cases e; exact ⟨Nat.le_refl _, hrg.iter_walk⟩)
   have hL := hrg.left_eq
   have HC1 := Lib.hid (hC.step HKK.out hz hlk hat)
   have hlen : ss.length < Maps.size D0 := by omega
   have HYY := Lib.hid (fun W3 (h : J ss W3) => hY ss x W3 hz h hlen)
   have HJA := Lib.hid (fun W3 (h : w2.grownBy W3 none) => hJ ss w2 W3 none hJ2 h (fun r e => by cases e))
   have HRG := Lib.hid hrg2
   obtain ⟨tg, ky⟩ := x
   simp only [keyV, rowE] at hen HYY ⊢
   clear hv hat hkey hlk hC hrg hrg2
   have HX1 := Lib.hid (heap_new w2 (.cells #[.string tg, .string ky] 73) rfl)
   rw [hs2] at HX1
   have hg4 : w2.grownBy (w2.alloc (.cells #[.string tg, .string ky] 73)) none := World.grownBy_alloc w2 (.cells #[.string tg, .string ky] 73) none
   have HRG3 := Lib.hid (HRG.out.kept hg4 (by simp) (by simp))
   obtain ⟨fn, tmps, assign, body, hy, hR⟩ := HYY.out (w2.alloc (.cells #[.string tg, .string ky] 73)) (HJA.out _ hg4)
   have HR := Lib.hid hR
   have hx1 := HX1.out
   obtain ⟨x0, x1, x2, x3, x4⟩ := box2 hx1
   clear hx1 hg4 hR HYY HJA HX1
   obtain ⟨w3, hw3⟩ : ∃ w3, w2.alloc (.cells #[.string tg, .string ky] 73) = w3 := ⟨_, rfl⟩
   rw [hw3] at x0 x1 x2 x3 x4 HRG3 hy HR
   gi_wp2_with fail
   clear hw3
   refine HR.out.mono ?_
   rintro e W3 ⟨rfl, hJ3, hk3⟩
   gi_wp2
   have hrg3 := HRG3.out.of_walks hk3
   go_roundw
   case rel => exact ⟨_, cnt2, ss ++ [⟨tg, ky⟩], hrg3, by simp; omega, HC1.out, hJ3⟩
   case measure => rw [hrg3.left_eq, hL]; exact hlt
theorem infoKy : (Tryz.prog.info? 73).map (fun i => (i.zero, i.size, i.bytes)) = some (some (.agg #[.string ⟨#[]⟩, .string ⟨#[]⟩]), 2, 32) := by kernel_rfl
theorem zk_cellsK (w : World) (us : List Value) (t : TypeId) : ∀ j x, us[j]? = some x -> (w.alloc (.cells us.toArray t)).cell? ((⟨w.heap.size, 0, none⟩ : Addr).add j) = some x := by
 intro j x hj
 rw [Addr.add_lit, cell_of_row _ _ _ _ _ _ (heap_alloc_new w _)]
 simpa using hj
def keyC (k : KeyP) : List Value := [.string k.tag, .string k.key]
def apAssignK : Code := Code.region 2 #[{ dst := some 5, op := Op.alloc 73, type := 0, pos := "iter.go:51", after := #[], guard := none }, { dst := none, op := Op.store 73 (Operand.tmp 5) (Operand.tmp 7), type := 0, pos := "iter.go:51", after := #[{ on := 0, ground := Ground.data }, { on := 0, ground := Ground.phase }], guard := none }] false
def apBodyK : Code := Code.block 1 (Code.region 3 #[{ dst := some 8, op := Op.load 75 (Operand.tmp 2), type := 75, pos := "iter.go:52", after := #[], guard := none }, { dst := some 9, op := Op.load 73 (Operand.tmp 5), type := 73, pos := "iter.go:52", after := #[], guard := none }, { dst := some 10, op := Op.buildSlice 75 1 #[(0, Operand.tmp 9)], type := 75, pos := "iter.go:52", after := #[{ on := 1, ground := Ground.data }], guard := none }, { dst := some 11, op := Op.call { callee := Callee.builtin Builtin.append, args := #[Operand.tmp 8, Operand.tmp 10], argTypes := #[75, 75] }, type := 75, pos := "iter.go:52", after := #[{ on := 0, ground := Ground.data }, { on := 2, ground := Ground.data }], guard := none }, { dst := none, op := Op.store 75 (Operand.tmp 2) (Operand.tmp 11), type := 0, pos := "iter.go:52", after := #[{ on := 3, ground := Ground.data }, { on := 3, ground := Ground.chain }, { on := 0, ground := Ground.phase }, { on := 1, ground := Ground.phase }, { on := 2, ground := Ground.phase }, { on := 3, ground := Ground.phase }], guard := none }] false)
def apRecK (fn : FuncId) (sv : Value) (Bs D : Nat) (st : LoopState) (pend : Option Code) : Loop :=
 { state := st, pending := pend, fn, tmps := #[.slice none 0 0, sv, .pointer (some ⟨Bs, 0, none⟩), undef, .slice none 0 0, undef, sv, undef, undef, undef, undef, undef, undef], params := #[7], assign := apAssignK, body := apBodyK, defers := D }
structure ApAtK (w0 : World) (fn : FuncId) (sv : Value) (Bs l D : Nat) (ss : List KeyP) (W : World) : Prop where
 box : ∃ v, W.heap[Bs]? = some (.cells #[v] 75 (0, 0)) /\ W.ownsRow w0.heap.size 73 2 v ss.length (ss.flatMap keyC)
 L : W.heap[l]? = some (.loop (apRecK fn sv Bs D .ready none))
 K : W.heap[D]? = some (.deferred (some []))
 below : Below w0.heap.size w0 W
 zs : ∀ x ∈ ss, KeyZ x
theorem ap_abidesK (w0 : World) (fn : FuncId) (sv : Value) (Bs l D B : Nat) (hB : w0.heap.size <= B) : AbidesFrom B (ApAtK w0 fn sv Bs l D) := fun s W W' row h hg hrow => by
 have hrow' : ∀ r, row = some r -> ∃ o : Obj, W.heap[r]? = some o /\ o.isWalk = true := fun r e => (hrow r e).2
 obtain ⟨v, hv, hr⟩ := h.box
 exact ⟨⟨v, (grownBy_keeps hg hrow' hv rfl).trans hv, ownsRow_abides_a hr hg hrow'⟩, (grownBy_keeps hg hrow' h.L rfl).trans h.L, (grownBy_keeps hg hrow' h.K rfl).trans h.K,
  h.below.grown hg h.below.size (fun k e => Nat.le_trans hB (hrow k e).1), h.zs⟩
set_option maxRecDepth 100000 in
set_option maxHeartbeats 2000000 in
theorem apYieldK (F : Fence) (m : Nat) (w0 : World) (fn : FuncId) (hfn : F.fn fn) (sv : Value) (Bs l D : Nat) (hBl : Bs ≠ l) (hDl : D ≠ l) (hDB : D ≠ Bs) (h0B : w0.heap.size <= Bs) (h0l : w0.heap.size <= l)
  (N : Nat) (hN : N <= maxLen) (hNb : N * 32 <= 140737488355328) (ss : List KeyP) (x : KeyP) (hx : KeyZ x) (W : World) (h : ApAtK w0 fn sv Bs l D ss W) (hlen : ss.length < N) :
  YieldAt F m Tryz.prog l #[keyV x] W fun e W' => e = .returned (.bool true) /\ ApAtK w0 fn sv Bs l D (ss ++ [x]) W' /\ KeepsWalks W W' := by
 obtain ⟨i0, hi, hz0, hz1, hz2⟩ := info_parts infoKy
 obtain ⟨v, hv, hrow⟩ := h.box
 refine ⟨fn, #[.slice none 0 0, sv, .pointer (some ⟨Bs, 0, none⟩), undef, .slice none 0 0, undef, sv, keyV x, undef, undef, undef, undef, undef], apAssignK, apBodyK, by simpa [apRecK] using run_yield (P := Tryz.prog) (args := #[keyV x]) h.L rfl, roundIn_of_wpIn hfn ?_⟩
 obtain ⟨tg, ky⟩ := x
 obtain ⟨W1, hW1⟩ : ∃ W1, W.alloc (.cells #[.string tg, .string ky] 73) = W1 := ⟨_, rfl⟩
 have hl0 : l < W.heap.size := (Array.getElem?_eq_some_iff.1 h.L).1
 have hB0 : Bs < W.heap.size := (Array.getElem?_eq_some_iff.1 hv).1
 have hD0 : D < W.heap.size := (Array.getElem?_eq_some_iff.1 h.K).1
 have hg1 : W.grownBy W1 none := by rw [<- hW1]; exact World.grownBy_alloc W _ none
 have hk1 : KeepsWalks W W1 := by rw [<- hW1]; exact KeepsWalks.alloc _ _
 have hX1 : W1.heap[W.heap.size]? = some (.cells #[.string tg, .string ky] 73) := by rw [<- hW1]; exact World.alloc_heap_new W _
 have hL1 : W1.heap[l]? = some (.loop (apRecK fn sv Bs D .ready none)) := (hg1.block l hl0 (by simp)).trans h.L
 have hv1 : W1.heap[Bs]? = some (.cells #[v] 75 (0, 0)) := (hg1.block Bs hB0 (by simp)).trans hv
 have hK1 : W1.heap[D]? = some (.deferred (some [])) := (hg1.block D hD0 (by simp)).trans h.K
 have hrow1 : W1.ownsRow w0.heap.size 73 2 v ss.length (ss.flatMap keyC) := by rw [<- hW1]; exact hrow.alloc _
 have hb1 : Below w0.heap.size w0 W1 := h.below.grown hg1 h.below.size (fun k e => by cases e)
 have hl : l < W1.heap.size := (Array.getElem?_eq_some_iff.1 hL1).1
 have hbr := run_beginRound (P := Tryz.prog) hL1 rfl
 obtain ⟨W2, hW2⟩ : ∃ W2, W1.putObj l (.loop { apRecK fn sv Bs D .ready none with state := .busy }) = W2 := ⟨_, rfl⟩
 rw [hW2] at hbr
 have hgl : W.heap.size ≠ l := by omega
 have hg2 : W1.grownBy W2 (some l) := by rw [<- hW2]; exact grownBy_putObj_a _ _ _
 have hk2 : KeepsWalks W W2 := hk1.trans (by rw [<- hW2]; exact KeepsWalks.putObj _ hL1 rfl)
 have hv2 : W2.heap[Bs]? = some (.cells #[v] 75 (0, 0)) := by rw [<- hW2]; exact (World.putObj_heap_other hBl).trans hv1
 have hX2 : W2.heap[W.heap.size]? = some (.cells #[.string tg, .string ky] 73) := by rw [<- hW2]; exact (World.putObj_heap_other hgl).trans hX1
 have hK2 : W2.heap[D]? = some (.deferred (some [])) := by rw [<- hW2]; exact (World.putObj_heap_other hDl).trans hK1
 have hL2 : W2.heap[l]? = some (.loop { apRecK fn sv Bs D .ready none with state := .busy }) := by rw [<- hW2]; exact World.putObj_heap_same hl
 have hrow2 : W2.ownsRow w0.heap.size 73 2 v ss.length (ss.flatMap keyC) := hrow1.kept hg2 (ownsRow_ne_a hrow1 hL1 (fun cur e => by cases e))
 have hb2 : Below w0.heap.size w0 W2 := hb1.grown hg2 hb1.size (fun k e => by cases e; exact h0l)
 obtain ⟨hc2, hf2⟩ := cell_of_box_a hv2
 obtain ⟨x0, x1, x2, x3, x4⟩ := box2 hX2
 have hBlt : Bs < W2.heap.size := (Array.getElem?_eq_some_iff.1 hv2).1
 have hl2 : l < W2.heap.size := (Array.getElem?_eq_some_iff.1 hL2).1
 have hDlt : D < W2.heap.size := (Array.getElem?_eq_some_iff.1 hK2).1
 have ne_of : ∀ {j : Nat} {o : Obj}, W2.heap[j]? = some o -> (∀ cur, o ≠ .cells cur 73 (0, 0)) -> some j ≠ v.ownBlock := fun hj hno => by
  rcases ownsRow_ne_a hrow2 hj hno with e | e
  ·rw [e]; simp
  ·exact fun e' => e e'.symm
 clear hW2 hX2
 unfold apAssignK keyV
 gi_wp2_with gi_round_op_a
 unfold apBodyK
 gi_wp2_with (first
  | (gi_at_builtin; refine wpListIn_append_own _ rfl _ _ 75 rfl w0.heap.size 73 i0 (.agg #[.string ⟨#[]⟩, .string ⟨#[]⟩]) 2 32 Tryz.underlying75 hi hz0 hz1 hz2 rfl (by decide) _ _ _ rfl (hrow2.alloc _) ⟨W2.heap.size, 0, none⟩ 1 1 [.string tg, .string ky] rfl rfl (zk_cellsK W2 [.string tg, .string ky] 73) (by intro u hu; simp at hu; rcases hu with rfl | rfl <;> rfl) (by omega) (by omega) (by have := hb2.size; simp; omega) ?_; intro v' w3 hown' hg3 hnil3
     have hv3 : w3.heap[Bs]? = some (.cells #[v] 75 (0, 0)) := (hg3.block Bs (by simp; omega) (ne_of hv2 (fun cur e => by cases e))).trans ((Below.heap_alloc _ _ Bs hBlt).trans hv2)
     obtain ⟨hc3, hf3⟩ := cell_of_box_a hv3
     obtain ⟨g', cap', rfl⟩ : ∃ g' cap', v' = .slice (some ⟨g', 0, none⟩) (ss.length + 1) cap' := by
       rcases hown'.2 with ⟨_, h0⟩ | ⟨g', cap', cur', e, _⟩
       · exact absurd h0 (by omega)
       · exact ⟨g', cap', e⟩
     go_frame)
  | gi_round_op_a)
 have hg3' : (W2.alloc (.cells #[.string tg, .string ky] 73)).grownBy w3 v.ownBlock := hg3
 have hL3 : w3.heap[l]? = some (.loop { apRecK fn sv Bs D .ready none with state := .busy }) := (hg3'.block l (by simp; omega) (ne_of hL2 (fun cur e => by cases e))).trans ((Below.heap_alloc _ _ l hl2).trans hL2)
 have hK3 : w3.heap[D]? = some (.deferred (some [])) := (hg3'.block D (by simp; omega) (ne_of hK2 (fun cur e => by cases e))).trans ((Below.heap_alloc _ _ D hDlt).trans hK2)
 obtain ⟨w4, hw4⟩ : ∃ w4, w3.setCell ⟨Bs, 0, none⟩ (.slice (some ⟨g', 0, none⟩) (ss.length + 1) cap') = w4 := ⟨_, rfl⟩
 rw [hw4]
 have hg4 : w3.grownBy w4 (some Bs) := by rw [<- hw4]; exact grownBy_setCell0_a _ _ _
 have hv4 : w4.heap[Bs]? = some (.cells #[.slice (some ⟨g', 0, none⟩) (ss.length + 1) cap'] 75 (0, 0)) := by rw [<- hw4]; exact heap_setCell_box_a _ hv3
 have hL4 : w4.heap[l]? = some (.loop { apRecK fn sv Bs D .ready none with state := .busy }) := (hg4.block l (Array.getElem?_eq_some_iff.1 hL3).1 (fun e => hBl (by cases e; rfl))).trans hL3
 have hK4 : w4.heap[D]? = some (.deferred (some [])) := (hg4.block D (Array.getElem?_eq_some_iff.1 hK3).1 (fun e => hDB (by cases e; rfl))).trans hK3
 have hrow4 := hown'.kept hg4 (ownsRow_ne_a hown' hv3 (fun cur e => by cases e))
 have hl4 : l < w4.heap.size := (Array.getElem?_eq_some_iff.1 hL4).1
 have hb3 : Below w0.heap.size w0 w3 := (hb2.alloc hb2.size _).grown hg3' (by have := hb2.size; simp; omega) (fun k e => (hrow2.lt k e).1)
 have hb4 : Below w0.heap.size w0 w4 := hb3.grown hg4 hb3.size (fun k e => by cases e; exact h0B)
 have hk4 : KeepsWalks W w4 := ((hk2.trans (KeepsWalks.alloc _ _)).trans (KeepsWalks.of_grownBy hg3' (ownsRow_not_walk_a (hrow2.alloc _)))).trans (by rw [<- hw4]; exact KeepsWalks.setCell _ _ _)
 clear hw4
 refine ⟨_, _, run_endRound none hL4, rfl, ⟨⟨_, (World.putObj_heap_other hBl).trans hv4, ?_⟩, World.putObj_heap_same hl4, (World.putObj_heap_other hDl).trans hK4, hb4.grown (grownBy_putObj_a _ _ _) hb4.size (fun k e => by cases e; exact h0l), ?_⟩, hk4.trans (KeepsWalks.putObj _ hL4 rfl)⟩
 ·have := hrow4.kept (grownBy_putObj_a w4 l (.loop { { apRecK fn sv Bs D .ready none with state := .busy } with state := if (none : Option Code).isNone then .ready else .done, pending := none })) (ownsRow_ne_a hrow4 hL4 (fun cur e => by cases e))
  simpa [keyC] using this
 ·intro y hy
  rcases List.mem_append.1 hy with q | q
  ·exact h.zs y q
  ·simp at q
   subst q
   exact hx
end Go.Proofs.YtbnjejenejoibaaGreatDoor
namespace Go.Proofs.YtbnjejenejoibaaGreatDoor
open Go.RowKit Go.Maps
set_option linter.unusedVariables false
set_option linter.unusedSimpArgs false
set_option maxHeartbeats 2000000 in
set_option maxRecDepth 100000 in
theorem clonex_c (b : Nat) (es : Array MapEntry) (clock : Nat) (w : World) (hb : w.heap[b]? = some (.map es clock)) :
  Calls Tryz.prog 31 #[.map (some b)] w fun e w' => e = .returned (.map (some w.heap.size)) /\ w' = w.alloc (.map es clock) := by
 have hq := fun w => run_eql_map_nil_sl (P := Tryz.prog) w 68 _ _ (some b) Tryz.underlying68
 go_enter Tryz.func31, Tryz.ntmps31
 go_wp2
 rw [run_callFunc_extern Tryz.func64 (by kernel_rfl) (by kernel_rfl) (by kernel_rfl) (e := Extern.MapsClone.clone) (by kernel_rfl), run_maps_clone_sl w 68 hb]
 simp only [Result.andThen]
 rw [Oper.upon_value]
 go_wp2
 rw [run_typeAssert_map_sl _ 68 _ _ _ _ Tryz.underlying68]
 simp only [Result.andThen]
 rw [Oper.upon_value]
 go_wp2
 go_ret
 exact ⟨rfl, rfl⟩
theorem mclone_c (b n : Nat) (S : KeyP -> Prop) (w : World) (h : MapS Tryz.prog 73 w b n S) :
  Calls Tryz.prog 31 #[.map (some b)] w fun e w' => e = .returned (.map (some w.heap.size)) /\ MapS Tryz.prog 73 w' w.heap.size n S /\ Below w.heap.size w w' := by
 obtain ⟨D, ⟨es, clock, hb, F, hs, hD⟩, hS⟩ := h
 refine (clonex_c b es clock w hb).mono fun e w' ⟨he, hw⟩ => ?_
 subst hw
 exact ⟨he, ⟨D, ⟨es, clock, heap_new w _ rfl, F, hs, hD⟩, hS⟩, (Below.refl _ w).alloc (Nat.le_refl _) _⟩
end Go.Proofs.YtbnjejenejoibaaGreatDoor
