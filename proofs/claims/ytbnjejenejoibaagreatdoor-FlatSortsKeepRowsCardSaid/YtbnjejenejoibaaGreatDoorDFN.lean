/- slices.AppendSeq and slices.Collect at keys of a tag and a key, over maps.Keys. -/
import Derived.Test.YtbnjejenejoibaaGreatDoorDFM
import Derived.Test.YtbnjejenejoibaaGreatDoorShelf
import Derived.Sort.Grow
import Derived.Deep.RegionHeld3
import Derived.Handy
import Derived.Test.YtbnjejenejoibaaGreatDoorShelfS
import Derived.Test.YtbnjejenejoibaaGreatDoorS1
import Derived.Shelf.SlSortCmp.WholeK
import Derived.Sort.LotA
-- merged: DFH DFI DFJ DFN
namespace Go.Proofs.YtbnjejenejoibaaGreatDoor
open Go.RowKit Go.Maps Go.Sort Go.Shelf
set_option linter.unusedVariables false
set_option linter.unusedSimpArgs false
def GivesK (F : Fence) (n : Nat) (g : Nat) (lb : Array Value) (S : List KeyP -> Prop) (N : Nat) (w : World) : Prop :=
 ∀ (l : Nat) (J : List KeyP -> World -> Prop) (W : World), Below w.heap.size w W -> AbidesFrom W.heap.size J ->
  (∀ pre x W', KeyZ x -> J pre W' -> pre.length < N -> YieldAt F (n - 1) Tryz.prog l #[keyV x] W' fun e W'' => e = .returned (.bool true) /\ J (pre ++ [x]) W'' /\ KeepsWalks W' W'') -> J [] W ->
  CallsIn F n Tryz.prog g (#[.func (.yield l) #[] #[]] ++ lb) W fun e W' => (∃ v, e = .returned v) /\ ∃ ss : List KeyP, S ss /\ J ss W'
set_option maxRecDepth 100000 in
set_option maxHeartbeats 2000000 in
theorem appendSeqK (F : Fence) (n : Nat) (h11 : F.fn 108) (hro : F.round = none) (hn : 2 <= n) (g : Nat) (lb : Array Value) (hFg : F.fn g) (eg : ∀ args w, (callFunc g args).run Tryz.prog w = .ok (.enter g args) w)
  (S : List KeyP -> Prop) (N : Nat) (hN : N <= maxLen) (hNb : N * 32 <= 140737488355328) (w : World) (hseq : GivesK F (n - 1) g lb S N w) :
  CallsIn F n Tryz.prog 108 #[.slice none 0 0, .func (.func g) #[] lb] w fun e w' => ∃ (v : Value) (ss : List KeyP), e = .returned v /\ S ss /\ w'.ownsRow w.heap.size 73 2 v ss.length (ss.flatMap keyC) /\ (∀ x ∈ ss, KeyZ x) /\ Below w.heap.size w w' := by
 have h1 : 1 <= n := by omega
 refine callsIn_of_wp_marks Tryz.func108 rfl h11 ?_ hro
 simp only [Tryz.ntmps108, List.size_toArray, List.length_cons, List.length_nil, Nat.reduceAdd, Nat.reduceSub, Array.replicate_succ, Array.replicate_zero, List.push_toArray, List.append_toArray, List.nil_append, List.cons_append]
 gi_wp2
 refine wpIn_rangeFunc ?_
 intro fn hfn
 rw [hro]
 obtain ⟨W0, hW0⟩ : ∃ W0, w.alloc (.cells #[.slice none 0 0] 75) = W0 := ⟨_, rfl⟩
 have hs0 : W0.heap.size = w.heap.size + 1 := by rw [<- hW0]; simp
 have hv0 : W0.heap[w.heap.size]? = some (.cells #[.slice none 0 0] 75 (0, 0)) := by rw [<- hW0]; exact World.alloc_heap_new w _
 have hb0 : Below w.heap.size w W0 := by rw [<- hW0]; exact (Below.refl _ w).alloc (Nat.le_refl _) _
 rw [hW0]
 obtain ⟨W1, hW1⟩ : ∃ W1, (W0.alloc (.deferred (some []))).alloc (.loop (apRecK fn (.func (.func g) #[] lb) w.heap.size W0.heap.size .ready none)) = W1 := ⟨_, rfl⟩
 have hold : ∀ k, k < W0.heap.size -> W1.heap[k]? = W0.heap[k]? := fun k hk => by
  rw [<- hW1]; exact (Below.heap_alloc _ _ k (by simp; omega)).trans (Below.heap_alloc _ _ k hk)
 have hb1 : Below w.heap.size w W1 := by rw [<- hW1]; exact (hb0.alloc hb0.size _).alloc (by have := hb0.size; simp; omega) _
 have hs1 : W1.heap.size = W0.heap.size + 2 := by rw [<- hW1]; simp
 have hM : ApAtK w fn (.func (.func g) #[] lb) w.heap.size (W0.heap.size + 1) W0.heap.size [] W1 :=
  ⟨⟨_, (hold w.heap.size (by omega)).trans hv0, ⟨rfl, .inl ⟨rfl, rfl⟩⟩⟩,
   by rw [<- hW1]; have := World.alloc_heap_new (W0.alloc (.deferred (some []))) (.loop (apRecK fn (.func (.func g) #[] lb) w.heap.size W0.heap.size .ready none)); rwa [World.size_alloc] at this,
   by rw [<- hW1]; exact (Below.heap_alloc _ _ _ (by simp)).trans (World.alloc_heap_new W0 _), hb1, fun x hx => by cases hx⟩
 refine ⟨W0.heap.size + 1, [{ target := .collected W0.heap.size, args := #[] }], W1, { target := .fn (.func g) lb, args := #[.func (.yield (W0.heap.size + 1)) #[] #[]] }, W1, g,
  #[.func (.yield (W0.heap.size + 1)) #[] #[]] ++ lb, W1, ?_, ?_, ?_, ?_, fun _ => h1, ?_⟩
 ·rw [<- hW1]; exact run_enterLoop_outer _ _ _ _ _
 ·simp [resolve, go_sem]
 ·intro f' hf'; simp [Target.leads] at hf'; subst hf'; exact hFg
 ·simp [invoke, go_sem, eg]
 ·refine (hseq (W0.heap.size + 1) (ApAtK w fn (.func (.func g) #[] lb) w.heap.size (W0.heap.size + 1) W0.heap.size) W1 hb1 (ap_abidesK _ _ _ _ _ _ _ hb1.size)
   (fun pre x W hz hJ hl => apYieldK F (n - 1 - 1) w fn hfn _ w.heap.size (W0.heap.size + 1) W0.heap.size (by omega) (by omega) (by omega) (Nat.le_refl _) (by omega) N hN hNb pre x hz W hJ hl) hM).mono ?_
  rintro e W2 ⟨⟨v0, rfl⟩, ss, hS, h2⟩
  obtain ⟨v, hv, hrow⟩ := h2.box
  have hend := run_endLoop (P := Tryz.prog) h2.L (by simp [apRecK])
  obtain ⟨W3, hW3⟩ : ∃ W3, W2.putObj (W0.heap.size + 1) (.loop { apRecK fn (.func (.func g) #[] lb) w.heap.size W0.heap.size .ready none with state := .exhausted }) = W3 := ⟨_, rfl⟩
  rw [hW3] at hend
  have hg3 : W2.grownBy W3 (some (W0.heap.size + 1)) := by rw [<- hW3]; exact grownBy_putObj_a _ _ _
  have hv3 : W3.heap[w.heap.size]? = some (.cells #[v] 75 (0, 0)) := by rw [<- hW3]; exact (World.putObj_heap_other (by omega)).trans hv
  have hK3 : W3.heap[W0.heap.size]? = some (.deferred (some [])) := by rw [<- hW3]; exact (World.putObj_heap_other (by omega)).trans h2.K
  have hrow3 := hrow.kept hg3 (ownsRow_ne_a hrow h2.L (fun cur e => by cases e))
  have hb3 : Below w.heap.size w W3 := h2.below.grown hg3 h2.below.size (fun k e => by cases e; omega)
  obtain ⟨hc3, hf3⟩ := cell_of_box_a hv3
  clear hW3
  refine ⟨none, W3, hend, ?_⟩
  gi_wp2
  rw [<- hs0]
  refine ⟨by simp, .inl ⟨_, _, rfl, run_takeDeferred hK3, ?_⟩⟩
  exact ⟨_, results_tmp rfl _ _ _, v, ss, rfl, hS, hrow3.kept (grownBy_putObj_a _ _ _) (ownsRow_ne_a hrow3 hK3 (fun cur e => by cases e)), h2.zs, hb3.grown (grownBy_putObj_a _ _ _) hb3.size (fun k e => by cases e; omega)⟩
theorem keys_c (mb : Option Nat) (w : World) : Calls Tryz.prog 34 #[.map mb] w fun e w' => e = .returned (.func (.func 67) #[] #[.pointer (some ⟨w.heap.size, 0, none⟩)]) /\ w' = w.alloc (.cells #[.map mb] 68) := by
 go_enter Tryz.func34, Tryz.ntmps34
 go_wp2
 go_ret
 exact ⟨rfl, rfl⟩
set_option maxRecDepth 100000 in
set_option maxHeartbeats 2000000 in
theorem collect_c (Bm b nn : Nat) (S : KeyP -> Prop) (w : World) (hBm : Bm < w.heap.size) (hm : w.cell? ⟨Bm, 0, none⟩ = some (.map (some b))) (hown : MapS Tryz.prog 73 w b nn S) (hnn : nn <= 1000000) :
  Calls Tryz.prog 65 #[.func (.func 67) #[] #[.pointer (some ⟨Bm, 0, none⟩)]] w fun e w' => ∃ (v : Value) (ss : List KeyP), e = .returned v /\ ss.length <= nn /\ (ss.Nodup /\ ∀ x, KeyZ x -> (x ∈ ss ↔ S x)) /\ w'.ownsRow w.heap.size 73 2 v ss.length (ss.flatMap keyC) /\ (∀ x ∈ ss, KeyZ x) /\ Below w.heap.size w w' := by
 obtain ⟨D0, hown, hS⟩ := hown
 have hsz := hown.size_le
 have hG : GivesK Fence.wide 4 67 #[.pointer (some ⟨Bm, 0, none⟩)] (fun ss => (∃ left, CollK D0 left ss /\ ∀ kl, left kl = false) /\ ss.length <= Maps.size D0) (Maps.size D0) w := fun l J W hW hJ hY h0 => by
  have hown' : W.ownsMap Tryz.prog 73 heldE b nn D0 := by
   have hbl := hown.lt
   obtain ⟨es, clock, hb, Ft, hs, hD⟩ := hown
   exact ⟨es, clock, (hW.block b hbl).trans hb, Ft, hs, hD⟩
  exact keys1_c Fence.wide 4 trivial rfl (by omega) l Bm b nn D0 J (fun pre x W' hz h1 h2 => hY pre x W' hz h1 h2) W hJ ((hW.cell (p := ⟨Bm, 0, none⟩) hBm).trans hm) hown' h0
 refine (callsIn_wide (n := 6)).1 ?_
 have cA := appendSeqK Fence.wide 5 trivial rfl (by omega) 67 #[.pointer (some ⟨Bm, 0, none⟩)] trivial (enters_of Tryz.func67 (by kernel_rfl) rfl) _ _ (by unfold maxLen; omega) (by omega) w hG
 have hfA : Fence.wide.fn 108 := trivial
 refine callsIn_of_wp Tryz.func65 rfl trivial ?_ rfl
 simp only [Tryz.ntmps65, List.size_toArray, List.length_cons, List.length_nil, Nat.reduceAdd, Nat.reduceSub, Array.replicate_succ, Array.replicate_zero, List.push_toArray, List.append_toArray, List.nil_append, List.cons_append]
 gi_wp2_with (gi_at_call 108; refine cA.mono ?_; rintro e w' ⟨v, ss, rfl, ⟨⟨left, hC, hl⟩, hle⟩, hrow, hz, hb⟩)
 go_ret
 exact ⟨v, ss, rfl, Nat.le_trans hle hsz, hC.done keysK hS hl, hrow, hz, hb⟩
set_option maxHeartbeats 2000000 in
set_option maxRecDepth 100000 in
theorem cmpor_c (g : Nat) (a b : Int) (w : World) (h : w.heap[g]? = some (.cells #[.int .i64 a, .int .i64 b] 3 (0, 0))) :
  Calls Tryz.prog 36 #[.slice (some ⟨g, 0, none⟩) 2 2] w fun e w' => e = .returned (.int .i64 (if a ≠ 0 then a else b)) /\ w' = w := by
 obtain ⟨x0, x1, -, -, -⟩ := box2 h
 clear h
 by_cases ha : a = 0
 ·subst ha
  rw [if_neg (fun k => k rfl)]
  by_cases hb : b = 0
  ·subst hb
   go_enter Tryz.func36, Tryz.ntmps36
   go_wp2
   go_rounds 3
   go_ret
   exact ⟨rfl, rfl⟩
  ·have hb2 : (b != 0) = true := by simpa using hb
   go_enter Tryz.func36, Tryz.ntmps36
   go_wp2
   go_rounds 2
   go_ret
   exact ⟨rfl, rfl⟩
 ·have ha2 : (a != 0) = true := by simpa using ha
  rw [if_pos ha]
  go_enter Tryz.func36, Tryz.ntmps36
  go_wp2
  go_rounds 1
  go_ret
  exact ⟨rfl, rfl⟩
set_option maxHeartbeats 2000000 in
set_option maxRecDepth 100000 in
theorem cmpk_c (x y : KeyP) (w : World) :
  Calls Tryz.prog 35 #[.agg #[.string x.tag, .string x.key], .agg #[.string y.tag, .string y.key]] w fun e w' => e = .returned (.int .i64 (cfK x y)) /\ ∃ q os', w' = grow (w.drewN q) os' := by
 obtain ⟨a, b⟩ := x
 obtain ⟨c, d⟩ := y
 obtain ⟨r, hr⟩ : ∃ r, Lib.compareBytes a.data.toList c.data.toList = r := ⟨_, rfl⟩
 obtain ⟨s, hs⟩ : ∃ s, Lib.compareBytes b.data.toList d.data.toList = s := ⟨_, rfl⟩
 have HC := Lib.hid (show cfK ⟨a, b⟩ ⟨c, d⟩ = if r ≠ 0 then r else s by rw [<- hr, <- hs]; rfl)
 have H1 := Lib.hid (fun w' => (Tryz.strings_Compare a c w'))
 have H2 := Lib.hid (fun w' => (Tryz.strings_Compare b d w'))
 rw [hr] at H1
 rw [hs] at H2
 have H3 := Lib.hid (fun g w' h => cmpor_c g r s w' h)
 obtain ⟨R, hR⟩ : ∃ R, cfK ⟨a, b⟩ ⟨c, d⟩ = R := ⟨_, rfl⟩
 have HR := Lib.hid (show (if r ≠ 0 then r else s) = R by rw [<- HC.out, hR])
 rw [HR.out] at H3
 simp only
 rw [hR]
 clear hr hs hR
 have hX := heap_old (heap_new w (.cells #[.string a, .string b] 73) rfl) (.cells #[.string c, .string d] 73)
 have hY := heap_new (w.alloc (.cells #[.string a, .string b] 73)) (.cells #[.string c, .string d] 73) (g := w.heap.size + 1) (by simp)
 have HW : Hid (∀ o, ∃ q os', (((w.alloc (.cells #[.string a, .string b] 73)).alloc (.cells #[.string c, .string d] 73)).alloc o).drew = grow (w.drewN q) os') := Lib.hid (fun o => ⟨1, #[_, _, _], by rw [alloc_eq_grow, alloc_eq_grow, alloc_eq_grow, grow_grow, grow_grow]; rfl⟩)
 have HZ : Hid (((w.alloc (.cells #[.string a, .string b] 73)).alloc (.cells #[.string c, .string d] 73)).heap.size = w.heap.size + 2) := Lib.hid (by simp)
 go_enter Tryz.func35, Tryz.ntmps35
 go_upto_region 1 with fail
 generalize (w.alloc (.cells #[.string a, .string b] 73)).alloc (.cells #[.string c, .string d] 73) = w1 at hX hY HW HZ ⊢
 obtain ⟨x0, x1, x2, x3, x4⟩ := box2 hX
 obtain ⟨y0, y1, y2, y3, y4⟩ := box2 hY
 have hz : ∀ o, (w1.drew.alloc o).heap[w1.drew.heap.size]? = some o := fun o => World.alloc_heap_new w1.drew o
 have HN := Lib.hid hz
 clear hz hX hY
 go_wp2_with fail
 go_region_held3 (fun w' : World => w'.cell? ⟨w.heap.size, 0, none⟩ = some (.string a) /\ w'.cell? ⟨w.heap.size, 1, none⟩ = some (.string b) /\ w'.cell? ⟨w.heap.size + 1, 0, none⟩ = some (.string c) /\ w'.cell? ⟨w.heap.size + 1, 1, none⟩ = some (.string d))
  (go_keep)
  (first
   | (go_at_call 37; first | (refine (H1.out _).mono ?_; rintro e w2 ⟨rfl, rfl⟩) | (refine (H2.out _).mono ?_; rintro e w2 ⟨rfl, rfl⟩))
   | (go_at_call 36; refine (H3.out _ _ (HN.out _)).mono ?_; rintro e w2 ⟨rfl, rfl⟩))
 go_wp2
 go_ret
 exact ⟨rfl, HW.out _⟩
end Go.Proofs.YtbnjejenejoibaaGreatDoor
namespace Go.Proofs.YtbnjejenejoibaaGreatDoor
open Go.RowKit Go.Maps Go.Shelf
open Go.Sort (flatK get_flatK size_flatK HoldsK putRowK size_putRowK SWO)
set_option linter.unusedVariables false
set_option linter.unusedSimpArgs false
theorem below_sortK {α : Type} [Inhabited α] {enc : α -> List Value} {k : Nat} {w : World} {base g n : Nat} {d : Array α} {os : Array Obj} (hg : base <= g) (hb : base <= w.heap.size) : Below base w (sortWorldK enc k w g 0 n d os) := by
 refine ⟨rfl, rfl, rfl, ?_, fun j hj => ?_⟩
 ·unfold sortWorldK
  rw [Sort.size_grow, size_putRowK]
  show w.heap.size <= w.heap.size + _
  omega
 ·show ((w.heap.modify g _) ++ os)[j]? = _
  rw [Array.getElem?_append_left (by simp; omega), Array.getElem?_modify, if_neg (by omega)]
def kyA (ks : List KeyP) (j : Nat) : KeyP := ks.getD j default
theorem kyA_get {ks : List KeyP} {j : Nat} (h : j < ks.length) : ks[j] = kyA ks j := by simp [kyA, List.getD_eq_getElem?_getD, h]
def keyVi (ks : List KeyP) (j i : Nat) : Value := match i with | 0 => .string (kyA ks j).tag | _ => .string (kyA ks j).key
theorem keyC_at : ∀ {r : List KeyP} {j : Nat}, j < r.length -> ∀ i, i < 2 -> (r.flatMap keyC)[j * 2 + i]? = some (keyVi r j i)
 | [], j, h, i, hi => by simp at h
 | s :: r, 0, h, i, hi => by
  match i, hi with
  | 0, _ => rfl
  | 1, _ => rfl
 | s :: r, j + 1, h, i, hi => by
  have ih := keyC_at (r := r) (j := j) (by simpa using h) i hi
  have e : ((s :: r).flatMap keyC)[(j + 1) * 2 + i]? = (r.flatMap keyC)[j * 2 + i]? := by
   show (keyC s ++ r.flatMap keyC)[(j + 1) * 2 + i]? = _
   rw [List.getElem?_append_right (by simp [keyC]; omega)]
   congr 1
   simp [keyC]
   omega
  rw [e, ih]
  unfold keyVi
  have : kyA (s :: r) (j + 1) = kyA r j := by simp [kyA]
  rw [this]
theorem flatK_at (ks : List KeyP) (t : Nat) (h : t < ks.length * 2) : (flatK keyC 2 ks.toArray)[t]! = keyVi ks (t / 2) (t % 2) := by
 rw [get_flatK _ _ _ _ (by simpa using h)]
 have h2 : t / 2 < ks.length := by omega
 have e : ks.toArray[t / 2]! = kyA ks (t / 2) := by simp [kyA, List.getD_eq_getElem?_getD, h2]
 rw [e]
 rcases Nat.mod_two_eq_zero_or_one t with h3 | h3
 ·rw [h3]; rfl
 ·rw [h3]; rfl
theorem holds_keys {w : World} {base g cap : Nat} {ks : List KeyP} (h : w.ownsRow base 73 2 (.slice (some ⟨g, 0, none⟩) ks.length cap) ks.length (ks.flatMap keyC)) : HoldsK keyC 2 w g 0 ks.toArray := by
 obtain ⟨-, h2⟩ := h
 rcases h2 with ⟨h2, -⟩ | ⟨g', cap', cur, hv, hb, hh, hn, hm, hs, ht⟩
 ·cases h2
 cases hv
 intro j hj
 have hj2 : j < ks.length * 2 := by simpa using hj
 have hc : cur[j]? = some (keyVi ks (j / 2) (j % 2)) := by
  have e := congrArg (fun l => l[j]?) ht
  simp only [List.getElem?_take, if_pos hj2] at e
  rw [show j = j / 2 * 2 + j % 2 by omega, keyC_at (by omega) _ (by omega)] at e
  rw [show j / 2 * 2 + j % 2 = j by omega] at e
  simpa using e
 refine ⟨?_, by simp [World.frozen?, hh]⟩
 rw [Nat.zero_add, cell_of_row _ _ _ _ _ _ hh, hc]
 show _ = some (id _)
 rw [flatK_at ks j hj2]; rfl
theorem rws_keys {w : World} {g : Nat} {ks : List KeyP} (hg : g < w.heap.size) (h : HoldsK keyC 2 w g 0 ks.toArray) : Rws w (some ⟨g, 0, none⟩) 2 ks.length (keyVi ks) := fun hn => by
 refine ⟨g, 0, rfl, hg, fun j hj i hi => ?_⟩
 obtain ⟨h1, -⟩ := h (j * 2 + i) (by simp; omega)
 rw [show 0 + j * 2 + i = 0 + (j * 2 + i) by omega, h1]
 show some (id _) = _
 rw [id, flatK_at ks _ (by omega), show (j * 2 + i) / 2 = j by omega, show (j * 2 + i) % 2 = i by omega]
theorem swoK : SWO (ltOf cfK) := ⟨fun x => ltK_irr x, fun x y z => ltK_tr x y z, fun x y z => ltK_ntr x y z⟩
set_option maxHeartbeats 2000000 in
theorem sortnil1_c (c : Nat) (fv : Value) (w : World) : Calls Tryz.prog 150 #[.slice none 0 c, .int .i64 0, .int .i64 0, fv] w fun e w' => e = .returned (.tuple #[]) /\ w' = w := by
 go_enter Tryz.func150, Tryz.ntmps150
 go_wp2
 refine wp_loop_rounds 1 ?_
 rw [rounds_succ]
 go_wp2
 go_end0
 exact ⟨rfl, rfl⟩
set_option maxHeartbeats 2000000 in
theorem sortnil2_c (c : Nat) (lim : Int) (fv : Value) (w : World) : Calls Tryz.prog 109 #[.slice none 0 c, .int .i64 0, .int .i64 0, .int .i64 lim, fv] w fun e w' => e = .returned (.tuple #[]) /\ w' = w := by
 go_enter Tryz.func109, Tryz.ntmps109
 go_wp2
 refine wp_loop_rounds 1 ?_
 rw [rounds_succ]
 go_wp2_with (go_at_call 150; refine (sortnil1_c _ _ _).mono ?_; rintro e w' ⟨rfl, rfl⟩)
 (try simp only [Exit.inBlock, Exit.then]); refine bodyPost_ret (results_none rfl _ _ _) rfl ?_
 exact ⟨rfl, rfl⟩
set_option maxHeartbeats 2000000 in
theorem sortnil_c (c : Nat) (fv : Value) (w : World) : Calls Tryz.prog 66 #[.slice none 0 c, fv] w fun e w' => e = .returned (.tuple #[]) /\ w' = w := by
 have hl : ∀ W, Calls Tryz.prog 110 #[.int .u64 0] W fun e w' => e = .returned (.int .i64 (Lib.bitLen 0 : Nat)) /\ w' = W := fun W => by
  have h := Any.bits_Len (SlLaysF0.n15.bits (P := Tryz.prog) (ρ := Tryz.srtK_ren) { Tryz.srtK with }) 0 W (by omega) (by omega)
  exact h
 go_enter Tryz.func66, Tryz.ntmps66
 go_wp2_with (first | (go_at_call 110; refine (hl _).mono ?_; rintro e w' ⟨rfl, rfl⟩) | (go_at_call 109; refine (sortnil2_c _ _ _ _).mono ?_; rintro e w' ⟨rfl, rfl⟩))
 go_end0
 exact ⟨rfl, rfl⟩
set_option maxHeartbeats 4000000 in
set_option maxRecDepth 100000 in
theorem sortf_c (Bm b nn : Nat) (S : KeyP -> Prop) (w : World) (hBm : Bm < w.heap.size) (hm : w.cell? ⟨Bm, 0, none⟩ = some (.map (some b))) (hown : MapS Tryz.prog 73 w b nn S) (hnn : nn <= 1000000) :
  Calls Tryz.prog 33 #[.func (.func 67) #[] #[.pointer (some ⟨Bm, 0, none⟩)], .func (.func 35) #[] #[]] w
   fun e w' => ∃ (A : Option Addr) (c : Nat) (ks : List KeyP), e = .returned (.slice A ks.length c) /\ (∃ ss : List KeyP, ss.Nodup /\ (∀ x, KeyZ x -> (x ∈ ss ↔ S x)) /\ (∀ x ∈ ss, KeyZ x) /\ ks = srtK ss) /\ ks.length <= nn /\ Rws w' A 2 ks.length (keyVi ks) /\ Below w.heap.size w w' := by
 have HCL := Lib.hid (collect_c Bm b nn S w hBm hm hown hnn)
 clear hm hown
 go_enter Tryz.func33, Tryz.ntmps33
 go_wp2_with fail
 refine HCL.out.mono ?_
 rintro _ w2 ⟨v, ss, rfl, hle, hS, hrow, hz, hb⟩
 clear HCL
 have HS := Lib.hid hS; have HZ := Lib.hid hz; have HB := Lib.hid hb
 have HLE := Lib.hid hle
 have h2 := hrow.2
 rcases h2 with ⟨rfl, hn⟩ | ⟨g, cap, cur, rfl, hg, hh, hnc, hcm, hsz, ht⟩
 ·have HN := Lib.hid (show srtK ss = [] by rw [List.length_eq_zero_iff.1 hn]; simp [srtK])
  clear hrow hS hz hb hn hBm hnn hle
  go_wp2_with fail
  refine (sortnil_c _ _ _).mono ?_
  rintro _ w3 ⟨rfl, rfl⟩
  go_wp2
  go_ret
  exact ⟨none, 0, srtK ss, by rw [HN.out]; rfl, ⟨ss, HS.out.1, HS.out.2, HZ.out, rfl⟩, by rw [HN.out]; exact Nat.zero_le _, by rw [HN.out]; exact fun h => absurd h (Nat.lt_irrefl _), HB.out⟩
 ·have hH := holds_keys hrow
  have hgl : g < w2.heap.size := (Array.getElem?_eq_some_iff.1 hh).1
  have hcon := AnyQ.slices_SortFunc (P := Tryz.prog) (ρ := Tryz.srtK_ren) Tryz.srtK 2 Tryz.isAgg73 Tryz.sizeOf73 keyC (fun _ => rfl) (fun x v hv => by simp [keyC] at hv; rcases hv with rfl | rfl <;> rfl) cfK swoK 35 #[] g 0 cap ss.toArray w2
   (enters_of Tryz.func35 (by kernel_rfl) rfl) (fun _ _ _ _ x y => cmpk_c x y _) hH hgl (by show ss.length < _; omega)
  change Calls Tryz.prog 66 _ _ _ at hcon
  have HCON := Lib.hid hcon
  have HH := Lib.hid hH
  clear hrow hS hz hb hh hnc hcm hsz ht hH hcon hBm hnn hle
  obtain ⟨nk, hnk⟩ : ∃ x, ss.length = x := ⟨_, rfl⟩
  have HNK := Lib.hid hnk
  rw [hnk]
  rw [show ss.toArray.size = nk from hnk] at HCON
  clear hnk
  go_wp2_with fail
  refine HCON.out.mono ?_
  rintro _ w3 ⟨rfl, d', n, os, hp, hs, hw3⟩
  have hd := Sort.sorted_unique_holds (lt := ltOf cfK) swoK (fun x y h1 h2 => ltK_anti h1 h2) ss.toArray d' (by show Sort.PermIn 0 ss.length ss.toArray d'; rw [HNK.out]; exact hp) (by show Sort.SortedIn _ 0 ss.length d'; rw [HNK.out]; exact hs)
  have HD := Lib.hid (show d'.toList = srtK ss from hd)
  have HL := Lib.hid (show (srtK ss).length = nk by rw [<- HNK.out]; exact (List.mergeSort_perm ss _).length_eq)
  have hds : d'.size = ss.toArray.size := by show d'.toList.length = ss.length; rw [HD.out, HL.out, HNK.out]
  have HH3 := Lib.hid (show HoldsK keyC 2 w3 g 0 (srtK ss).toArray by rw [<- HD.out, hw3]; exact holdsK_sortWorldK keyC 2 w2 g 0 n ss.toArray d' os hgl HH.out hds)
  have HB3 := Lib.hid (show Below w.heap.size w w3 by rw [hw3]; exact ⟨HB.out.os, HB.out.tape, HB.out.output, Nat.le_trans HB.out.size (below_sortK (w := w2) (enc := keyC) (k := 2) (n := n) (d := d') (os := os) hg HB.out.size).size, fun k hk => ((below_sortK (w := w2) (enc := keyC) (k := 2) (n := n) (d := d') (os := os) hg HB.out.size).block k hk).trans (HB.out.block k hk)⟩)
  have HG3 := Lib.hid (show g < w3.heap.size by rw [hw3]; exact Nat.lt_of_lt_of_le hgl (below_sortK (w := w2) (enc := keyC) (k := 2) (n := n) (d := d') (os := os) (base := 0) (Nat.zero_le _) (Nat.zero_le _)).size)
  clear hw3 hd hds hp hs hgl
  go_wp2
  go_ret
  exact ⟨some ⟨g, 0, none⟩, cap, srtK ss, by rw [HL.out]; rfl, ⟨ss, HS.out.1, HS.out.2, HZ.out, rfl⟩, by rw [HL.out, <- HNK.out]; exact HLE.out, rws_keys HG3.out HH3.out, HB3.out⟩
end Go.Proofs.YtbnjejenejoibaaGreatDoor
