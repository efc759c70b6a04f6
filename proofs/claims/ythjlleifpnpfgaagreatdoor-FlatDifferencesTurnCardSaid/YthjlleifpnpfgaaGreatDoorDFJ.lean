/- slices.AppendSeq and slices.Collect at keys of a tag and a key, over maps.Keys. -/
import Derived.Test.YthjlleifpnpfgaaGreatDoorDFG
import Derived.Test.YthjlleifpnpfgaaGreatDoorShelf
import Derived.Sort.Grow
import Derived.Deep.RegionHeld3
import Derived.Handy
-- merged: DFH DFI DFJ
namespace Go.Proofs.YthjlleifpnpfgaaGreatDoor
open Go.RowKit Go.Maps Go.Sort Go.Shelf
set_option linter.unusedVariables false
set_option linter.unusedSimpArgs false
def GivesK (F : Fence) (n : Nat) (g : Nat) (lb : Array Value) (S : List KeyP -> Prop) (N : Nat) (w : World) : Prop :=
 ∀ (l : Nat) (J : List KeyP -> World -> Prop) (W : World), Below w.heap.size w W -> AbidesFrom W.heap.size J ->
  (∀ pre x W', KeyZ x -> J pre W' -> pre.length < N -> YieldAt F (n - 1) Tryz.prog l #[keyV x] W' fun e W'' => e = .returned (.bool true) /\ J (pre ++ [x]) W'' /\ KeepsWalks W' W'') -> J [] W ->
  CallsIn F n Tryz.prog g (#[.func (.yield l) #[] #[]] ++ lb) W fun e W' => (∃ v, e = .returned v) /\ ∃ ss : List KeyP, S ss /\ J ss W'
set_option maxRecDepth 100000 in
set_option maxHeartbeats 2000000 in
theorem appendSeqK (F : Fence) (n : Nat) (h11 : F.fn 89) (hro : F.round = none) (hn : 2 <= n) (g : Nat) (lb : Array Value) (hFg : F.fn g) (eg : ∀ args w, (callFunc g args).run Tryz.prog w = .ok (.enter g args) w)
  (S : List KeyP -> Prop) (N : Nat) (hN : N <= maxLen) (hNb : N * 32 <= 140737488355328) (w : World) (hseq : GivesK F (n - 1) g lb S N w) :
  CallsIn F n Tryz.prog 89 #[.slice none 0 0, .func (.func g) #[] lb] w fun e w' => ∃ (v : Value) (ss : List KeyP), e = .returned v /\ S ss /\ w'.ownsRow w.heap.size 54 2 v ss.length (ss.flatMap keyC) /\ (∀ x ∈ ss, KeyZ x) /\ Below w.heap.size w w' := by
 have h1 : 1 <= n := by omega
 refine callsIn_of_wp_marks Tryz.func89 rfl h11 ?_ hro
 simp only [Tryz.ntmps89, List.size_toArray, List.length_cons, List.length_nil, Nat.reduceAdd, Nat.reduceSub, Array.replicate_succ, Array.replicate_zero, List.push_toArray, List.append_toArray, List.nil_append, List.cons_append]
 gi_wp2
 refine wpIn_rangeFunc ?_
 intro fn hfn
 rw [hro]
 obtain ⟨W0, hW0⟩ : ∃ W0, w.alloc (.cells #[.slice none 0 0] 59) = W0 := ⟨_, rfl⟩
 have hs0 : W0.heap.size = w.heap.size + 1 := by rw [<- hW0]; simp
 have hv0 : W0.heap[w.heap.size]? = some (.cells #[.slice none 0 0] 59 (0, 0)) := by rw [<- hW0]; exact World.alloc_heap_new w _
 have hb0 : Below w.heap.size w W0 := by rw [<- hW0]; exact (Below.refl _ w).alloc (Nat.le_refl _) _
 rw [hW0]
 obtain ⟨W1, hW1⟩ : ∃ W1, (W0.alloc (.deferred (some []))).alloc (.loop (apRecK fn (.func (.func g) #[] lb) w.heap.size W0.heap.size .ready none)) = W1 := ⟨_, rfl⟩
 have hold : ∀ k, k < W0.heap.size -> W1.heap[k]? = W0.heap[k]? := fun k hk => by
  rw [<- hW1]; exact (Below.heap_alloc _ _ k (by simp; omega)).trans (Below.heap_alloc _ _ k hk)
 have hb1 : Below w.heap.size w W1 := by rw [<- hW1]; exact (hb0.alloc hb0.size _).alloc (by have := hb0.size; simp; omega) _
 have hs1 : W1.heap.size = W0.heap.size + 2 := by rw [<- hW1]; simp
 have hM : ApAtK w fn (.func (.func g) #[] lb) w.heap.size (W0.heap.size + 1) W0.heap.size [] W1 :=
  ⟨⟨_, (hold w.heap.size (by omega)).trans hv0, ⟨rfl, .inl ⟨rfl, rfl⟩⟩⟩,
   by rw [<- hW1]; have := World.alloc_heap_new (W0.alloc (.deferred (some []))) (.loop (apRecK fn (.func (.func g) #[] lb) w.heap.size W0.heap.size .ready none)); rwa [World.size_alloc] at this,
   by rw [<- hW1]; exact (Below.heap_alloc _ _ _ (by simp)).trans (World.alloc_heap_new W0 _), hb1, fun x hx => by cases hx⟩
 refine ⟨W0.heap.size + 1, [{ target := .collected W0.heap.size, args := #[] }], W1, { target := .fn (.func g) lb, args := #[.func (.yield (W0.heap.size + 1)) #[] #[]] }, W1, g,
  #[.func (.yield (W0.heap.size + 1)) #[] #[]] ++ lb, W1, ?_, ?_, ?_, ?_, fun _ => h1, ?_⟩
 ·rw [<- hW1]; exact run_enterLoop_outer _ _ _ _ _
 ·simp [resolve, go_sem]
 ·intro f' hf'; simp [Target.leads] at hf'; subst hf'; exact hFg
 ·simp [invoke, go_sem, eg]
 ·refine (hseq (W0.heap.size + 1) (ApAtK w fn (.func (.func g) #[] lb) w.heap.size (W0.heap.size + 1) W0.heap.size) W1 hb1 (ap_abidesK _ _ _ _ _ _ _ hb1.size)
   (fun pre x W hz hJ hl => apYieldK F (n - 1 - 1) w fn hfn _ w.heap.size (W0.heap.size + 1) W0.heap.size (by omega) (by omega) (by omega) (Nat.le_refl _) (by omega) N hN hNb pre x hz W hJ hl) hM).mono ?_
  rintro e W2 ⟨⟨v0, rfl⟩, ss, hS, h2⟩
  obtain ⟨v, hv, hrow⟩ := h2.box
  have hend := run_endLoop (P := Tryz.prog) h2.L (by simp [apRecK])
  obtain ⟨W3, hW3⟩ : ∃ W3, W2.putObj (W0.heap.size + 1) (.loop { apRecK fn (.func (.func g) #[] lb) w.heap.size W0.heap.size .ready none with state := .exhausted }) = W3 := ⟨_, rfl⟩
  rw [hW3] at hend
  have hg3 : W2.grownBy W3 (some (W0.heap.size + 1)) := by rw [<- hW3]; exact grownBy_putObj_a _ _ _
  have hv3 : W3.heap[w.heap.size]? = some (.cells #[v] 59 (0, 0)) := by rw [<- hW3]; exact (World.putObj_heap_other (by omega)).trans hv
  have hK3 : W3.heap[W0.heap.size]? = some (.deferred (some [])) := by rw [<- hW3]; exact (World.putObj_heap_other (by omega)).trans h2.K
  have hrow3 := hrow.kept hg3 (ownsRow_ne_a hrow h2.L (fun cur e => by cases e))
  have hb3 : Below w.heap.size w W3 := h2.below.grown hg3 h2.below.size (fun k e => by cases e; omega)
  obtain ⟨hc3, hf3⟩ := cell_of_box_a hv3
  clear hW3
  refine ⟨none, W3, hend, ?_⟩
  gi_wp2
  rw [<- hs0]
  refine ⟨by simp, .inl ⟨_, _, rfl, run_takeDeferred hK3, ?_⟩⟩
  exact ⟨_, results_tmp rfl _ _ _, v, ss, rfl, hS, hrow3.kept (grownBy_putObj_a _ _ _) (ownsRow_ne_a hrow3 hK3 (fun cur e => by cases e)), h2.zs, hb3.grown (grownBy_putObj_a _ _ _) hb3.size (fun k e => by cases e; omega)⟩
theorem keys_c (mb : Option Nat) (w : World) : Calls Tryz.prog 25 #[.map mb] w fun e w' => e = .returned (.func (.func 60) #[] #[.pointer (some ⟨w.heap.size, 0, none⟩)]) /\ w' = w.alloc (.cells #[.map mb] 49) := by
 go_enter Tryz.func25, Tryz.ntmps25
 go_wp2
 go_ret
 exact ⟨rfl, rfl⟩
set_option maxRecDepth 100000 in
set_option maxHeartbeats 2000000 in
theorem collect_c (Bm b nn : Nat) (S : KeyP -> Prop) (w : World) (hBm : Bm < w.heap.size) (hm : w.cell? ⟨Bm, 0, none⟩ = some (.map (some b))) (hown : MapS Tryz.prog 54 w b nn S) (hnn : nn <= 1000000) :
  Calls Tryz.prog 58 #[.func (.func 60) #[] #[.pointer (some ⟨Bm, 0, none⟩)]] w fun e w' => ∃ (v : Value) (ss : List KeyP), e = .returned v /\ ss.length <= nn /\ (ss.Nodup /\ ∀ x, KeyZ x -> (x ∈ ss ↔ S x)) /\ w'.ownsRow w.heap.size 54 2 v ss.length (ss.flatMap keyC) /\ (∀ x ∈ ss, KeyZ x) /\ Below w.heap.size w w' := by
 obtain ⟨D0, hown, hS⟩ := hown
 have hsz := hown.size_le
 have hG : GivesK Fence.wide 4 60 #[.pointer (some ⟨Bm, 0, none⟩)] (fun ss => (∃ left, CollK D0 left ss /\ ∀ kl, left kl = false) /\ ss.length <= Maps.size D0) (Maps.size D0) w := fun l J W hW hJ hY h0 => by
  have hown' : W.ownsMap Tryz.prog 54 heldE b nn D0 := by
   have hbl := hown.lt
   obtain ⟨es, clock, hb, Ft, hs, hD⟩ := hown
   exact ⟨es, clock, (hW.block b hbl).trans hb, Ft, hs, hD⟩
  exact keys1_c Fence.wide 4 trivial rfl (by omega) l Bm b nn D0 J (fun pre x W' hz h1 h2 => hY pre x W' hz h1 h2) W hJ ((hW.cell (p := ⟨Bm, 0, none⟩) hBm).trans hm) hown' h0
 refine (callsIn_wide (n := 6)).1 ?_
 have cA := appendSeqK Fence.wide 5 trivial rfl (by omega) 60 #[.pointer (some ⟨Bm, 0, none⟩)] trivial (enters_of Tryz.func60 (by kernel_rfl) rfl) _ _ (by unfold maxLen; omega) (by omega) w hG
 have hfA : Fence.wide.fn 89 := trivial
 refine callsIn_of_wp Tryz.func58 rfl trivial ?_ rfl
 simp only [Tryz.ntmps58, List.size_toArray, List.length_cons, List.length_nil, Nat.reduceAdd, Nat.reduceSub, Array.replicate_succ, Array.replicate_zero, List.push_toArray, List.append_toArray, List.nil_append, List.cons_append]
 gi_wp2_with (gi_at_call 89; refine cA.mono ?_; rintro e w' ⟨v, ss, rfl, ⟨⟨left, hC, hl⟩, hle⟩, hrow, hz, hb⟩)
 go_ret
 exact ⟨v, ss, rfl, Nat.le_trans hle hsz, hC.done keysK hS hl, hrow, hz, hb⟩
set_option maxHeartbeats 2000000 in
set_option maxRecDepth 100000 in
theorem cmpor_c (g : Nat) (a b : Int) (w : World) (h : w.heap[g]? = some (.cells #[.int .i64 a, .int .i64 b] 3 (0, 0))) :
  Calls Tryz.prog 27 #[.slice (some ⟨g, 0, none⟩) 2 2] w fun e w' => e = .returned (.int .i64 (if a ≠ 0 then a else b)) /\ w' = w := by
 obtain ⟨x0, x1, -, -, -⟩ := box2 h
 clear h
 by_cases ha : a = 0
 ·subst ha
  rw [if_neg (fun k => k rfl)]
  by_cases hb : b = 0
  ·subst hb
   go_enter Tryz.func27, Tryz.ntmps27
   go_wp2
   go_rounds 3
   go_ret
   exact ⟨rfl, rfl⟩
  ·have hb2 : (b != 0) = true := by simpa using hb
   go_enter Tryz.func27, Tryz.ntmps27
   go_wp2
   go_rounds 2
   go_ret
   exact ⟨rfl, rfl⟩
 ·have ha2 : (a != 0) = true := by simpa using ha
  rw [if_pos ha]
  go_enter Tryz.func27, Tryz.ntmps27
  go_wp2
  go_rounds 1
  go_ret
  exact ⟨rfl, rfl⟩
set_option maxHeartbeats 2000000 in
set_option maxRecDepth 100000 in
theorem cmpk_c (x y : KeyP) (w : World) :
  Calls Tryz.prog 26 #[.agg #[.string x.tag, .string x.key], .agg #[.string y.tag, .string y.key]] w fun e w' => e = .returned (.int .i64 (cfK x y)) /\ ∃ q os', w' = grow (w.drewN q) os' := by
 obtain ⟨a, b⟩ := x
 obtain ⟨c, d⟩ := y
 obtain ⟨r, hr⟩ : ∃ r, Lib.compareBytes a.data.toList c.data.toList = r := ⟨_, rfl⟩
 obtain ⟨s, hs⟩ : ∃ s, Lib.compareBytes b.data.toList d.data.toList = s := ⟨_, rfl⟩
 have HC := Lib.hid (show cfK ⟨a, b⟩ ⟨c, d⟩ = if r ≠ 0 then r else s by rw [<- hr, <- hs]; rfl)
 have H1 := Lib.hid (fun w' => (Tryz.strings_Compare a c w'))
 have H2 := Lib.hid (fun w' => (Tryz.strings_Compare b d w'))
 rw [hr] at H1
 rw [hs] at H2
 have H3 := Lib.hid (fun g w' h => cmpor_c g r s w' h)
 obtain ⟨R, hR⟩ : ∃ R, cfK ⟨a, b⟩ ⟨c, d⟩ = R := ⟨_, rfl⟩
 have HR := Lib.hid (show (if r ≠ 0 then r else s) = R by rw [<- HC.out, hR])
 rw [HR.out] at H3
 simp only
 rw [hR]
 clear hr hs hR
 have hX := heap_old (heap_new w (.cells #[.string a, .string b] 54) rfl) (.cells #[.string c, .string d] 54)
 have hY := heap_new (w.alloc (.cells #[.string a, .string b] 54)) (.cells #[.string c, .string d] 54) (g := w.heap.size + 1) (by simp)
 have HW : Hid (∀ o, ∃ q os', (((w.alloc (.cells #[.string a, .string b] 54)).alloc (.cells #[.string c, .string d] 54)).alloc o).drew = grow (w.drewN q) os') := Lib.hid (fun o => ⟨1, #[_, _, _], by rw [alloc_eq_grow, alloc_eq_grow, alloc_eq_grow, grow_grow, grow_grow]; rfl⟩)
 have HZ : Hid (((w.alloc (.cells #[.string a, .string b] 54)).alloc (.cells #[.string c, .string d] 54)).heap.size = w.heap.size + 2) := Lib.hid (by simp)
 go_enter Tryz.func26, Tryz.ntmps26
 go_upto_region 1 with fail
 generalize (w.alloc (.cells #[.string a, .string b] 54)).alloc (.cells #[.string c, .string d] 54) = w1 at hX hY HW HZ ⊢
 obtain ⟨x0, x1, x2, x3, x4⟩ := box2 hX
 obtain ⟨y0, y1, y2, y3, y4⟩ := box2 hY
 have hz : ∀ o, (w1.drew.alloc o).heap[w1.drew.heap.size]? = some o := fun o => World.alloc_heap_new w1.drew o
 have HN := Lib.hid hz
 clear hz hX hY
 go_wp2_with fail
 go_region_held3 (fun w' : World => w'.cell? ⟨w.heap.size, 0, none⟩ = some (.string a) /\ w'.cell? ⟨w.heap.size, 1, none⟩ = some (.string b) /\ w'.cell? ⟨w.heap.size + 1, 0, none⟩ = some (.string c) /\ w'.cell? ⟨w.heap.size + 1, 1, none⟩ = some (.string d))
  (go_keep)
  (first
   | (go_at_call 28; first | (refine (H1.out _).mono ?_; rintro e w2 ⟨rfl, rfl⟩) | (refine (H2.out _).mono ?_; rintro e w2 ⟨rfl, rfl⟩))
   | (go_at_call 27; refine (H3.out _ _ (HN.out _)).mono ?_; rintro e w2 ⟨rfl, rfl⟩))
 go_wp2
 go_ret
 exact ⟨rfl, HW.out _⟩
end Go.Proofs.YthjlleifpnpfgaaGreatDoor
