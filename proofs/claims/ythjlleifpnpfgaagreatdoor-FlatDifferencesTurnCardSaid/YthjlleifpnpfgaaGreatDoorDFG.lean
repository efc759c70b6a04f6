
/- The walk of slices.AppendSeq at keys of a tag and a key, against an iterator that gives them. -/
import Derived.Test.YthjlleifpnpfgaaGreatDoorDFM
namespace Go.Proofs.YthjlleifpnpfgaaGreatDoor
open Go.RowKit Go.Maps Go.Sort Go.Shelf
set_option linter.unusedVariables false
set_option linter.unusedSimpArgs false
theorem infoKy : (Tryz.prog.info? 54).map (fun i => (i.zero, i.size, i.bytes)) = some (some (.agg #[.string ⟨#[]⟩, .string ⟨#[]⟩]), 2, 32) := by kernel_rfl
theorem zk_cellsK (w : World) (us : List Value) (t : TypeId) : ∀ j x, us[j]? = some x -> (w.alloc (.cells us.toArray t)).cell? ((⟨w.heap.size, 0, none⟩ : Addr).add j) = some x := by
 intro j x hj
 rw [Addr.add_lit, cell_of_row _ _ _ _ _ _ (heap_alloc_new w _)]
 simpa using hj
def keyC (k : KeyP) : List Value := [.string k.tag, .string k.key]
def apAssignK : Code := Code.region 2 #[{ dst := some 5, op := Op.alloc 54, type := 0, pos := "iter.go:51", after := #[], guard := none }, { dst := none, op := Op.store 54 (Operand.tmp 5) (Operand.tmp 7), type := 0, pos := "iter.go:51", after := #[{ on := 0, ground := Ground.data }, { on := 0, ground := Ground.phase }], guard := none }] false
def apBodyK : Code := Code.block 1 (Code.region 3 #[{ dst := some 8, op := Op.load 59 (Operand.tmp 2), type := 59, pos := "iter.go:52", after := #[], guard := none }, { dst := some 9, op := Op.load 54 (Operand.tmp 5), type := 54, pos := "iter.go:52", after := #[], guard := none }, { dst := some 10, op := Op.buildSlice 59 1 #[(0, Operand.tmp 9)], type := 59, pos := "iter.go:52", after := #[{ on := 1, ground := Ground.data }], guard := none }, { dst := some 11, op := Op.call { callee := Callee.builtin Builtin.append, args := #[Operand.tmp 8, Operand.tmp 10], argTypes := #[59, 59] }, type := 59, pos := "iter.go:52", after := #[{ on := 0, ground := Ground.data }, { on := 2, ground := Ground.data }], guard := none }, { dst := none, op := Op.store 59 (Operand.tmp 2) (Operand.tmp 11), type := 0, pos := "iter.go:52", after := #[{ on := 3, ground := Ground.data }, { on := 3, ground := Ground.chain }, { on := 0, ground := Ground.phase }, { on := 1, ground := Ground.phase }, { on := 2, ground := Ground.phase }, { on := 3, ground := Ground.phase }], guard := none }] false)
def apRecK (fn : FuncId) (sv : Value) (Bs D : Nat) (st : LoopState) (pend : Option Code) : Loop :=
 { state := st, pending := pend, fn, tmps := #[.slice none 0 0, sv, .pointer (some ⟨Bs, 0, none⟩), undef, .slice none 0 0, undef, sv, undef, undef, undef, undef, undef, undef], params := #[7], assign := apAssignK, body := apBodyK, defers := D }
structure ApAtK (w0 : World) (fn : FuncId) (sv : Value) (Bs l D : Nat) (ss : List KeyP) (W : World) : Prop where
 box : ∃ v, W.heap[Bs]? = some (.cells #[v] 59 (0, 0)) /\ W.ownsRow w0.heap.size 54 2 v ss.length (ss.flatMap keyC)
 L : W.heap[l]? = some (.loop (apRecK fn sv Bs D .ready none))
 K : W.heap[D]? = some (.deferred (some []))
 below : Below w0.heap.size w0 W
 zs : ∀ x ∈ ss, KeyZ x
theorem ap_abidesK (w0 : World) (fn : FuncId) (sv : Value) (Bs l D B : Nat) (hB : w0.heap.size <= B) : AbidesFrom B (ApAtK w0 fn sv Bs l D) := fun s W W' row h hg hrow => by
 have hrow' : ∀ r, row = some r -> ∃ o : Obj, W.heap[r]? = some o /\ o.isWalk = true := fun r e => (hrow r e).2
 obtain ⟨v, hv, hr⟩ := h.box
 exact ⟨⟨v, (grownBy_keeps hg hrow' hv rfl).trans hv, ownsRow_abides_a hr hg hrow'⟩, (grownBy_keeps hg hrow' h.L rfl).trans h.L, (grownBy_keeps hg hrow' h.K rfl).trans h.K,
  h.below.grown hg h.below.size (fun k e => Nat.le_trans hB (hrow k e).1), h.zs⟩
set_option maxRecDepth 100000 in
set_option maxHeartbeats 2000000 in
theorem apYieldK (F : Fence) (m : Nat) (w0 : World) (fn : FuncId) (hfn : F.fn fn) (sv : Value) (Bs l D : Nat) (hBl : Bs ≠ l) (hDl : D ≠ l) (hDB : D ≠ Bs) (h0B : w0.heap.size <= Bs) (h0l : w0.heap.size <= l)
  (N : Nat) (hN : N <= maxLen) (hNb : N * 32 <= 140737488355328) (ss : List KeyP) (x : KeyP) (hx : KeyZ x) (W : World) (h : ApAtK w0 fn sv Bs l D ss W) (hlen : ss.length < N) :
  YieldAt F m Tryz.prog l #[keyV x] W fun e W' => e = .returned (.bool true) /\ ApAtK w0 fn sv Bs l D (ss ++ [x]) W' /\ KeepsWalks W W' := by
 obtain ⟨i0, hi, hz0, hz1, hz2⟩ := info_parts infoKy
 obtain ⟨v, hv, hrow⟩ := h.box
 refine ⟨fn, #[.slice none 0 0, sv, .pointer (some ⟨Bs, 0, none⟩), undef, .slice none 0 0, undef, sv, keyV x, undef, undef, undef, undef, undef], apAssignK, apBodyK, by simpa [apRecK] using run_yield (P := Tryz.prog) (args := #[keyV x]) h.L rfl, roundIn_of_wpIn hfn ?_⟩
 obtain ⟨tg, ky⟩ := x
 obtain ⟨W1, hW1⟩ : ∃ W1, W.alloc (.cells #[.string tg, .string ky] 54) = W1 := ⟨_, rfl⟩
 have hl0 : l < W.heap.size := (Array.getElem?_eq_some_iff.1 h.L).1
 have hB0 : Bs < W.heap.size := (Array.getElem?_eq_some_iff.1 hv).1
 have hD0 : D < W.heap.size := (Array.getElem?_eq_some_iff.1 h.K).1
 have hg1 : W.grownBy W1 none := by rw [<- hW1]; exact World.grownBy_alloc W _ none
 have hk1 : KeepsWalks W W1 := by rw [<- hW1]; exact KeepsWalks.alloc _ _
 have hX1 : W1.heap[W.heap.size]? = some (.cells #[.string tg, .string ky] 54) := by rw [<- hW1]; exact World.alloc_heap_new W _
 have hL1 : W1.heap[l]? = some (.loop (apRecK fn sv Bs D .ready none)) := (hg1.block l hl0 (by simp)).trans h.L
 have hv1 : W1.heap[Bs]? = some (.cells #[v] 59 (0, 0)) := (hg1.block Bs hB0 (by simp)).trans hv
 have hK1 : W1.heap[D]? = some (.deferred (some [])) := (hg1.block D hD0 (by simp)).trans h.K
 have hrow1 : W1.ownsRow w0.heap.size 54 2 v ss.length (ss.flatMap keyC) := by rw [<- hW1]; exact hrow.alloc _
 have hb1 : Below w0.heap.size w0 W1 := h.below.grown hg1 h.below.size (fun k e => by cases e)
 have hl : l < W1.heap.size := (Array.getElem?_eq_some_iff.1 hL1).1
 have hbr := run_beginRound (P := Tryz.prog) hL1 rfl
 obtain ⟨W2, hW2⟩ : ∃ W2, W1.putObj l (.loop { apRecK fn sv Bs D .ready none with state := .busy }) = W2 := ⟨_, rfl⟩
 rw [hW2] at hbr
 have hgl : W.heap.size ≠ l := by omega
 have hg2 : W1.grownBy W2 (some l) := by rw [<- hW2]; exact grownBy_putObj_a _ _ _
 have hk2 : KeepsWalks W W2 := hk1.trans (by rw [<- hW2]; exact KeepsWalks.putObj _ hL1 rfl)
 have hv2 : W2.heap[Bs]? = some (.cells #[v] 59 (0, 0)) := by rw [<- hW2]; exact (World.putObj_heap_other hBl).trans hv1
 have hX2 : W2.heap[W.heap.size]? = some (.cells #[.string tg, .string ky] 54) := by rw [<- hW2]; exact (World.putObj_heap_other hgl).trans hX1
 have hK2 : W2.heap[D]? = some (.deferred (some [])) := by rw [<- hW2]; exact (World.putObj_heap_other hDl).trans hK1
 have hL2 : W2.heap[l]? = some (.loop { apRecK fn sv Bs D .ready none with state := .busy }) := by rw [<- hW2]; exact World.putObj_heap_same hl
 have hrow2 : W2.ownsRow w0.heap.size 54 2 v ss.length (ss.flatMap keyC) := hrow1.kept hg2 (ownsRow_ne_a hrow1 hL1 (fun cur e => by cases e))
 have hb2 : Below w0.heap.size w0 W2 := hb1.grown hg2 hb1.size (fun k e => by cases e; exact h0l)
 obtain ⟨hc2, hf2⟩ := cell_of_box_a hv2
 obtain ⟨x0, x1, x2, x3, x4⟩ := box2 hX2
 have hBlt : Bs < W2.heap.size := (Array.getElem?_eq_some_iff.1 hv2).1
 have hl2 : l < W2.heap.size := (Array.getElem?_eq_some_iff.1 hL2).1
 have hDlt : D < W2.heap.size := (Array.getElem?_eq_some_iff.1 hK2).1
 have ne_of : ∀ {j : Nat} {o : Obj}, W2.heap[j]? = some o -> (∀ cur, o ≠ .cells cur 54 (0, 0)) -> some j ≠ v.ownBlock := fun hj hno => by
  rcases ownsRow_ne_a hrow2 hj hno with e | e
  ·rw [e]; simp
  ·exact fun e' => e e'.symm
 clear hW2 hX2
 unfold apAssignK keyV
 gi_wp2_with gi_round_op_a
 unfold apBodyK
 gi_wp2_with (first
  | (gi_at_builtin; refine wpListIn_append_own _ rfl _ _ 59 rfl w0.heap.size 54 i0 (.agg #[.string ⟨#[]⟩, .string ⟨#[]⟩]) 2 32 Tryz.underlying59 hi hz0 hz1 hz2 rfl (by decide) _ _ _ rfl (hrow2.alloc _) ⟨W2.heap.size, 0, none⟩ 1 1 [.string tg, .string ky] rfl rfl (zk_cellsK W2 [.string tg, .string ky] 54) (by intro u hu; simp at hu; rcases hu with rfl | rfl <;> rfl) (by omega) (by omega) (by have := hb2.size; simp; omega) ?_; intro v' w3 hown' hg3 hnil3
     have hv3 : w3.heap[Bs]? = some (.cells #[v] 59 (0, 0)) := (hg3.block Bs (by simp; omega) (ne_of hv2 (fun cur e => by cases e))).trans ((Below.heap_alloc _ _ Bs hBlt).trans hv2)
     obtain ⟨hc3, hf3⟩ := cell_of_box_a hv3
     obtain ⟨g', cap', rfl⟩ : ∃ g' cap', v' = .slice (some ⟨g', 0, none⟩) (ss.length + 1) cap' := by
       rcases hown'.2 with ⟨_, h0⟩ | ⟨g', cap', cur', e, _⟩
       · exact absurd h0 (by omega)
       · exact ⟨g', cap', e⟩
     go_frame)
  | gi_round_op_a)
 have hg3' : (W2.alloc (.cells #[.string tg, .string ky] 54)).grownBy w3 v.ownBlock := hg3
 have hL3 : w3.heap[l]? = some (.loop { apRecK fn sv Bs D .ready none with state := .busy }) := (hg3'.block l (by simp; omega) (ne_of hL2 (fun cur e => by cases e))).trans ((Below.heap_alloc _ _ l hl2).trans hL2)
 have hK3 : w3.heap[D]? = some (.deferred (some [])) := (hg3'.block D (by simp; omega) (ne_of hK2 (fun cur e => by cases e))).trans ((Below.heap_alloc _ _ D hDlt).trans hK2)
 obtain ⟨w4, hw4⟩ : ∃ w4, w3.setCell ⟨Bs, 0, none⟩ (.slice (some ⟨g', 0, none⟩) (ss.length + 1) cap') = w4 := ⟨_, rfl⟩
 rw [hw4]
 have hg4 : w3.grownBy w4 (some Bs) := by rw [<- hw4]; exact grownBy_setCell0_a _ _ _
 have hv4 : w4.heap[Bs]? = some (.cells #[.slice (some ⟨g', 0, none⟩) (ss.length + 1) cap'] 59 (0, 0)) := by rw [<- hw4]; exact heap_setCell_box_a _ hv3
 have hL4 : w4.heap[l]? = some (.loop { apRecK fn sv Bs D .ready none with state := .busy }) := (hg4.block l (Array.getElem?_eq_some_iff.1 hL3).1 (fun e => hBl (by cases e; rfl))).trans hL3
 have hK4 : w4.heap[D]? = some (.deferred (some [])) := (hg4.block D (Array.getElem?_eq_some_iff.1 hK3).1 (fun e => hDB (by cases e; rfl))).trans hK3
 have hrow4 := hown'.kept hg4 (ownsRow_ne_a hown' hv3 (fun cur e => by cases e))
 have hl4 : l < w4.heap.size := (Array.getElem?_eq_some_iff.1 hL4).1
 have hb3 : Below w0.heap.size w0 w3 := (hb2.alloc hb2.size _).grown hg3' (by have := hb2.size; simp; omega) (fun k e => (hrow2.lt k e).1)
 have hb4 : Below w0.heap.size w0 w4 := hb3.grown hg4 hb3.size (fun k e => by cases e; exact h0B)
 have hk4 : KeepsWalks W w4 := ((hk2.trans (KeepsWalks.alloc _ _)).trans (KeepsWalks.of_grownBy hg3' (ownsRow_not_walk_a (hrow2.alloc _)))).trans (by rw [<- hw4]; exact KeepsWalks.setCell _ _ _)
 clear hw4
 refine ⟨_, _, run_endRound none hL4, rfl, ⟨⟨_, (World.putObj_heap_other hBl).trans hv4, ?_⟩, World.putObj_heap_same hl4, (World.putObj_heap_other hDl).trans hK4, hb4.grown (grownBy_putObj_a _ _ _) hb4.size (fun k e => by cases e; exact h0l), ?_⟩, hk4.trans (KeepsWalks.putObj _ hL4 rfl)⟩
 ·have := hrow4.kept (grownBy_putObj_a w4 l (.loop { { apRecK fn sv Bs D .ready none with state := .busy } with state := if (none : Option Code).isNone then .ready else .done, pending := none })) (ownsRow_ne_a hrow4 hL4 (fun cur e => by cases e))
  simpa [keyC] using this
 ·intro y hy
  rcases List.mem_append.1 hy with q | q
  ·exact h.zs y q
  ·simp at q
   subst q
   exact hx
end Go.Proofs.YthjlleifpnpfgaaGreatDoor
