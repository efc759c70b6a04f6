
/- The law AmountReadsMatchSpec is walked. -/
import Derived.Test.YtmeefinnefanpaaDoorT20
namespace Go.Proofs.YtmeefinnefanpaaDoor
open Go.RowKit Limb
set_option linter.unusedVariables false
set_option linter.unusedSimpArgs false

theorem tfar2 {w : World} {g k : Nat} {u v : Value} {o : Obj} (h : w.heap[g]? = some o) (hne : g ≠ k) : ((w.setCell ⟨k, 0, none⟩ u).setCell ⟨k, 1, none⟩ v).heap[g]? = some o :=
  heap_far (heap_far h (p := ⟨k, 0, none⟩) hne u) (p := ⟨k, 1, none⟩) hne v

set_option maxHeartbeats 4000000 in
set_option maxRecDepth 100000 in
theorem law_reads (s : ByteArray) (p : Int) (pt gr : UInt8) (w : World) (hs : s.size ≤ 140737488355328) (hl : Len w) :
    Calls Tryd.prog 3 #[.string s, .int .i64 p, .int .u8 (pt.toNat : Int), .int .u8 (gr.toNat : Int)] w fun e w' => e = .returned (.bool true) ∧ Below w.heap.size w w' := by
  obtain ⟨⟨a1, a2, a3⟩, hA⟩ : ∃ x, readText s.data.toList = x := ⟨_, rfl⟩
  obtain ⟨⟨b1, b2, b3⟩, hB⟩ : ∃ x, readImp s.data.toList p = x := ⟨_, rfl⟩
  obtain ⟨⟨d1, d2, d3⟩, hD⟩ : ∃ x, readGrpM s.data.toList pt gr = x := ⟨_, rfl⟩
  have H1 := Lib.hid (fun w => readtext_c s w (by omega))
  have H2 := Lib.hid (fun w => rreadtext_c s w (by omega))
  have H3 := Lib.hid (fun w => wreadimp_c s p w (by omega))
  have H4 := Lib.hid (fun w => rreadimp_c s p w (by omega))
  have H5 := Lib.hid (fun w => wreadgrp_c s pt gr w hs)
  have H6 := Lib.hid (fun w hl => rreadgrp_c s pt gr w hs hl)
  rw [hA] at H1 H2
  rw [hB] at H3 H4
  rw [hD] at H5 H6
  have HL := Lib.hid hl
  clear hA hB hD hl
  go_enter Tryd.func3, Tryd.ntmps3
  go_wp2_with fail
  refine (H1.out _).mono ?_
  rintro e w1 ⟨rfl, c1⟩
  go_wp2_with fail
  have hX2 := heap_new w1 (.cells #[.int .i64 a1, .int .i64 a2] 23) rfl
  have b2' : Below w.heap.size w (w1.alloc (.cells #[.int .i64 a1, .int .i64 a2] 23)) := below_then (by go_grown : Below w1.heap.size w1 _) c1 c1.size
  have hz1 := c1.size
  clear c1
  obtain ⟨X, hXe⟩ : ∃ X, w1.heap.size = X := ⟨_, rfl⟩
  rw [hXe] at hX2 hz1 ⊢
  generalize w1.alloc (.cells #[.int .i64 a1, .int .i64 a2] 23) = w2 at hX2 b2' ⊢
  clear hXe
  refine (H2.out _).mono ?_
  rintro e w3 ⟨rfl, c3⟩
  have b3' := below_then c3 b2' b2'.size
  have hX3 := heap_below hX2 c3
  clear c3 hX2 b2'
  obtain ⟨x0, x1, -, -, x4⟩ := box2 hX3
  go_wp2_with fail
  have hY4 := heap_new w3 (.cells #[.int .i64 a1, .int .i64 a2] 23) rfl
  have hX4 := heap_old hX3 (.cells #[.int .i64 a1, .int .i64 a2] 23)
  have b4' : Below w.heap.size w (w3.alloc (.cells #[.int .i64 a1, .int .i64 a2] 23)) := below_then (by go_grown : Below w3.heap.size w3 _) b3' b3'.size
  have hzY := b3'.size
  obtain ⟨Y, hYe⟩ : ∃ Y, w3.heap.size = Y := ⟨_, rfl⟩
  rw [hYe] at hY4 hzY x4 ⊢
  generalize w3.alloc (.cells #[.int .i64 a1, .int .i64 a2] 23) = w4 at hX4 hY4 b4' ⊢
  clear hX3 hYe x0 x1 b3'
  refine (H3.out _).mono ?_
  rintro e w5 ⟨rfl, c5⟩
  have b5' := below_then c5 b4' b4'.size
  have hX5 := heap_below hX4 c5
  have hY5 := heap_below hY4 c5
  clear c5 hX4 hY4 b4'
  obtain ⟨x0, x1, x2, x3, -⟩ := box2 hX5
  obtain ⟨y0, y1, y2, y3, -⟩ := box2 hY5
  go_wp2_with fail
  have hX6 := tstore2 hX5 (u := .int .i64 b1) (v := .int .i64 b2)
  have hY6 := tfar2 hY5 (k := X) (u := .int .i64 b1) (v := .int .i64 b2) (by omega)
  have b6' : Below w.heap.size w ((w5.setCell ⟨X, 0, none⟩ (.int .i64 b1)).setCell ⟨X, 1, none⟩ (.int .i64 b2)) := (b5'.setCell (p := ⟨X, 0, none⟩) hz1 _).setCell (p := ⟨X, 1, none⟩) hz1 _
  generalize (w5.setCell ⟨X, 0, none⟩ (.int .i64 b1)).setCell ⟨X, 1, none⟩ (.int .i64 b2) = w6 at hX6 hY6 b6' ⊢
  clear hX5 hY5 b5' x0 x1 x2 x3 y0 y1 y2 y3
  refine (H4.out _).mono ?_
  rintro e w7 ⟨rfl, c7⟩
  have b7' := below_then c7 b6' b6'.size
  have hX7 := heap_below hX6 c7
  have hY7 := heap_below hY6 c7
  clear c7 hX6 hY6 b6'
  obtain ⟨x0, x1, x2, x3, -⟩ := box2 hX7
  obtain ⟨y0, y1, y2, y3, -⟩ := box2 hY7
  go_wp2_with fail
  have hX8 := tfar2 hX7 (k := Y) (u := .int .i64 b1) (v := .int .i64 b2) (by omega)
  have hY8 := tstore2 hY7 (u := .int .i64 b1) (v := .int .i64 b2)
  have b8' : Below w.heap.size w ((w7.setCell ⟨Y, 0, none⟩ (.int .i64 b1)).setCell ⟨Y, 1, none⟩ (.int .i64 b2)) := (b7'.setCell (p := ⟨Y, 0, none⟩) hzY _).setCell (p := ⟨Y, 1, none⟩) hzY _
  generalize (w7.setCell ⟨Y, 0, none⟩ (.int .i64 b1)).setCell ⟨Y, 1, none⟩ (.int .i64 b2) = w8 at hX8 hY8 b8' ⊢
  clear hX7 hY7 b7' x0 x1 x2 x3 y0 y1 y2 y3
  refine (H5.out _).mono ?_
  rintro e w9 ⟨rfl, c9⟩
  have b9' := below_then c9 b8' b8'.size
  have hX9 := heap_below hX8 c9
  have hY9 := heap_below hY8 c9
  clear c9 hX8 hY8 b8'
  obtain ⟨x0, x1, x2, x3, -⟩ := box2 hX9
  obtain ⟨y0, y1, y2, y3, -⟩ := box2 hY9
  go_wp2_with fail
  have hX10 := tstore2 hX9 (u := .int .i64 d1) (v := .int .i64 d2)
  have hY10 := tfar2 hY9 (k := X) (u := .int .i64 d1) (v := .int .i64 d2) (by omega)
  have b10' : Below w.heap.size w ((w9.setCell ⟨X, 0, none⟩ (.int .i64 d1)).setCell ⟨X, 1, none⟩ (.int .i64 d2)) := (b9'.setCell (p := ⟨X, 0, none⟩) hz1 _).setCell (p := ⟨X, 1, none⟩) hz1 _
  generalize (w9.setCell ⟨X, 0, none⟩ (.int .i64 d1)).setCell ⟨X, 1, none⟩ (.int .i64 d2) = w10 at hX10 hY10 b10' ⊢
  clear hX9 hY9 b9' x0 x1 x2 x3 y0 y1 y2 y3
  refine (H6.out _ (HL.out.below b10')).mono ?_
  rintro e w11 ⟨rfl, c11⟩
  have b11' := below_then c11 b10' b10'.size
  have hX11 := heap_below hX10 c11
  have hY11 := heap_below hY10 c11
  clear c11 hX10 hY10 b10'
  obtain ⟨x0, x1, x2, x3, -⟩ := box2 hX11
  obtain ⟨y0, y1, y2, y3, -⟩ := box2 hY11
  go_wp2_with fail
  have hX12 := tfar2 hX11 (k := Y) (u := .int .i64 d1) (v := .int .i64 d2) (by omega)
  have hY12 := tstore2 hY11 (u := .int .i64 d1) (v := .int .i64 d2)
  have b12' : Below w.heap.size w ((w11.setCell ⟨Y, 0, none⟩ (.int .i64 d1)).setCell ⟨Y, 1, none⟩ (.int .i64 d2)) := (b11'.setCell (p := ⟨Y, 0, none⟩) hzY _).setCell (p := ⟨Y, 1, none⟩) hzY _
  refine (awake_c _).mono ?_
  rintro e w13 ⟨rfl, c13⟩
  go_wp2
  go_ret
  exact ⟨rfl, below_then c13 b12' b12'.size⟩
theorem law_reads_i (s : ByteArray) (p x y : Int) (w : World) (hs : s.size ≤ 140737488355328) (hx : 0 ≤ x ∧ x ≤ 255) (hy : 0 ≤ y ∧ y ≤ 255) (hl : Len w) :
    Calls Tryd.prog 3 #[.string s, .int .i64 p, .int .u8 x, .int .u8 y] w fun e w' => e = .returned (.bool true) ∧ Below w.heap.size w w' := by
  have e1 : ((UInt8.ofNat x.toNat).toNat : Int) = x := by simp; omega
  have e2 : ((UInt8.ofNat y.toNat).toNat : Int) = y := by simp; omega
  have h := law_reads s p (UInt8.ofNat x.toNat) (UInt8.ofNat y.toNat) w hs hl
  rw [e1, e2] at h
  exact h
end Go.Proofs.YtmeefinnefanpaaDoor
