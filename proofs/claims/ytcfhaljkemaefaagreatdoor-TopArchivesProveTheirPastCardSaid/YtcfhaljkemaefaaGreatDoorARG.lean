
/- Archive's walks: readRecord at a right record's line. -/
import Derived.Test.YtcfhaljkemaefaaGreatDoorARF
namespace Go.Proofs.YtcfhaljkemaefaaGreatDoor
open Go.RowKit Limb Nmb Work
set_option linter.unusedVariables false
set_option linter.unusedSimpArgs false

def RetRR (r : Rec) (w : World) (e : Ending) (w' : World) : Prop := e = .returned (.tuple #[recG r, .bool true]) ∧ Below w.heap.size w w'
set_option maxHeartbeats 4000000 in
set_option maxRecDepth 100000 in
theorem readrec_c (r : Rec) (m : Int) (w : World) (h : RecK r) (hm : w.cell? ⟨0, 0, none⟩ = some (.int .i64 m)) :
    Calls Tryz.prog 22 #[.string (bs (lineA r))] w (RetRR r w) := by
  have HHD := Lib.hid (fun w' (hb : Below w.heap.size w w') => headw_c r m w' h ((hb.cell (cell_lt hm)).trans hm))
  have hno := itoa_num h.time
  have HNO := Lib.hid (fun w => num16_c (bs (Lib.itoa r.time)) w (by have := hno.2.2.1; show (Lib.itoa r.time).length ≤ 16; exact this) hno.1 hno.2.2.2.2)
  rw [show ((dv (bs (Lib.itoa r.time)).data.toList : Nat) : Int) = r.time from hno.2.2.2.1] at HNO
  have HOK := Lib.hid (hdW_ok h)
  have HDT := Lib.hid h.drop
  have HCP := Lib.hid (fun w => Tryz.strings_CutPrefix (bs (restA r)) ⟨#[58]⟩ w)
  have w0 : wd (hdW r) 0 = bs (Lib.itoa r.time) := rfl
  have w1 : wd (hdW r) 1 = r.kind := rfl
  have w2 : wd (hdW r) 2 = r.key := rfl
  have w3 : wd (hdW r) 3 = r.dig := rfl
  obtain ⟨L, hL⟩ : ∃ L, hdW r = L := ⟨_, rfl⟩
  have hll : L.length = 5 := by rw [← hL]; rfl
  rw [hL] at HHD HOK w0 w1 w2 w3
  obtain ⟨s, hs⟩ : ∃ s, bs (lineA r) = s := ⟨_, rfl⟩
  obtain ⟨I, hI⟩ : ∃ s, bs (Lib.itoa r.time) = s := ⟨_, rfl⟩
  rw [hs] at HHD ⊢
  rw [hI] at HNO w0
  have HLL := Lib.hid hll
  have HW0 := Lib.hid w0; have HW1 := Lib.hid w1; have HW2 := Lib.hid w2; have HW3 := Lib.hid w3
  unfold RetRR recG
  obtain ⟨t, kd, ky, dg, dp, tx⟩ := r
  dsimp only at HW0 HW1 HW2 HW3 HNO HDT ⊢
  obtain ⟨R, hR⟩ : ∃ s, bs (restA ⟨t, kd, ky, dg, dp, tx⟩) = s := ⟨_, rfl⟩
  have HR := Lib.hid hR
  rw [hR] at HHD HCP
  clear h hm hno w0 w1 w2 w3 hL hll hs hI hR
  go_enter Tryz.func22, Tryz.ntmps22
  go_wp2_with fail
  have hB0 := Lib.hid (show Below w.heap.size w (w.alloc (.cells #[.int .i64 0, .string ⟨#[]⟩, .string ⟨#[]⟩, .string ⟨#[]⟩, .bool false, .string ⟨#[]⟩] 45)) from (Below.refl _ _).alloc (Nat.le_refl _) _)
  have hX0 := Lib.hid (heap_new w (.cells #[.int .i64 0, .string ⟨#[]⟩, .string ⟨#[]⟩, .string ⟨#[]⟩, .bool false, .string ⟨#[]⟩] 45) rfl)
  generalize w.alloc (.cells #[.int .i64 0, .string ⟨#[]⟩, .string ⟨#[]⟩, .string ⟨#[]⟩, .bool false, .string ⟨#[]⟩] 45) = w4 at hB0 hX0 ⊢
  refine (HHD.out _ hB0.out).mono ?_
  rintro e w5 ⟨rfl, hS5, hb5⟩
  have hX5 := Lib.hid (heap_below hX0.out hb5)
  have hB5 := Lib.hid (below_then hb5 hB0.out hB0.out.size)
  obtain ⟨g, hg⟩ : ∃ g, w4.heap.size = g := ⟨_, rfl⟩
  rw [hg] at hS5 ⊢
  have HS5 := Lib.hid hS5
  have HC := Lib.hid (show ∀ w', Below w5.heap.size w5 w' → ∀ j, j < 5 → w'.cell? ⟨g, j, none⟩ = some (.string (wd L j)) from fun w' hb j hj => by
    obtain ⟨b, off, e, -, hc⟩ := (sts_new (heap_below HS5.out hb)).cells (by rw [HLL.out]; omega)
    injection e with e
    injection e with e1 e2
    subst e1; subst e2
    have := hc j (by rw [HLL.out]; omega)
    rwa [Nat.zero_add] at this)
  have HSA := Lib.hid (seenall_c g 4 5 L w5 (by omega) (fun j hj => HC.out w5 (Below.refl _ _) j (by omega)) (fun j hj => by have := (HOK.out j hj).2.2; omega) (fun j hj => (HOK.out j hj).2.1))
  have hgn : w.heap.size < g := by rw [← hg]; exact lt_heap hX0.out
  clear hb5 hS5 hg
  go_wp2_with fail
  refine HSA.out.mono ?_
  rintro e w6 ⟨rfl, rfl⟩
  have c0 := HC.out w5 (Below.refl _ _) 0 (by decide)
  rw [HW0.out] at c0
  go_wp2_with fail
  refine (HNO.out _).mono ?_
  rintro e w6 ⟨rfl, hb6⟩
  have c1 := HC.out w6 hb6 1 (by decide)
  have c2 := HC.out w6 hb6 2 (by decide)
  have c3 := HC.out w6 hb6 3 (by decide)
  rw [HW1.out] at c1
  rw [HW2.out] at c2
  rw [HW3.out] at c3
  have hX6 := Lib.hid (heap_below hX5.out hb6)
  have hB6 := Lib.hid (below_then hb6 hB5.out hB5.out.size)
  have d1 := HC.out (w6.alloc (.cells #[.int .i64 0, .string ⟨#[]⟩, .string ⟨#[]⟩, .string ⟨#[]⟩, .bool false, .string ⟨#[]⟩] 45)) (hb6.alloc hb6.size _) 1 (by decide)
  have d2 := HC.out (w6.alloc (.cells #[.int .i64 0, .string ⟨#[]⟩, .string ⟨#[]⟩, .string ⟨#[]⟩, .bool false, .string ⟨#[]⟩] 45)) (hb6.alloc hb6.size _) 2 (by decide)
  have d3 := HC.out (w6.alloc (.cells #[.int .i64 0, .string ⟨#[]⟩, .string ⟨#[]⟩, .string ⟨#[]⟩, .bool false, .string ⟨#[]⟩] 45)) (hb6.alloc hb6.size _) 3 (by decide)
  rw [HW1.out] at d1
  rw [HW2.out] at d2
  rw [HW3.out] at d3
  clear hb6 c0
  go_wp2
  go_region
  have hB7 := Lib.hid (show Below w.heap.size w (w6.alloc (.cells #[.int .i64 t, .string kd, .string ky, .string dg, .bool false, .string ⟨#[]⟩] 45)).drew from (hB6.out.alloc hB6.out.size _).drew)
  have hX7 := Lib.hid (show (w6.alloc (.cells #[.int .i64 t, .string kd, .string ky, .string dg, .bool false, .string ⟨#[]⟩] 45)).drew.heap[w.heap.size]? = _ from heap_old hX6.out _)
  have hY7 := Lib.hid (show (w6.alloc (.cells #[.int .i64 t, .string kd, .string ky, .string dg, .bool false, .string ⟨#[]⟩] 45)).drew.heap[w6.heap.size]? = some (.cells #[.int .i64 t, .string kd, .string ky, .string dg, .bool false, .string ⟨#[]⟩] 45 (0, 0)) from heap_new w6 _ rfl)
  have hne : w.heap.size < w6.heap.size := lt_heap hX6.out
  obtain ⟨b, hb⟩ : ∃ b, w6.heap.size = b := ⟨_, rfl⟩
  rw [hb] at hY7 hne
  generalize (w6.alloc (.cells #[.int .i64 t, .string kd, .string ky, .string dg, .bool false, .string ⟨#[]⟩] 45)).drew = w7 at hB7 hX7 hY7 ⊢
  rw [hb]
  clear hb d1 d2 d3 c1 c2 c3
  have ea : w.heap.size ≠ b := by omega
  have eb : b ≠ w.heap.size := by omega
  have hY := hY7.out
  have hX := hX7.out
  obtain ⟨⟨y0, y1, y2, y3, y4, y5⟩, hbw⟩ := obox6 hY
  obtain ⟨⟨x0, x1, x2, x3, x4, x5⟩, hgw⟩ := obox6 hX
  have fy4 : w7.frozen? ⟨b, 4, none⟩ = false := by simp [World.frozen?, hY]
  have fy5 : w7.frozen? ⟨b, 5, none⟩ = false := by simp [World.frozen?, hY]
  have fx0 : w7.frozen? ⟨w.heap.size, 0, none⟩ = false := by simp [World.frozen?, hX]
  have fx1 : w7.frozen? ⟨w.heap.size, 1, none⟩ = false := by simp [World.frozen?, hX]
  have fx2 : w7.frozen? ⟨w.heap.size, 2, none⟩ = false := by simp [World.frozen?, hX]
  have fx3 : w7.frozen? ⟨w.heap.size, 3, none⟩ = false := by simp [World.frozen?, hX]
  have fx4 : w7.frozen? ⟨w.heap.size, 4, none⟩ = false := by simp [World.frozen?, hX]
  have fx5 : w7.frozen? ⟨w.heap.size, 5, none⟩ = false := by simp [World.frozen?, hX]
  clear hY hX
  have HBT := Lib.hid (show w.heap.size ≤ b by omega)
  cases dp with
  | true =>
    obtain rfl : tx = ⟨#[]⟩ := HDT.out rfl
    have hR2 : R = bs wDrop := HR.out.symm
    have h1 : Lib.hasPrefix R.data.toList (⟨#[58]⟩ : ByteArray).data.toList = false := by rw [hR2]; rfl
    have h2 : (⟨(Lib.trimPrefix R.data.toList (⟨#[58]⟩ : ByteArray).data.toList).toArray⟩ : ByteArray) = R := by rw [hR2]; rfl
    have e7 : (R.toList == [100, 114, 111, 112, 112, 101, 100]) = true := by rw [lit_dec]; exact decide_eq_true (by rw [hR2]; rfl)
    rw [h1, h2] at HCP
    clear h1 h2 hR2 HR
    have hf0 := heap_far (p := ⟨b, 4, none⟩) hX7.out ea (.bool true)
    have hf1 := heap_set (heap_set (heap_set (heap_set (heap_set (heap_set hf0 0 (.int .i64 t)) 1 (.string kd)) 2 (.string ky)) 3 (.string dg)) 4 (.bool true)) 5 (.string ⟨#[]⟩)
    have HF := Lib.hid hf1
    have HBE := Lib.hid (((((((hB7.out.setCell (p := ⟨b, 4, none⟩) HBT.out (.bool true)).setCell (p := ⟨w.heap.size, 0, none⟩) (Nat.le_refl _) (.int .i64 t)).setCell (p := ⟨w.heap.size, 1, none⟩) (Nat.le_refl _) (.string kd)).setCell (p := ⟨w.heap.size, 2, none⟩) (Nat.le_refl _) (.string ky)).setCell (p := ⟨w.heap.size, 3, none⟩) (Nat.le_refl _) (.string dg)).setCell (p := ⟨w.heap.size, 4, none⟩) (Nat.le_refl _) (.bool true)).setCell (p := ⟨w.heap.size, 5, none⟩) (Nat.le_refl _) (.string ⟨#[]⟩))
    clear hf0 hf1
    go_wp2_with fail
    refine (HCP.out _).mono ?_
    rintro e w8 ⟨rfl, rfl⟩
    go_wp2
    clear x0 x1 x2 x3 x4 x5 y0 y1 y2 y3 y4 y5 fx0 fx1 fx2 fx3 fx4 fx5 fy4 fy5 hbw hgw
    have hE := HF.out
    have hBE := HBE.out
    generalize ((((((w8.setCell ⟨b, 4, none⟩ (.bool true)).setCell ⟨w.heap.size, 0, none⟩ (.int .i64 t)).setCell ⟨w.heap.size, 1, none⟩ (.string kd)).setCell ⟨w.heap.size, 2, none⟩ (.string ky)).setCell ⟨w.heap.size, 3, none⟩ (.string dg)).setCell ⟨w.heap.size, 4, none⟩ (.bool true)).setCell ⟨w.heap.size, 5, none⟩ (.string ⟨#[]⟩) = w9 at hE hBE ⊢
    obtain ⟨⟨x0, x1, x2, x3, x4, x5⟩, -⟩ := obox6 (show w9.heap[w.heap.size]? = some (.cells #[.int .i64 t, .string kd, .string ky, .string dg, .bool true, .string ⟨#[]⟩] 45 (0, 0)) by rw [hE]; rfl)
    refine bodyPost_ret (v := .tuple #[.agg #[.int .i64 t, .string kd, .string ky, .string dg, .bool true, .string ⟨#[]⟩], .bool true]) (by simp [results, Tryz.results22, go_sem, x0, x1, x2, x3, x4, x5]) rfl ⟨rfl, hBE⟩
  | false =>
    have hR2 : R = bs (58 :: tx.data.toList) := HR.out.symm
    have h1 : Lib.hasPrefix R.data.toList (⟨#[58]⟩ : ByteArray).data.toList = true := by rw [hR2]; simp [bs, Lib.hasPrefix]
    have h2 : (⟨(Lib.trimPrefix R.data.toList (⟨#[58]⟩ : ByteArray).data.toList).toArray⟩ : ByteArray) = tx := by rw [hR2]; simp [bs, Lib.trimPrefix, Lib.hasPrefix]
    rw [h1, h2] at HCP
    clear h1 h2 hR2 HR
    have hf0 := heap_far (p := ⟨b, 5, none⟩) hX7.out ea (.string tx)
    have hf1 := heap_set (heap_set (heap_set (heap_set (heap_set (heap_set hf0 0 (.int .i64 t)) 1 (.string kd)) 2 (.string ky)) 3 (.string dg)) 4 (.bool false)) 5 (.string tx)
    have HF := Lib.hid hf1
    have HBE := Lib.hid (((((((hB7.out.setCell (p := ⟨b, 5, none⟩) HBT.out (.string tx)).setCell (p := ⟨w.heap.size, 0, none⟩) (Nat.le_refl _) (.int .i64 t)).setCell (p := ⟨w.heap.size, 1, none⟩) (Nat.le_refl _) (.string kd)).setCell (p := ⟨w.heap.size, 2, none⟩) (Nat.le_refl _) (.string ky)).setCell (p := ⟨w.heap.size, 3, none⟩) (Nat.le_refl _) (.string dg)).setCell (p := ⟨w.heap.size, 4, none⟩) (Nat.le_refl _) (.bool false)).setCell (p := ⟨w.heap.size, 5, none⟩) (Nat.le_refl _) (.string tx))
    clear hf0 hf1
    go_wp2_with fail
    refine (HCP.out _).mono ?_
    rintro e w8 ⟨rfl, rfl⟩
    go_wp2
    clear x0 x1 x2 x3 x4 x5 y0 y1 y2 y3 y4 y5 fx0 fx1 fx2 fx3 fx4 fx5 fy4 fy5 hbw hgw
    have hE := HF.out
    have hBE := HBE.out
    generalize ((((((w8.setCell ⟨b, 5, none⟩ (.string tx)).setCell ⟨w.heap.size, 0, none⟩ (.int .i64 t)).setCell ⟨w.heap.size, 1, none⟩ (.string kd)).setCell ⟨w.heap.size, 2, none⟩ (.string ky)).setCell ⟨w.heap.size, 3, none⟩ (.string dg)).setCell ⟨w.heap.size, 4, none⟩ (.bool false)).setCell ⟨w.heap.size, 5, none⟩ (.string tx) = w9 at hE hBE ⊢
    obtain ⟨⟨x0, x1, x2, x3, x4, x5⟩, -⟩ := obox6 (show w9.heap[w.heap.size]? = some (.cells #[.int .i64 t, .string kd, .string ky, .string dg, .bool false, .string tx] 45 (0, 0)) by rw [hE]; rfl)
    refine bodyPost_ret (v := .tuple #[.agg #[.int .i64 t, .string kd, .string ky, .string dg, .bool false, .string tx], .bool true]) (by simp [results, Tryz.results22, go_sem, x0, x1, x2, x3, x4, x5]) rfl ⟨rfl, hBE⟩
end Go.Proofs.YtcfhaljkemaefaaGreatDoor
