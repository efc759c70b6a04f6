
/- The law AmountTextsMatchSpec is walked. -/
import Derived.Test.YtegobkaldedhhaaDoorT10
namespace Go.Proofs.YtegobkaldedhhaaDoor
open Go.RowKit Limb
set_option linter.unusedVariables false
set_option linter.unusedSimpArgs false

theorem same_text {s t : ByteArray} {l : List UInt8} (h1 : s.data.toList = l) (h2 : t.data.toList = l) : s = t := by
  apply ByteArray.ext
  apply Array.ext'
  rw [h1, h2]

set_option maxHeartbeats 2000000 in
set_option maxRecDepth 100000 in
theorem law_texts (u p a b : Int) (pt gr : UInt8) (w : World) (ht : Tab w) (ha : -9223372036854775808 ≤ a ∧ a ≤ 9223372036854775807) (hb : -9223372036854775808 ≤ b ∧ b ≤ 9223372036854775807) :
    Calls Tryd.prog 7 #[.agg #[.int .i64 u, .int .i64 p], .int .i64 a, .int .i64 b, .int .u8 (pt.toNat : Int), .int .u8 (gr.toNat : Int)] w fun e w' => e = .returned (.bool true) ∧ Below w.heap.size w w' := by
  have HT := Lib.hid ht
  have H1 := Lib.hid (fun w => wtext_c u p w)
  have H2 := Lib.hid (fun w ht => rtext_c u p w ht)
  have H3 := Lib.hid (fun w => wimplied_c u p a b w ha hb)
  have H4 := Lib.hid (fun w ht => rimplied_c u p a b w ht ha hb)
  have H5 := Lib.hid (fun w => wgrouped_c u p pt gr w)
  have H6 := Lib.hid (fun w ht => rgrouped_c u p pt gr w ht)
  obtain ⟨f1, hf1⟩ : ∃ f, decF u p = f := ⟨_, rfl⟩
  obtain ⟨f2, hf2⟩ : ∃ f, impF u p a b = f := ⟨_, rfl⟩
  obtain ⟨f3, hf3⟩ : ∃ f, grpdF u p pt gr = f := ⟨_, rfl⟩
  rw [hf1] at H1 H2
  rw [hf2] at H3 H4
  rw [hf3] at H5 H6
  clear hf1 hf2 hf3 ha hb ht
  go_enter Tryd.func7, Tryd.ntmps7
  go_wp2_with fail
  refine (H1.out _).mono ?_
  rintro e w1 ⟨s1, rfl, hs1, c1⟩
  have hX1 := heap_below (heap_new w (.cells #[.int .i64 u, .int .i64 p] 40) rfl) c1
  obtain ⟨y10, y11, -, -, -⟩ := box2 hX1
  have b1 := below_then c1 (by go_grown : Below w.heap.size w _) (by simp only [World.size_alloc]; omega)
  go_wp2_with fail
  refine (H2.out _ (HT.out.below b1)).mono ?_
  rintro e w2 ⟨s2, rfl, hs2, c2⟩
  have hX2 := heap_below hX1 c2
  clear hX1 y10 y11
  obtain ⟨y20, y21, -, -, -⟩ := box2 hX2
  have b2 := below_then c2 b1 b1.size
  obtain rfl := same_text hs1 hs2
  clear hs1 hs2 c1 c2
  go_wp2_with fail
  refine (H3.out _).mono ?_
  rintro e w3 ⟨s3, rfl, hs3, c3⟩
  have hX3 := heap_below hX2 c3
  clear hX2 y20 y21
  obtain ⟨y30, y31, -, -, -⟩ := box2 hX3
  have b3 := below_then c3 b2 b2.size
  go_wp2_with fail
  refine (H4.out _ (HT.out.below b3)).mono ?_
  rintro e w4 ⟨s4, rfl, hs4, c4⟩
  have hX4 := heap_below hX3 c4
  clear hX3 y30 y31
  obtain ⟨y40, y41, -, -, -⟩ := box2 hX4
  have b4 := below_then c4 b3 b3.size
  obtain rfl := same_text hs3 hs4
  clear hs3 hs4 c3 c4
  go_wp2_with fail
  refine (H5.out _).mono ?_
  rintro e w5 ⟨s5, rfl, hs5, c5⟩
  have hX5 := heap_below hX4 c5
  clear hX4 y40 y41
  obtain ⟨y50, y51, -, -, -⟩ := box2 hX5
  have b5 := below_then c5 b4 b4.size
  go_wp2_with fail
  refine (H6.out _ (HT.out.below b5)).mono ?_
  rintro e w6 ⟨s6, rfl, hs6, c6⟩
  have hX6 := heap_below hX5 c6
  clear hX5 y50 y51
  obtain ⟨y60, y61, -, -, -⟩ := box2 hX6
  have b6 := below_then c6 b5 b5.size
  obtain rfl := same_text hs5 hs6
  clear hs5 hs6 c5 c6
  go_wp2_with fail
  refine (awake_c _).mono ?_
  rintro e w9 ⟨rfl, c9⟩
  have b9 := below_then c9 b6 b6.size
  go_wp2
  go_ret
  exact ⟨rfl, b9⟩
theorem law_texts_i (u p a b x y : Int) (w : World) (ht : Tab w) (ha : -9223372036854775808 ≤ a ∧ a ≤ 9223372036854775807) (hb : -9223372036854775808 ≤ b ∧ b ≤ 9223372036854775807) (hx : 0 ≤ x ∧ x ≤ 255) (hy : 0 ≤ y ∧ y ≤ 255) :
    Calls Tryd.prog 7 #[.agg #[.int .i64 u, .int .i64 p], .int .i64 a, .int .i64 b, .int .u8 x, .int .u8 y] w fun e w' => e = .returned (.bool true) ∧ Below w.heap.size w w' := by
  have h := law_texts u p a b (UInt8.ofNat x.toNat) (UInt8.ofNat y.toNat) w ht ha hb
  rw [u8_ge _ (by omega), u8_ge _ (by omega), show ((x.toNat : Nat) : Int) = x by omega, show ((y.toNat : Nat) : Int) = y by omega] at h
  exact h
end Go.Proofs.YtegobkaldedhhaaDoor
