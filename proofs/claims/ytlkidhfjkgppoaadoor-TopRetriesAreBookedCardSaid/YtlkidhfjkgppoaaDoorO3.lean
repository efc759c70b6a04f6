
/- The walks of package desk: answers. -/
import Derived.Test.YtlkidhfjkgppoaaDoorO2
namespace Go.Proofs.YtlkidhfjkgppoaaDoor
open Go.RowKit Limb Work
set_option linter.unusedVariables false
set_option linter.unusedSimpArgs false

theorem bytes_dec (a b : ByteArray) : (a.toList == b.toList) = decide (a = b) := by
  by_cases h : a = b
  · subst h; simp
  · rw [decide_eq_false h]; exact (Lib.bytes_beq_false_iff _ _).2 h
set_option maxHeartbeats 1000000 in
set_option maxRecDepth 100000 in
theorem otgc_c (x : Otg) (l : ByteArray) (t : Int) (b1 b2 : Nat) (w : World) (h1 : w.cell? ⟨b1, 0, none⟩ = some (.string l)) (h2 : w.cell? ⟨b2, 0, none⟩ = some (.int .i64 t)) :
    Calls Tryd.prog 56 #[.agg #[.string x.lane, .int .i64 x.fr, .int .i64 x.to], .pointer (some ⟨b1, 0, none⟩), .pointer (some ⟨b2, 0, none⟩)] w fun e w' => e = .returned (.bool (otgB l t x)) ∧ Below w.heap.size w w' := by
  have l1 := World.block_lt_of_cell? w _ h1
  have l2 := World.block_lt_of_cell? w _ h2
  have h1' : ∀ o, (w.alloc o).cell? ⟨b1, 0, none⟩ = some (.string l) := fun o => (World.cell?_alloc_some w _ o (by rw [h1]; rfl)).trans h1
  have h2' : ∀ o, (w.alloc o).cell? ⟨b2, 0, none⟩ = some (.int .i64 t) := fun o => (World.cell?_alloc_some w _ o (by rw [h2]; rfl)).trans h2
  clear h1 h2 l1 l2
  by_cases e1 : x.lane = l
  · have e1' : (x.lane.toList == l.toList) = true := by rw [bytes_dec]; exact decide_eq_true e1
    by_cases e2 : x.fr ≤ t
    · by_cases e3 : t < x.to
      · rw [show otgB l t x = true by unfold otgB; simp [e1, e2, e3]]
        clear e1
        go_enter Tryd.func56, Tryd.ntmps56
        go_wp2
        go_ret
        exact ⟨rfl, by go_grown⟩
      · rw [show otgB l t x = false by unfold otgB; simp [e1, e2, e3]]
        clear e1
        go_enter Tryd.func56, Tryd.ntmps56
        go_wp2
        go_ret
        exact ⟨rfl, by go_grown⟩
    · rw [show otgB l t x = false by unfold otgB; simp [e1, e2]]
      clear e1
      go_enter Tryd.func56, Tryd.ntmps56
      go_wp2
      go_ret
      exact ⟨rfl, by go_grown⟩
  · have e1' : (x.lane.toList == l.toList) = false := by rw [bytes_dec]; exact decide_eq_false e1
    rw [show otgB l t x = false by unfold otgB; simp [e1]]
    clear e1
    go_enter Tryd.func56, Tryd.ntmps56
    go_wp2
    go_ret
    exact ⟨rfl, by go_grown⟩
theorem any_not {os : List Otg} {f : Otg → Bool} (h : ∀ j, j < os.length → f (oA os j) = false) : os.any f = false := by
  rw [Bool.eq_false_iff]
  intro h2
  obtain ⟨x, hx, h3⟩ := List.any_eq_true.1 h2
  obtain ⟨j, hj, rfl⟩ := List.getElem_of_mem hx
  rw [oA_get hj, h j hj] at h3
  cases h3
set_option maxHeartbeats 1000000 in
set_option maxRecDepth 100000 in
theorem oixf_c (A : Option Addr) (c : Nat) (os : List Otg) (l : ByteArray) (t : Int) (b1 b2 : Nat) (w : World) (hn : os.length ≤ 500) (ho : Outs w A os) (h1 : w.cell? ⟨b1, 0, none⟩ = some (.string l)) (h2 : w.cell? ⟨b2, 0, none⟩ = some (.int .i64 t)) :
    Calls Tryd.prog 70 #[.slice A os.length c, .func (.func 56) #[] #[.pointer (some ⟨b1, 0, none⟩), .pointer (some ⟨b2, 0, none⟩)]] w
      fun e w' => ∃ i : Int, e = .returned (.int .i64 i) ∧ (decide (0 ≤ i) = os.any (otgB l t)) ∧ Below w.heap.size w w' := by
  have HO := Lib.hid ho; have H1 := Lib.hid h1; have H2 := Lib.hid h2
  have l1 := Lib.hid (World.block_lt_of_cell? w _ h1)
  have l2 := Lib.hid (World.block_lt_of_cell? w _ h2)
  obtain ⟨n, hnn⟩ : ∃ n, os.length = n := ⟨_, rfl⟩
  have HN := Lib.hid hnn
  rw [hnn] at hn ⊢
  clear ho h1 h2 hnn
  go_enter Tryd.func70, Tryd.ntmps70
  go_wp2
  go_loopw [8] (fun i wr => ∃ k : Nat, k ≤ n ∧ i = .int .i64 k ∧ Below w.heap.size w wr ∧ Hid (∀ j, j < k → otgB l t (oA os j) = false)) (fun i _ => n - (intOf i).toNat)
  case atStart => exact ⟨0, Nat.zero_le _, rfl, Below.refl _ _, Lib.hid (fun j h => absurd h (Nat.not_lt_zero _))⟩
  case round =>
    obtain ⟨k, hk, rfl, hb, HK⟩ := hrel
    rcases Nat.lt_or_ge k n with hlt | hge
    · have hltj : k < os.length := by rw [HN.out]; exact hlt
      obtain ⟨b, off, rfl, hbw, hc⟩ := (HO.out.below hb).2.get hltj
      have c0 : wr.cell? ⟨b, off + k * 3, none⟩ = some (.string (oA os k).lane) := hc 0 (by decide)
      have c1 : wr.cell? ⟨b, off + k * 3 + 1, none⟩ = some (.int .i64 (oA os k).fr) := hc 1 (by decide)
      have c2 : wr.cell? ⟨b, off + k * 3 + 2, none⟩ = some (.int .i64 (oA os k).to) := hc 2 (by decide)
      have HC := Lib.hid (otgc_c (oA os k) l t b1 b2 wr ((hb.cell (p := ⟨b1, 0, none⟩) l1.out).trans H1.out) ((hb.cell (p := ⟨b2, 0, none⟩) l2.out).trans H2.out))
      obtain ⟨x, hx⟩ : ∃ x, oA os k = x := ⟨_, rfl⟩
      have HX := Lib.hid hx
      rw [hx] at c0 c1 c2 HC
      clear hc hx
      cases hot : otgB l t x with
      | true =>
        rw [hot] at HC
        have HT := Lib.hid (show os.any (otgB l t) = true from List.any_eq_true.2 ⟨os[k], List.getElem_mem hltj, by rw [oA_get hltj, HX.out]; exact hot⟩)
        clear hot hltj
        go_wp2_with fail
        refine HC.out.mono ?_
        rintro e w2 ⟨rfl, hb2⟩
        have hB2 := below_then hb2 hb hb.size
        go_wp2
        go_ret
        exact ⟨(k : Int), rfl, by rw [HT.out]; simp, hB2⟩
      | false =>
        rw [hot] at HC
        have HK2 := Lib.hid (show ∀ j, j < k + 1 → otgB l t (oA os j) = false from fun j hj => by
          rcases Nat.lt_or_ge j k with h | h
          · exact HK.out j h
          · obtain rfl : j = k := by omega
            rw [HX.out]; exact hot)
        clear hot hltj
        go_wp2_with fail
        refine HC.out.mono ?_
        rintro e w2 ⟨rfl, hb2⟩
        have hB2 := below_then hb2 hb hb.size
        go_wp2
        go_roundw
        case rel => exact ⟨k + 1, by omega, by go_num, hB2, HK2⟩
        case measure => simp [intOf]; omega
    · obtain rfl : k = n := by omega
      have HT := Lib.hid (show os.any (otgB l t) = false from any_not (fun j hj => HK.out j (by rw [← HN.out]; exact hj)))
      go_wp2
      go_ret
      exact ⟨-1, rfl, by rw [HT.out]; rfl, hb⟩
set_option maxHeartbeats 1000000 in
set_option maxRecDepth 100000 in
theorem answers_c (A : Option Addr) (c : Nat) (os : List Otg) (l : ByteArray) (t : Int) (w : World) (hn : os.length ≤ 500) (ho : Outs w A os) :
    Calls Tryd.prog 38 #[.slice A os.length c, .string l, .int .i64 t] w fun e w' => e = .returned (.bool (ansB os l t)) ∧ Below w.heap.size w w' := by
  have HO := Lib.hid ho
  clear ho
  go_enter Tryd.func38, Tryd.ntmps38
  go_wp2_with fail
  have hX := heap_old (heap_new w (.cells #[.string l] 9) rfl) (.cells #[.int .i64 t] 3)
  have hY := heap_new (w.alloc (.cells #[.string l] 9)) (.cells #[.int .i64 t] 3) (g := w.heap.size + 1) (by simp)
  have hb0 : Below w.heap.size w ((w.alloc (.cells #[.string l] 9)).alloc (.cells #[.int .i64 t] 3)) := by go_grown
  generalize (w.alloc (.cells #[.string l] 9)).alloc (.cells #[.int .i64 t] 3) = w1 at hX hY hb0 ⊢
  have hI := oixf_c A c os l t w.heap.size (w.heap.size + 1) w1 hn (HO.out.below hb0) (cell_of_row _ _ 0 _ _ _ hX) (cell_of_row _ _ 0 _ _ _ hY)
  have HI := Lib.hid hI
  clear hX hY hI
  refine Calls.mono (R := fun e w' => e = .returned (.bool (os.any (otgB l t))) ∧ Below w.heap.size w w') ?_ ?_
  · go_enter Tryd.func55, Tryd.ntmps55
    go_wp2_with fail
    refine HI.out.mono ?_
    rintro e w2 ⟨i, rfl, hi, hb2⟩
    have hB2 := below_then hb2 hb0 hb0.size
    by_cases h : 0 ≤ i
    · rw [decide_eq_true h] at hi
      have HJ := Lib.hid hi
      clear hi
      go_wp2
      go_ret
      exact ⟨by rw [← HJ.out]; first | rfl | (show Ending.returned (.bool (decide (0 ≤ i))) = _; rw [decide_eq_false (show ¬ 0 ≤ i by omega)]), hB2⟩
    · rw [decide_eq_false h] at hi
      have HJ := Lib.hid hi
      clear hi
      go_wp2
      go_ret
      exact ⟨by rw [← HJ.out]; first | rfl | (show Ending.returned (.bool (decide (0 ≤ i))) = _; rw [decide_eq_false (show ¬ 0 ≤ i by omega)]), hB2⟩
  · rintro e w2 ⟨rfl, hB2⟩
    go_wp2
    go_ret
    exact ⟨rfl, hB2⟩
end Go.Proofs.YtlkidhfjkgppoaaDoor
