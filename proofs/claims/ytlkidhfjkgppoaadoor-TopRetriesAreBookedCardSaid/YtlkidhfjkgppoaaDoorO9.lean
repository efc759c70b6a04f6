
/- The walks of package reply on a book of sendings: at, stateOf, StandingAt. -/
import Derived.Test.YtlkidhfjkgppoaaDoorO8
namespace Go.Proofs.YtlkidhfjkgppoaaDoor
open Go.RowKit Limb Work Go.Maps
set_option linter.unusedVariables false
set_option linter.unusedSimpArgs false

def RetAt (es : List Ev) (w : World) (e : Ending) (w' : World) : Prop := Below w.heap.size w w' ∧ ∃ A c, e = .returned (.slice A es.length c) ∧ Rws w' A 5 es.length (sdV es)
set_option maxHeartbeats 2000000 in
set_option maxRecDepth 100000 in
theorem at_c (A : Option Addr) (c : Nat) (es : List Ev) (m : Int) (w : World) (hc : es.length ≤ c) (hc2 : c ≤ 9223372036854775807) (hok : BookOk m es) (ha : RefsApart es) (he : Evs w A es) :
    Calls Tryd.prog 19 #[.slice A es.length c, .int .i64 m] w (RetAt es w) := by
  have HB := Lib.hid (fun c w he => book_c A c es w hok.1 (fun x hx => (hok.2.1 x hx).2.2.2.1) ha he)
  have HE := Lib.hid he
  have HT := Lib.hid (show ∀ k, k < es.length → (eA es k).time ≤ m from fun k hk => by have := (hok.2.1 es[k] (List.getElem_mem hk)).1.2; rwa [eA_get hk] at this)
  obtain ⟨n, hn⟩ : ∃ n, es.length = n := ⟨_, rfl⟩
  have HN := Lib.hid hn
  have hl := hok.1
  unfold RetBook at HB
  unfold RetAt
  rw [hn] at HB HT hc hl ⊢
  clear hok ha he hn
  go_enter Tryd.func19, Tryd.ntmps19
  go_wp2
  go_loopw [5] (fun i wr => ∃ k : Nat, k ≤ n ∧ i = .int .i64 k ∧ wr = w) (fun i _ => n - (intOf i).toNat)
  case atStart => exact ⟨0, Nat.zero_le _, rfl, rfl⟩
  case round =>
    obtain ⟨k, hk, rfl, rfl⟩ := hrel
    rcases Nat.lt_or_ge k n with hlt | hge
    · obtain ⟨b, off, rfl, hbw, hcc⟩ := Rws.get HE.out (j := k) (by rw [HN.out]; exact hlt)
      have c1 : wr.cell? ⟨b, off + k * 5 + 1, none⟩ = some (.int .i64 (eA es k).time) := hcc 1 (by decide)
      have ht := HT.out k hlt
      generalize (eA es k).time = t at c1 ht
      clear hcc
      go_wp2
      go_roundw
      case rel => exact ⟨k + 1, by omega, by go_num, trivial⟩
      case measure => simp [intOf]; omega
    · obtain rfl : k = n := by omega
      have hcc : ¬ (c : Int) < (k : Int) := by omega
      go_wp2_with fail
      refine (HB.out c wr HE.out).mono ?_
      rintro e w2 ⟨hb2, A2, c2, rfl, hr⟩
      have HR := Lib.hid hr
      clear hr
      go_wp2
      go_ret
      exact ⟨hb2, A2, c2, rfl, HR.out⟩
set_option maxHeartbeats 1000000 in
set_option maxRecDepth 100000 in
theorem state_c (r : ByteArray) (t d m : Int) (w : World) : Calls Tryd.prog 20 #[.agg #[.string r, .int .i64 t, .int .i64 d, .int .i64 (-1), .int .i64 0], .int .i64 m] w
    fun e w' => e = .returned (.int .i64 (if d < m then 2 else 1)) ∧ Below w.heap.size w w' := by
  by_cases h : d < m
  · rw [if_pos h]
    go_enter Tryd.func20, Tryd.ntmps20
    go_wp2
    go_ret
    exact ⟨rfl, by go_grown⟩
  · rw [if_neg h]
    go_enter Tryd.func20, Tryd.ntmps20
    go_wp2
    go_ret
    exact ⟨rfl, by go_grown⟩
theorem obox6 {w : World} {g : Nat} {x y z u v t : Value} {T : TypeId} (h : w.heap[g]? = some (.cells #[x, y, z, u, v, t] T (0, 0))) :
    (w.cell? ⟨g, 0, none⟩ = some x ∧ w.cell? ⟨g, 1, none⟩ = some y ∧ w.cell? ⟨g, 2, none⟩ = some z ∧ w.cell? ⟨g, 3, none⟩ = some u ∧ w.cell? ⟨g, 4, none⟩ = some v ∧ w.cell? ⟨g, 5, none⟩ = some t) ∧
    (w.frozen? ⟨g, 0, none⟩ = false ∧ w.frozen? ⟨g, 1, none⟩ = false ∧ w.frozen? ⟨g, 2, none⟩ = false ∧ w.frozen? ⟨g, 3, none⟩ = false ∧ w.frozen? ⟨g, 4, none⟩ = false ∧ w.frozen? ⟨g, 5, none⟩ = false) ∧ g < w.heap.size :=
  ⟨⟨cell_of_row w g 0 _ _ _ h, cell_of_row w g 1 _ _ _ h, cell_of_row w g 2 _ _ _ h, cell_of_row w g 3 _ _ _ h, cell_of_row w g 4 _ _ _ h, cell_of_row w g 5 _ _ _ h⟩, ⟨by simp [World.frozen?, h], by simp [World.frozen?, h], by simp [World.frozen?, h], by simp [World.frozen?, h], by simp [World.frozen?, h], by simp [World.frozen?, h]⟩, lt_heap h⟩
theorem rws_far {w : World} {A : Option Addr} {k n : Nat} {f : Nat → Nat → Value} (h : Rws w A k n f) {p : Addr} (hp : ∀ b off, 0 < n → A = some ⟨b, off, none⟩ → b ≠ p.block) (u : Value) : Rws (w.setCell p u) A k n f := fun hn => by
  obtain ⟨b, off, e, hl, hc⟩ := h hn
  refine ⟨b, off, e, by rw [World.size_setCell]; exact hl, fun j hj i hi => ?_⟩
  rw [World.cell?_of_block (w := w) (w' := w.setCell p u) (Below.heap_setCell w p u b (hp b off hn e))]
  exact hc j hj i hi
theorem rws_ne {w : World} {A : Option Addr} {n ob : Nat} {es : List Ev} {x y z u v t : Int} {T : TypeId} (h : Rws w A 5 n (sdV es)) (ho : w.heap[ob]? = some (.cells #[.int .i64 x, .int .i64 y, .int .i64 z, .int .i64 u, .int .i64 v, .int .i64 t] T (0, 0))) : ∀ b off, 0 < n → A = some ⟨b, off, none⟩ → b ≠ ob := by
  rintro b off hn hA rfl
  obtain ⟨b', off', e, hl, hc⟩ := h hn
  rw [hA] at e
  cases e
  have h0 : w.cell? ⟨b, off + 0 * 5 + 0, none⟩ = some (.string (eA es 0).ref) := hc 0 hn 0 (by decide)
  rw [cell_of_row _ _ _ _ _ _ ho] at h0
  have h1 := Array.mem_of_getElem? h0
  simp at h1
def RetStd (n : Nat) (w : World) (e : Ending) (w' : World) : Prop := Below w.heap.size w w' ∧ ∃ a b : Nat, a + b = n ∧ e = .returned (.tuple #[.agg #[.int .i64 a, .int .i64 b, .int .i64 0, .int .i64 0, .int .i64 0, .int .i64 0], .int .i64 0])
set_option maxHeartbeats 4000000 in
set_option maxRecDepth 100000 in
theorem stand_c (A : Option Addr) (c : Nat) (es : List Ev) (m : Int) (w : World) (hm : 0 ≤ m ∧ m ≤ 1000000000000000) (hc : es.length ≤ c) (hc2 : c ≤ 9223372036854775807) (hok : BookOk m es) (ha : RefsApart es) (he : Evs w A es) :
    Calls Tryd.prog 8 #[.slice A es.length c, .int .i64 m] w (RetStd es.length w) := by
  have HB := Lib.hid (fun w he => book_ok_c A c es m w hm.2 hok he)
  have HA := Lib.hid (fun w he => at_c A c es m w hc hc2 hok ha he)
  have HM := Lib.hid (fun w => mom_c m w)
  rw [decide_eq_true hm] at HM
  have HE := Lib.hid he
  have HT := Lib.hid (show ∀ k, k < es.length → 0 ≤ (eA es k).due from fun k hk => by have := hok.2.1 es[k] (List.getElem_mem hk); rw [eA_get hk] at this; have h1 := this.1.1; have h2 := this.2.1.1; omega)
  obtain ⟨n, hn⟩ : ∃ n, es.length = n := ⟨_, rfl⟩
  have hl := hok.1
  unfold RetAt at HA
  rw [hn] at HA HB HT hl ⊢
  clear hok ha he hn hc hc2 hm
  go_enter Tryd.func8, Tryd.ntmps8
  go_wp2_with fail
  have hX := heap_new w (.cells #[.int .i64 0, .int .i64 0, .int .i64 0, .int .i64 0, .int .i64 0, .int .i64 0] 41) rfl
  have hb0 : Below w.heap.size w (w.alloc (.cells #[.int .i64 0, .int .i64 0, .int .i64 0, .int .i64 0, .int .i64 0, .int .i64 0] 41)) := by go_grown
  generalize w.alloc (.cells #[.int .i64 0, .int .i64 0, .int .i64 0, .int .i64 0, .int .i64 0, .int .i64 0] 41) = w1 at hX hb0 ⊢
  refine (HB.out _ (HE.out.below hb0)).mono ?_
  rintro e w2 ⟨rfl, hb2⟩
  have hX2 := heap_below hX hb2
  have hB2 := below_then hb2 hb0 hb0.size
  clear hX hb0 hb2
  go_wp2_with fail
  refine (HM.out _).mono ?_
  rintro e w3 ⟨rfl, rfl⟩
  go_wp2_with fail
  have hX3 := heap_old hX2 (.cells #[.int .i64 0, .int .i64 0, .int .i64 0, .int .i64 0, .int .i64 0, .int .i64 0] 41)
  have hY3 := heap_new w2 (.cells #[.int .i64 0, .int .i64 0, .int .i64 0, .int .i64 0, .int .i64 0, .int .i64 0] 41) rfl
  have hb3 : Below w.heap.size w (w2.alloc (.cells #[.int .i64 0, .int .i64 0, .int .i64 0, .int .i64 0, .int .i64 0, .int .i64 0] 41)) := hB2.alloc hB2.size _
  have hzo := lt_heap hX2
  obtain ⟨ob, hob⟩ : ∃ ob, w2.heap.size = ob := ⟨_, rfl⟩
  rw [hob] at hY3 hzo ⊢
  generalize w2.alloc (.cells #[.int .i64 0, .int .i64 0, .int .i64 0, .int .i64 0, .int .i64 0, .int .i64 0] 41) = w3 at hX3 hY3 hb3 ⊢
  clear hX2 hB2 hob
  refine (HA.out _ (HE.out.below hb3)).mono ?_
  rintro e w4 ⟨hb4, A4, c4, rfl, hr4⟩
  have hX4 := heap_below hX3 hb4
  have hY4 := heap_below hY3 hb4
  have hB4 := below_then hb4 hb3 hb3.size
  have HR := Lib.hid hr4
  clear hX3 hY3 hb3 hb4 hr4
  go_wp2
  have H4 := Lib.hid (Below.refl w4.heap.size w4)
  have hobl := lt_heap hY4
  go_loopw [25] (fun i wr => ∃ (k a b : Nat), k ≤ n ∧ i = .int .i64 k ∧ a + b = k ∧ Below w.heap.size w wr ∧ wr.heap[w.heap.size]? = some (.cells #[.int .i64 0, .int .i64 0, .int .i64 0, .int .i64 0, .int .i64 0, .int .i64 0] 41 (0, 0)) ∧ wr.heap[ob]? = some (.cells #[.int .i64 a, .int .i64 b, .int .i64 0, .int .i64 0, .int .i64 0, .int .i64 0] 41 (0, 0)) ∧ Rws wr A4 5 n (sdV es)) (fun i _ => n - (intOf i).toNat)
  case atStart => exact ⟨0, 0, 0, Nat.zero_le _, rfl, rfl, hB4, hX4, hY4, HR.out⟩
  case round =>
    obtain ⟨k, a, b, hk, rfl, hab, hb, hX, hY, hR⟩ := hrel
    rcases Nat.lt_or_ge k n with hlt | hge
    · obtain ⟨bb, off, rfl, hbw, hcc⟩ := Rws.get hR hlt
      have c0 : wr.cell? ⟨bb, off + k * 5, none⟩ = some (.string (eA es k).ref) := hcc 0 (by decide)
      have c1 : wr.cell? ⟨bb, off + k * 5 + 1, none⟩ = some (.int .i64 (eA es k).time) := hcc 1 (by decide)
      have c2 : wr.cell? ⟨bb, off + k * 5 + 2, none⟩ = some (.int .i64 (eA es k).due) := hcc 2 (by decide)
      have c3 : wr.cell? ⟨bb, off + k * 5 + 3, none⟩ = some (.int .i64 (-1)) := hcc 3 (by decide)
      have c4 : wr.cell? ⟨bb, off + k * 5 + 4, none⟩ = some (.int .i64 0) := hcc 4 (by decide)
      have hd := HT.out k hlt
      obtain ⟨⟨xt, xd, xr⟩, hx⟩ : ∃ x, eA es k = x := ⟨_, rfl⟩
      rw [hx] at c0 c1 c2 hd
      simp only at c0 c1 c2 hd
      have HS := Lib.hid (fun w => state_c xr xt xd m w)
      have hX5 := heap_old hX (.cells #[.string xr, .int .i64 xt, .int .i64 xd, .int .i64 (-1), .int .i64 0] 62)
      have hY5 := heap_old hY (.cells #[.string xr, .int .i64 xt, .int .i64 xd, .int .i64 (-1), .int .i64 0] 62)
      have hS5 := heap_new wr (.cells #[.string xr, .int .i64 xt, .int .i64 xd, .int .i64 (-1), .int .i64 0] 62) rfl
      have hb5 : Below w.heap.size w (wr.alloc (.cells #[.string xr, .int .i64 xt, .int .i64 xd, .int .i64 (-1), .int .i64 0] 62)) := hb.alloc hb.size _
      have hR5 : Rws (wr.alloc (.cells #[.string xr, .int .i64 xt, .int .i64 xd, .int .i64 (-1), .int .i64 0] 62)) (some ⟨bb, off, none⟩) 5 n (sdV es) := hR.below (by go_grown)
      have hol := lt_heap hY
      clear hcc hx
      go_upto_region 10 with fail
      obtain ⟨sb, hsb⟩ : ∃ sb, wr.heap.size = sb := ⟨_, rfl⟩
      rw [hsb] at hS5 hol ⊢
      generalize wr.alloc (.cells #[.string xr, .int .i64 xt, .int .i64 xd, .int .i64 (-1), .int .i64 0] 62) = w5 at hX5 hY5 hS5 hb5 hR5 ⊢
      clear c0 c1 c2 c3 c4 hX hY hR hb hsb hbw
      obtain ⟨s0, s1, s2, s3, s4, s5⟩ := obox5 hS5
      by_cases hdm : xd < m
      · rw [if_pos hdm] at HS
        clear hdm
        go_wp2_with fail
        refine (HS.out _).mono ?_
        rintro e w6 ⟨rfl, hb6⟩
        have hX6 := heap_below hX5 hb6
        have hY6 := heap_below hY5 hb6
        have hS6 := heap_below hS5 hb6
        have hB6 := below_then hb6 hb5 hb5.size
        have hR6 := hR5.below hb6
        clear s0 s1 s2 s3 s4 s5
        obtain ⟨s0, s1, s2, s3, s4, s5⟩ := obox5 hS6
        obtain ⟨⟨y0, y1, y2, y3, y4, y5⟩, ⟨z0, z1, z2, z3, z4, z5⟩, y6⟩ := obox6 hY6
        have hY7 : (w6.setCell ⟨ob, 1, none⟩ (.int .i64 ((b : Int) + 1))).heap[ob]? = some (.cells #[.int .i64 a, .int .i64 (b + 1 : Nat), .int .i64 0, .int .i64 0, .int .i64 0, .int .i64 0] 41 (0, 0)) := by simpa using heap_set hY6 1 (.int .i64 ((b : Int) + 1))
        have hX7 : (w6.setCell ⟨ob, 1, none⟩ (.int .i64 ((b : Int) + 1))).heap[w.heap.size]? = _ := heap_far hX6 (p := ⟨ob, 1, none⟩) (by show w.heap.size ≠ ob; omega) _
        have hB7 : Below w.heap.size w (w6.setCell ⟨ob, 1, none⟩ (.int .i64 ((b : Int) + 1))) := hB6.setCell (p := ⟨ob, 1, none⟩) (by show w.heap.size ≤ ob; omega) _
        have hR7 := rws_far hR6 (p := ⟨ob, 1, none⟩) (rws_ne hR6 hY6) (.int .i64 ((b : Int) + 1))
        have hS7 := heap_far hS6 (p := ⟨ob, 1, none⟩) (by show sb ≠ ob; omega) (.int .i64 ((b : Int) + 1))
        obtain ⟨t0, t1, t2, t3, t4, t5⟩ := obox5 hS7
        go_wp2
        go_roundw
        case rel => exact ⟨k + 1, a, b + 1, by omega, by go_num, by omega, hB7, hX7, hY7, hR7⟩
        case measure => simp [intOf]; omega
      · rw [if_neg hdm] at HS
        clear hdm
        go_wp2_with fail
        refine (HS.out _).mono ?_
        rintro e w6 ⟨rfl, hb6⟩
        have hX6 := heap_below hX5 hb6
        have hY6 := heap_below hY5 hb6
        have hS6 := heap_below hS5 hb6
        have hB6 := below_then hb6 hb5 hb5.size
        have hR6 := hR5.below hb6
        clear s0 s1 s2 s3 s4 s5
        obtain ⟨s0, s1, s2, s3, s4, s5⟩ := obox5 hS6
        obtain ⟨⟨y0, y1, y2, y3, y4, y5⟩, ⟨z0, z1, z2, z3, z4, z5⟩, y6⟩ := obox6 hY6
        have hY7 : (w6.setCell ⟨ob, 0, none⟩ (.int .i64 ((a : Int) + 1))).heap[ob]? = some (.cells #[.int .i64 (a + 1 : Nat), .int .i64 b, .int .i64 0, .int .i64 0, .int .i64 0, .int .i64 0] 41 (0, 0)) := by simpa using heap_set hY6 0 (.int .i64 ((a : Int) + 1))
        have hX7 : (w6.setCell ⟨ob, 0, none⟩ (.int .i64 ((a : Int) + 1))).heap[w.heap.size]? = _ := heap_far hX6 (p := ⟨ob, 0, none⟩) (by show w.heap.size ≠ ob; omega) _
        have hB7 : Below w.heap.size w (w6.setCell ⟨ob, 0, none⟩ (.int .i64 ((a : Int) + 1))) := hB6.setCell (p := ⟨ob, 0, none⟩) (by show w.heap.size ≤ ob; omega) _
        have hR7 := rws_far hR6 (p := ⟨ob, 0, none⟩) (rws_ne hR6 hY6) (.int .i64 ((a : Int) + 1))
        have hS7 := heap_far hS6 (p := ⟨ob, 0, none⟩) (by show sb ≠ ob; omega) (.int .i64 ((a : Int) + 1))
        obtain ⟨t0, t1, t2, t3, t4, t5⟩ := obox5 hS7
        go_wp2
        go_roundw
        case rel => exact ⟨k + 1, a + 1, b, by omega, by go_num, by omega, hB7, hX7, hY7, hR7⟩
        case measure => simp [intOf]; omega
    · obtain rfl : k = n := by omega
      obtain ⟨⟨x0, x1, x2, x3, x4, x5⟩, ⟨z0, z1, z2, z3, z4, z5⟩, x6⟩ := obox6 hX
      obtain ⟨⟨y0, y1, y2, y3, y4, y5⟩, -, y6⟩ := obox6 hY
      clear hX hY hR
      go_wp2
      exact bodyPost_ret (v := .tuple #[.agg #[.int .i64 a, .int .i64 b, .int .i64 0, .int .i64 0, .int .i64 0, .int .i64 0], .int .i64 0]) (by simp [results, Tryd.results8, go_sem, x0, x1, x2, x3, x4, x5]) rfl ⟨by go_grown, a, b, hab, rfl⟩
end Go.Proofs.YtlkidhfjkgppoaaDoor
