
/- The walks of package desk: Outbox, PendingAt. -/
import Derived.Test.YtlkidhfjkgppoaaDoorO5
namespace Go.Proofs.YtlkidhfjkgppoaaDoor
open Go.RowKit Limb Work Go.Maps
set_option linter.unusedVariables false
set_option linter.unusedSimpArgs false

def BoxOk (p : Pol) (js : List Jb) (os : List Otg) : Prop := PolOk p ∧ JobsOk js ∧ OutsOk os
def RetBox (p : Pol) (js : List Jb) (os : List Otg) (w : World) (e : Ending) (w' : World) : Prop := Below w.heap.size w w' ∧
  ((∃ f, f ≠ 0 ∧ e = .returned (.tuple #[.slice none 0 0, .int .i64 f])) ∨
   (BoxOk p js os ∧ ∃ r A c, polOut p js os = some r ∧ e = .returned (.tuple #[.slice A r.length c, .int .i64 0]) ∧ Rws w' A 3 r.length (sntV r)))

set_option maxHeartbeats 1000000 in
set_option maxRecDepth 100000 in
theorem Outbox_c (p : Pol) (A B : Option Addr) (c d : Nat) (js : List Jb) (os : List Otg) (w : World) (hn : js.length ≤ 9223372036854775807) (hm : os.length ≤ 9223372036854775807) (hj : Jobs w A js) (ho : Outs w B os) :
    Calls Tryd.prog 4 #[polV p, .slice A js.length c, .slice B os.length d] w (RetBox p js os w) := by
  have HB := Lib.hid (fun w hj ho => boxf_c p A B c d js os w hn hm hj ho)
  have HO := Lib.hid (fun w h1 h2 h3 hj ho => outbox_c p A B c d js os w h1 h2 h3 hj ho)
  have Hj := Lib.hid hj; have Ho := Lib.hid ho
  have HV := Lib.hid (show BoxOk p js os ↔ (PolOk p ∧ JobsOk js ∧ OutsOk os) from Iff.rfl)
  clear hj ho
  obtain ⟨n, hnn⟩ : ∃ n, js.length = n := ⟨_, rfl⟩
  obtain ⟨m, hmm⟩ : ∃ m, os.length = m := ⟨_, rfl⟩
  rw [hnn, hmm] at HB HO
  rw [hnn, hmm]
  clear hn hm hnn hmm
  obtain ⟨F, K, M2, T, io⟩ := p
  unfold polV at *
  simp only at HB HO ⊢
  go_enter Tryd.func4, Tryd.ntmps4
  go_wp2_with fail
  have hX := heap_new w (.cells #[.int .i64 F, .int .i64 K, .int .i64 M2, .int .i64 T, .bool io] 23) rfl
  have hb0 : Below w.heap.size w (w.alloc (.cells #[.int .i64 F, .int .i64 K, .int .i64 M2, .int .i64 T, .bool io] 23)) := by go_grown
  generalize w.alloc (.cells #[.int .i64 F, .int .i64 K, .int .i64 M2, .int .i64 T, .bool io] 23) = w1 at hX hb0 ⊢
  refine (HB.out _ (Hj.out.below hb0) (Ho.out.below hb0)).mono ?_
  rintro e w2 ⟨f, rfl, hf, hb2⟩
  have hX2 := heap_below hX hb2
  have hB2 := below_then hb2 hb0 hb0.size
  obtain ⟨g0, g1, g2, g3, g4, g5⟩ := obox5 hX2
  by_cases h0 : f = 0
  case neg =>
    have h0' : (f != 0) = true := by simpa using h0
    have H0 := Lib.hid h0
    clear hf h0
    go_wp2
    go_ret2
    exact ⟨hB2, .inl ⟨f, H0.out, rfl⟩⟩
  subst h0
  have hok := hf.1 rfl
  have HC := Lib.hid (HO.out w2 hok.1 hok.2.1 hok.2.2 (Hj.out.below hB2) (Ho.out.below hB2))
  have HK := Lib.hid hok
  clear hf hok
  go_wp2_with fail
  refine HC.out.mono ?_
  rintro e w3 ⟨hb3, hr⟩
  have hB3 := below_then hb3 hB2 hB2.size
  obtain ⟨R, hR⟩ : ∃ R, polOut ⟨F, K, M2, T, io⟩ js os = R := ⟨_, rfl⟩
  rw [hR] at hr
  have HR := Lib.hid hR
  cases R with
  | none =>
    simp only at hr
    subst hr
    clear hR
    go_wp2
    go_ret2
    exact ⟨hB3, .inl ⟨1, by decide, rfl⟩⟩
  | some r =>
    obtain ⟨A2, c2, rfl, hrw⟩ := hr
    have HRW := Lib.hid hrw
    clear hR hrw
    go_wp2
    go_ret2
    exact ⟨hB3, .inr ⟨HK.out, r, A2, c2, HR.out, rfl, HRW.out⟩⟩

theorem pend_len (t : Int) (js : List Jb) (r : List Snt) : ∀ n, (pendL t js r n).length ≤ n
  | 0 => Nat.le_refl _
  | n + 1 => by
    have := pend_len t js r n
    unfold pendL
    split <;> simp <;> omega
theorem pend_rng (t : Int) (js : List Jb) (r : List Snt) : ∀ n, ∀ d ∈ pendL t js r n, 0 ≤ d ∧ d < n
  | 0, d, h => by cases h
  | n + 1, d, h => by
    unfold pendL at h
    rcases List.mem_append.1 h with h | h
    · have := pend_rng t js r n d h; omega
    · split at h
      · have := List.mem_singleton.1 h; omega
      · cases h
def RetPend (l : List Int) (w : World) (e : Ending) (w' : World) : Prop := Below w.heap.size w w' ∧ ∃ A c, e = .returned (.tuple #[.slice A l.length c, .int .i64 0]) ∧ Ints w' A l.length l
set_option maxHeartbeats 4000000 in
set_option maxRecDepth 100000 in
theorem pending_c (p : Pol) (A B : Option Addr) (c d : Nat) (js : List Jb) (os : List Otg) (r : List Snt) (t : Int) (w : World) (hok : BoxOk p js os) (hr : polOut p js os = some r) (hrl : r.length = js.length) (ht : 0 ≤ t ∧ t ≤ 1000000000000000) (hj : Jobs w A js) (ho : Outs w B os) :
    Calls Tryd.prog 9 #[polV p, .slice A js.length c, .slice B os.length d, .int .i64 t] w (RetPend (pendL t js r js.length) w) := by
  obtain ⟨i0, hi⟩ : ∃ i, Tryd.prog.info? 3 = some i := ⟨_, rfl⟩
  have hz0 : i0.zero = some (.int .i64 0) := by obtain rfl := Option.some.inj (hi.symm.trans rfl); rfl
  have hz1 : i0.size = 1 := by obtain rfl := Option.some.inj (hi.symm.trans rfl); rfl
  have hz2 : i0.bytes = 8 := by obtain rfl := Option.some.inj (hi.symm.trans rfl); rfl
  have hl1 := hok.2.1.1
  have hl2 := hok.2.2.1
  have HB := Lib.hid (fun w hj ho => boxf_c p A B c d js os w (by omega) (by omega) hj ho)
  have HO := Lib.hid (fun w hj ho => outbox_c p A B c d js os w hok.1 hok.2.1 hok.2.2 hj ho)
  have HT := Lib.hid (fun w => out_no t 0 2000000000000000 w (by omega))
  have Hj := Lib.hid hj; have Ho := Lib.hid ho
  rw [hr] at HO
  obtain ⟨n, hnn⟩ : ∃ n, js.length = n := ⟨_, rfl⟩
  obtain ⟨m, hmm⟩ : ∃ m, os.length = m := ⟨_, rfl⟩
  have HNN := Lib.hid hnn
  have HRL := Lib.hid hrl
  have HK := Lib.hid hok
  unfold RetOut at HO
  simp only at HO
  rw [hnn, hmm] at HB HO
  rw [hrl, hnn] at HO
  rw [hnn, hmm]
  rw [hnn] at hl1
  clear hj ho hnn hmm hr hrl hok hl2
  obtain ⟨F, K, M2, T, io⟩ := p
  unfold polV at *
  simp only at HB HO ⊢
  go_enter Tryd.func9, Tryd.ntmps9
  go_wp2_with fail
  have hX := heap_new w (.cells #[.int .i64 F, .int .i64 K, .int .i64 M2, .int .i64 T, .bool io] 23) rfl
  have hb0 : Below w.heap.size w (w.alloc (.cells #[.int .i64 F, .int .i64 K, .int .i64 M2, .int .i64 T, .bool io] 23)) := by go_grown
  generalize w.alloc (.cells #[.int .i64 F, .int .i64 K, .int .i64 M2, .int .i64 T, .bool io] 23) = w1 at hX hb0 ⊢
  refine (HB.out _ (Hj.out.below hb0) (Ho.out.below hb0)).mono ?_
  rintro e w2 ⟨f, rfl, hf, hb2⟩
  obtain rfl : f = 0 := hf.2 HK.out
  have hX2 := heap_below hX hb2
  have hB2 := below_then hb2 hb0 hb0.size
  obtain ⟨g0, g1, g2, g3, g4, g5⟩ := obox5 hX2
  clear hf hX hb0 hb2
  go_wp2_with fail
  refine (HT.out _).mono ?_
  rintro e w3 ⟨rfl, rfl⟩
  have HC := Lib.hid (HO.out w2 (Hj.out.below hB2) (Ho.out.below hB2))
  go_wp2_with fail
  refine HC.out.mono ?_
  rintro e w3 ⟨hb3, A2, c2, rfl, hrw⟩
  have hB3 := below_then hb3 hB2 hB2.size
  have HRW := Lib.hid hrw
  clear hX2 hb3 hrw hB2 g0 g1 g2 g3 g4 g5
  go_wp2
  have HZ := hB3.size
  obtain ⟨Z, hZ⟩ : ∃ Z, w3.heap.size = Z := ⟨_, rfl⟩
  rw [hZ] at HZ
  have HZE := Lib.hid hZ
  go_loopw [13, 37] (fun ov iv wr => ∃ (k q c3 : Nat) (A3 : Option Addr) (acc : List Int), k ≤ n ∧ iv = .int .i64 k ∧ ov = .slice A3 q c3 ∧ Hid (acc.length = q) ∧ q ≤ k ∧ Hid (acc = pendL t js r k) ∧
      wr.ownsRow Z 3 1 (.slice A3 q c3) q (intV acc) ∧ Below w.heap.size w wr ∧ Below Z w3 wr ∧ Z ≤ wr.heap.size) (fun _ iv _ => n - (intOf iv).toNat)
  case atStart => exact ⟨0, 0, 0, none, [], Nat.zero_le _, rfl, rfl, Lib.hid rfl, Nat.le_refl _, Lib.hid rfl, World.ownsRow_nil _ _ _ _, hB3, Below.refl _ _, by rw [HZE.out]; exact Nat.le_refl _⟩
  case round =>
    obtain ⟨k, q, c3, A3, acc, hk, rfl, rfl, HA, hqk, HP, hown, hb, hbz, hzr⟩ := hrel
    rcases Nat.lt_or_ge k n with hlt | hge
    · have hltj : k < js.length := by rw [HNN.out]; exact hlt
      have hltr : k < r.length := by rw [HRL.out]; exact hltj
      obtain ⟨b, off, rfl, hbw, hc⟩ := (Hj.out.below hb).2.get hltj
      obtain ⟨b2, off2, rfl, hbw2, hc2⟩ := (HRW.out.below (by rw [HZE.out]; exact hbz)).get hlt
      have c1 : wr.cell? ⟨b, off + k * 2 + 1, none⟩ = some (.int .i64 (jA js k).at_) := hc 1 (by decide)
      have d0 : wr.cell? ⟨b2, off2 + k * 3, none⟩ = some (.int .i64 (sA r k).tries) := hc2 0 (by decide)
      have d1 : wr.cell? ⟨b2, off2 + k * 3 + 1, none⟩ = some (.int .i64 (sA r k).done) := hc2 1 (by decide)
      have d2 : wr.cell? ⟨b2, off2 + k * 3 + 2, none⟩ = some (.int .i64 (sA r k).gave) := hc2 2 (by decide)
      have hpf : pendF t js r k = (decide ((jA js k).at_ ≤ t) && decide (t < max (sA r k).done (sA r k).gave)) := by
        unfold pendF
        rw [List.getElem?_eq_getElem hltj, List.getElem?_eq_getElem hltr, jA_get hltj, sA_get hltr]
      obtain ⟨xa, hxa⟩ : ∃ xa, (jA js k).at_ = xa := ⟨_, rfl⟩
      obtain ⟨⟨x1, x2, x3⟩, hx⟩ : ∃ x, sA r k = x := ⟨_, rfl⟩
      rw [hxa] at c1
      rw [hx] at d0 d1 d2
      rw [hxa, hx] at hpf
      simp only at d0 d1 d2 hpf
      have hP2 : pendL t js r (k + 1) = acc ++ if pendF t js r k then [(k : Int)] else [] := by rw [pendL, ← HP.out]
      rw [hpf] at hP2
      have HOW := Lib.hid hown
      have hZl : w.heap.size ≤ Z := HZ
      have hbA : Below w.heap.size w (wr.alloc (.cells #[.int .i64 x1, .int .i64 x2, .int .i64 x3] 33)) := by go_grown
      have hbB : Below Z w3 (wr.alloc (.cells #[.int .i64 x1, .int .i64 x2, .int .i64 x3] 33)) := hbz.alloc hzr _
      have hzA : Z ≤ (wr.alloc (.cells #[.int .i64 x1, .int .i64 x2, .int .i64 x3] 33)).heap.size := by simp; omega
      have hOA := Lib.hid (hown.alloc (.cells #[.int .i64 x1, .int .i64 x2, .int .i64 x3] 33))
      clear hc hc2 hx hxa hltj hltr hown hpf
      by_cases hA1 : xa ≤ t
      · by_cases hA2 : t < max x2 x3
        · rw [decide_eq_true hA1, decide_eq_true hA2] at hP2
          have HP2 := Lib.hid (show acc ++ [(k : Int)] = pendL t js r (k + 1) from hP2.symm)
          have HA2 := Lib.hid (show (acc ++ [(k : Int)]).length = q + 1 by rw [List.length_append, HA.out]; rfl)
          clear hP2
          go_wp2_with (at_builtin; (refine wpList_push_own rfl _ _ 44 rfl Z 3 i0 (.int .i64 0) 8 Tryd.underlying44 hi hz0 hz1 hz2 rfl (.slice A3 q c3) q (intV acc) rfl hOA.out (.int .i64 (k : Int)) (by rw [World.size_alloc]; rfl) rfl (by unfold maxLen; omega) (by omega) hzA ?_); intro A4 c4 w4 hown4 hg4)
          rw [intV_snoc] at hown4
          have hb4 := hbA.grown hg4 hbA.size (fun j hj => by have := (hOA.out.lt j hj).1; omega)
          have hz4 := hbB.grown hg4 hzA (fun j hj => (hOA.out.lt j hj).1)
          have hzz := Nat.le_trans hzA hg4.size
          go_roundw
          case rel => exact ⟨k + 1, q + 1, c4, A4, _, by omega, by go_num, rfl, HA2, by omega, HP2, hown4, hb4, hz4, hzz⟩
          case measure => simp [intOf]; omega
        · rw [decide_eq_false hA2] at hP2
          have HP2 := Lib.hid (show acc = pendL t js r (k + 1) by rw [hP2]; simp)
          clear hP2
          go_wp2
          go_roundw
          case rel => exact ⟨k + 1, q, c3, A3, acc, by omega, by go_num, rfl, HA, by omega, HP2, hOA.out, hbA, hbB, hzA⟩
          case measure => simp [intOf]; omega
      · rw [decide_eq_false hA1] at hP2
        have HP2 := Lib.hid (show acc = pendL t js r (k + 1) by rw [hP2]; simp)
        clear hP2
        go_wp2
        go_roundw
        case rel => exact ⟨k + 1, q, c3, A3, acc, by omega, by go_num, rfl, HA, by omega, HP2, hOA.out, hbA, hbB, hzA⟩
        case measure => simp [intOf]; omega
    · obtain rfl : k = n := by omega
      have HI := Lib.hid (own_ints hown HA.out (fun x hx => by have := pend_rng t js r k x (by rw [← HP.out]; exact hx); omega))
      clear hown
      go_wp2
      go_ret2
      refine ⟨hb, A3, c3, ?_, ?_⟩
      · rw [← HP.out, HA.out]; rfl
      · rw [← HP.out, HA.out]; exact HI.out
end Go.Proofs.YtlkidhfjkgppoaaDoor
