
/- The walks of package desk: outbox, Outbox. -/
import Derived.Test.YtlkidhfjkgppoaaDoorO4
import Derived.Maps.OwnOps
import Derived.Maps.OwnSet
import Derived.Maps.Views
namespace Go.Proofs.YtlkidhfjkgppoaaDoor
open Go.RowKit Limb Work Go.Maps
set_option linter.unusedVariables false
set_option linter.unusedSimpArgs false

/-! ### The map of a lane's end -/
def Frees (D : DataW Unit) (f : ByteArray → Int) : Prop := ∀ s : ByteArray, D.atKey (.string s.data.toList) (.lit (.int .i64 0)) = .lit (.int .i64 (f s))
theorem frees_nil : Frees (.map []) (fun _ => 0) := fun _ => rfl
theorem frees_upd {D : DataW Unit} {f : ByteArray → Int} {l : ByteArray} {v : Int} (hD : IsMap D) (h : Frees D f) : Frees (D.put (.string l.data.toList) (.lit (.int .i64 v))) (upd f l v) := fun s => by
  unfold upd
  by_cases hs : s = l
  · subst hs
    rw [if_pos rfl, atKey_put_same hD (show WideAt.IsKeyLit (.string _) from trivial)]
  · rw [if_neg hs, atKey_put_other (fun e => hs (by
      injection e with e
      apply ByteArray.ext
      apply Array.ext'
      exact e)), h s]
theorem grown_ne {w w' : World} {row : Option Nat} {g : Nat} {o : Obj} (hg : w.grownBy w' row) (h : w.heap[g]? = some o) (hne : some g ≠ row) : w'.heap[g]? = some o := (hg.block g (lt_heap h) hne).trans h
theorem own_ne {w w' : World} {base m : Nat} {e : TypeId} {size n : Nat} {v : Value} {xs : List Value} (h : w.ownsRow base e size v n xs) (hg : w.grownBy w' (some m)) (hm : m < base) : w'.ownsRow base e size v n xs := by
  refine ⟨h.1, ?_⟩
  rcases h.2 with h | ⟨g, cap, cur, hv, hb, hh, h1, h2, h3, h4⟩
  · exact .inl h
  · exact .inr ⟨g, cap, cur, hv, hb, grown_ne hg hh (by simp; omega), h1, h2, h3, h4⟩
theorem own_block {w : World} {base : Nat} {e : TypeId} {size n : Nat} {v : Value} {xs : List Value} (h : w.ownsRow base e size v n xs) {g : Nat} (hg : g < base) : some g ≠ v.ownBlock := fun e => by
  have := (h.lt g e.symm).1
  omega
theorem ifmax (a b : Int) : (if a < b then b else a) = max a b := by split <;> omega
theorem below_grownBy {w w' : World} (h : Below w.heap.size w w') : w.grownBy w' none := ⟨h.os, h.tape, h.output, h.size, fun k hk _ => h.block k hk⟩
theorem lawS : Keyed Tryd.prog 9 := string_keyed Tryd.underlying9
theorem zeroI (w : World) : (zeroValue 3).run Tryd.prog w = .ok (.int .i64 0) w := by kernel_rfl

/-! ### Rows of what was sent -/
def sA (r : List Snt) (j : Nat) : Snt := r.getD j ⟨0, 0, 0⟩
theorem sA_get {r : List Snt} {j : Nat} (h : j < r.length) : r[j] = sA r j := by simp [sA, List.getD_eq_getElem?_getD, h]
def sntV (r : List Snt) (j i : Nat) : Value := match i with | 0 => .int .i64 (sA r j).tries | 1 => .int .i64 (sA r j).done | _ => .int .i64 (sA r j).gave
def sentC (r : List Snt) : List Value := r.flatMap fun s => [.int .i64 s.tries, .int .i64 s.done, .int .i64 s.gave]
theorem sentC_snoc (r : List Snt) (s : Snt) : sentC r ++ [.int .i64 s.tries, .int .i64 s.done, .int .i64 s.gave] = sentC (r ++ [s]) := by unfold sentC; rw [List.flatMap_append]; simp
theorem sentC_at : ∀ {r : List Snt} {j : Nat}, j < r.length → ∀ i, i < 3 → (sentC r)[j * 3 + i]? = some (sntV r j i)
  | [], j, h, i, hi => by simp at h
  | s :: r, 0, h, i, hi => by
    match i, hi with
    | 0, _ => rfl
    | 1, _ => rfl
    | 2, _ => rfl
  | s :: r, j + 1, h, i, hi => by
    have ih := sentC_at (r := r) (j := j) (by simpa using h) i hi
    have e : (sentC (s :: r))[(j + 1) * 3 + i]? = (sentC r)[j * 3 + i]? := by
      show ([Value.int .i64 s.tries, .int .i64 s.done, .int .i64 s.gave] ++ sentC r)[(j + 1) * 3 + i]? = _
      rw [List.getElem?_append_right (by simp; omega)]
      congr 1
      simp
      omega
    rw [e, ih]
    unfold sntV
    have : sA (s :: r) (j + 1) = sA r j := by simp [sA]
    rw [this]
theorem frees_at {D : DataW Unit} {f : ByteArray → Int} {l : ByteArray} {c : Int} (h : Frees D f) (hat : D.atKey (.string l.data.toList) (.lit (.int .i64 0)) = .lit (.int .i64 c)) : f l = c := by
  have := h l
  rw [hat] at this
  injection this with this
  injection this with _ this
  exact this.symm
abbrev MpI (w : World) (b n : Nat) (D : DataW Unit) : Prop := w.ownsMap Tryd.prog 9 (plainElem (H := Unit) Tryd.prog 3) b n D
theorem ints_kept {w w' : World} {row : Option Nat} {A : Option Addr} {n : Nat} {hs : List Int} (h : Ints w A n hs) (hg : w.grownBy w' row) (hne : ∀ b off, 0 < n → A = some ⟨b, off, none⟩ → some b ≠ row) : Ints w' A n hs := by
  refine ⟨h.1, h.2.1, fun hn => ?_⟩
  obtain ⟨b, off, e, hl, hc⟩ := h.2.2 hn
  exact ⟨b, off, e, Nat.lt_of_lt_of_le hl hg.size, fun j hj => hg.cell (hc j hj) (hne b off hn e)⟩
theorem ints_map {w : World} {A : Option Addr} {n b m off k : Nat} {D : DataW Unit} {hs : List Int} (h : Ints w A n hs) (hm : MpI w m k D) (hn : 0 < n) (hA : A = some ⟨b, off, none⟩) : b ≠ m := by
  rintro rfl
  obtain ⟨b', off', e, hl, hc⟩ := h.2.2 hn
  rw [hA] at e
  cases e
  have h0 := hc 0 hn
  obtain ⟨es, clock, hh, _⟩ := hm
  simp [World.cell?, hh] at h0
def RetOut (o : Option (List Snt)) (w : World) (e : Ending) (w' : World) : Prop := Below w.heap.size w w' ∧ match o with
  | none => e = .returned (.tuple #[.slice none 0 0, .int .i64 1])
  | some r => ∃ A c, e = .returned (.tuple #[.slice A r.length c, .int .i64 0]) ∧ Rws w' A 3 r.length (sntV r)
def polOut (p : Pol) (js : List Jb) (os : List Otg) : Option (List Snt) := outL os (waitsL p) p.io js (fun _ => 0)

set_option maxHeartbeats 8000000 in
set_option maxRecDepth 100000 in
theorem outbox_c (p : Pol) (A B : Option Addr) (c d : Nat) (js : List Jb) (os : List Otg) (w : World) (hp : PolOk p) (hjo : JobsOk js) (hoo : OutsOk os) (hj : Jobs w A js) (ho : Outs w B os) :
    Calls Tryd.prog 12 #[polV p, .slice A js.length c, .slice B os.length d] w (RetOut (polOut p js os) w) := by
  obtain ⟨i0, hi⟩ : ∃ i, Tryd.prog.info? 33 = some i := ⟨_, rfl⟩
  have hz0 : i0.zero = some (.agg #[.int .i64 0, .int .i64 0, .int .i64 0]) := by obtain rfl := Option.some.inj (hi.symm.trans rfl); rfl
  have hz1 : i0.size = 3 := by obtain rfl := Option.some.inj (hi.symm.trans rfl); rfl
  have hz2 : i0.bytes = 24 := by obtain rfl := Option.some.inj (hi.symm.trans rfl); rfl
  have hmm := @run_makeMap Tryd.prog
  obtain ⟨R, hR⟩ : ∃ R, polOut p js os = R := ⟨_, rfl⟩
  have HR := Lib.hid hR
  have HWT := Lib.hid (fun w => waits_c p w hp)
  obtain ⟨ws, hws⟩ : ∃ ws, waitsL p = ws := ⟨_, rfl⟩
  have hwl : ws.length ≤ 19 := by rw [← hws]; unfold waitsL; rw [waitsF_len]; have := hp.2.2.2; omega
  have hwr : ∀ x ∈ ws, 1 ≤ x ∧ x ≤ 1000000 := fun x hx => by
    rw [← hws] at hx
    have := waitsF_rng (K := p.factor) (M := p.most) hp.2.1.1 (by have := hp.1; have := hp.2.2.1; omega) _ _ hp.1.1 hp.2.2.1.1 x hx
    have := hp.2.2.1
    omega
  have hRR : polOut p js os = outL os ws p.io js (fun _ => 0) := by unfold polOut; rw [hws]
  rw [hRR] at hR
  have HR := Lib.hid hR
  rw [hws] at HWT
  have HSD := Lib.hid (fun Bw dw l t w ht hi ho => sending_c Bw B dw d ws os l t w hwl hwr hoo.1 ht hi ho)
  have HJO := Lib.hid hjo; have Hj := Lib.hid hj; have Ho := Lib.hid ho
  obtain ⟨N, hN⟩ : ∃ N, js.length = N := ⟨_, rfl⟩
  have hN1 : N ≤ 1000 := by have := hjo.1; omega
  have HN := Lib.hid hN
  obtain ⟨M, hM⟩ : ∃ M, os.length = M := ⟨_, rfl⟩
  obtain ⟨Q, hQ⟩ : ∃ Q, ws.length = Q := ⟨_, rfl⟩
  have HQ := Lib.hid hQ
  rw [hM] at HSD
  rw [hRR, hR, hM, hN]
  unfold RetWt at HWT
  rw [hQ] at HWT HSD
  have HWR := Lib.hid hwr
  clear hR hws hRR hjo hj ho hN hM hwl hwr hp hoo hQ
  obtain ⟨F, K, M2, T, io⟩ := p
  unfold polV at *
  go_enter Tryd.func12, Tryd.ntmps12
  go_wp2_with fail
  have hX1 := heap_old (heap_new w (.cells #[.int .i64 F, .int .i64 K, .int .i64 M2, .int .i64 T, .bool io] 23) rfl) (.map #[] 0)
  have hM1 : MpI ((w.alloc (.cells #[.int .i64 F, .int .i64 K, .int .i64 M2, .int .i64 T, .bool io] 23)).alloc (.map #[] 0)) (w.heap.size + 1) 0 (.map []) := by
    have := World.ownsMap_made (w.alloc (.cells #[.int .i64 F, .int .i64 K, .int .i64 M2, .int .i64 T, .bool io] 23)) Tryd.prog 9 (plainElem (H := Unit) Tryd.prog 3)
    rwa [World.size_alloc] at this
  have hb1 : Below w.heap.size w ((w.alloc (.cells #[.int .i64 F, .int .i64 K, .int .i64 M2, .int .i64 T, .bool io] 23)).alloc (.map #[] 0)) := by go_grown
  have hs1 : w.heap.size + 2 ≤ ((w.alloc (.cells #[.int .i64 F, .int .i64 K, .int .i64 M2, .int .i64 T, .bool io] 23)).alloc (.map #[] 0)).heap.size := by simp
  generalize (w.alloc (.cells #[.int .i64 F, .int .i64 K, .int .i64 M2, .int .i64 T, .bool io] 23)).alloc (.map #[] 0) = w1 at hX1 hM1 hb1 hs1 ⊢
  refine (HWT.out _).mono ?_
  rintro e w2 ⟨Aw, cw, rfl, hiw, hb2⟩
  have hX2 := heap_below hX1 hb2
  have hM2 := hM1.kept (below_grownBy hb2) (by simp)
  have hB2 := below_then hb2 hb1 hb1.size
  have hs2 := Nat.le_trans hs1 hb2.size
  clear hX1 hM1 hb1 hs1 hb2
  go_wp2_with fail
  have HAW := Lib.hid (show ∀ b off, 0 < Q → Aw = some ⟨b, off, none⟩ → b < w2.heap.size ∧ b ≠ w.heap.size + 1 from fun b off hq he => ⟨by
    obtain ⟨b', off', e, hl, _⟩ := hiw.2.2 hq
    rw [he] at e
    cases e
    exact hl, ints_map hiw hM2 hq he⟩)
  obtain ⟨Z, hZ⟩ : ∃ Z, w2.heap.size = Z := ⟨_, rfl⟩
  rw [hZ] at HAW hs2
  have hsZ := hs2
  have HZ := Lib.hid hZ
  go_loopw [8, 21] (fun ov iv wr => ∃ (k c2 : Nat) (A2 : Option Addr) (acc : List Snt) (n : Nat) (D : DataW Unit) (f : ByteArray → Int), k ≤ N ∧ iv = .int .i64 k ∧ ov = .slice A2 k c2 ∧ Hid (acc.length = k) ∧ n ≤ k ∧
      wr.ownsRow Z 33 3 (.slice A2 k c2) k (sentC acc) ∧ MpI wr (w.heap.size + 1) n D ∧ Hid (Frees D f) ∧ Hid (∀ s, 0 ≤ f s ∧ f s ≤ 2000000000000000) ∧
      Below w.heap.size w wr ∧ wr.heap[w.heap.size]? = some (.cells #[.int .i64 F, .int .i64 K, .int .i64 M2, .int .i64 T, .bool io] 23 (0, 0)) ∧ Z ≤ wr.heap.size ∧ Ints wr Aw Q ws ∧ Hid (R = (outL os ws io (js.drop k) f).map (fun r => acc ++ r))) (fun _ iv _ => N - (intOf iv).toNat)
  case atStart => exact ⟨0, 0, none, [], 0, .map [], fun _ => 0, Nat.zero_le _, rfl, rfl, Lib.hid rfl, Nat.le_refl _, World.ownsRow_nil _ _ _ _, hM2, Lib.hid frees_nil, Lib.hid (fun _ => ⟨Int.le_refl _, by simp⟩), hB2, hX2, by rw [HZ.out]; exact Nat.le_refl _, hiw, Lib.hid (by rw [List.drop_zero, HR.out]; simp)⟩
  case round =>
    obtain ⟨k, c2, A2, acc, n, D, f, hk, rfl, rfl, HA, hnk, hown, hM, HF, HFR, hb, hX, hzr, hiw, HE⟩ := hrel
    clear hM2 hX2 hB2
    rcases Nat.lt_or_ge k N with hlt | hge
    · have hltj : k < js.length := by rw [HN.out]; exact hlt
      obtain ⟨b, off, rfl, hbw, hc⟩ := (Hj.out.below hb).2.get hltj
      have hsz := Hj.out.1 js[k] (List.getElem_mem hltj)
      rw [jA_get hltj] at hsz
      have c0 : wr.cell? ⟨b, off + k * 2, none⟩ = some (.string (jA js k).lane) := hc 0 (by decide)
      have c1 : wr.cell? ⟨b, off + k * 2 + 1, none⟩ = some (.int .i64 (jA js k).at_) := hc 1 (by decide)
      have hjo := HJO.out.2 k hltj
      have hdr : js.drop k = jA js k :: js.drop (k + 1) := by rw [List.drop_eq_getElem_cons hltj, jA_get hltj]
      have hE := HE.out
      rw [hdr] at hE
      obtain ⟨x, hx⟩ : ∃ x, jA js k = x := ⟨_, rfl⟩
      have hat2 := hjo.2.1
      rw [hx] at hsz c0 c1 hE hat2
      obtain ⟨xl, xa⟩ := x
      simp only at hsz c0 c1 hat2
      have HE2 := Lib.hid hE
      have HFx := Lib.hid (HFR.out xl)
      have HM := Lib.hid hM; have HOW := Lib.hid hown; have HX := Lib.hid hX
      obtain ⟨g0, g1, g2, g3, g4, g5⟩ := obox5 hX
      clear hc hjo hdr hE hx hltj hM hown hX
      cases io with
      | true =>
        go_wp2_with (at_lookup; refine wpList_lookup_own_int _ rfl _ _ 69 rfl 9 3 .i64 lawS Tryd.underlying69 Tryd.underlying3 (zeroI _) (w.heap.size + 1) n D rfl (HM.out.alloc _) _ _ rfl (WideMaps.keyOf_string_mk Tryd.underlying9 hsz) ?_; intro cv hat hwc; obtain rfl := frees_at HF.out hat)
        have hJ4 := heap_new wr (.cells #[.string xl, .int .i64 xa] 39) rfl
        have hX4 := heap_old HX.out (.cells #[.string xl, .int .i64 xa] 39)
        have hM4 := HM.out.alloc (.cells #[.string xl, .int .i64 xa] 39)
        have hO4 := HOW.out.alloc (.cells #[.string xl, .int .i64 xa] 39)
        have hi4 := hiw.alloc (.cells #[.string xl, .int .i64 xa] 39)
        have hb4 : Below w.heap.size w (wr.alloc (.cells #[.string xl, .int .i64 xa] 39)) := by go_grown
        have hz4 : Z ≤ (wr.alloc (.cells #[.string xl, .int .i64 xa] 39)).heap.size := by simp; omega
        have hwz := hb.size
        obtain ⟨jb, hjb⟩ : ∃ jb, wr.heap.size = jb := ⟨_, rfl⟩
        rw [hjb] at hJ4 hwz hzr ⊢
        generalize wr.alloc (.cells #[.string xl, .int .i64 xa] 39) = w4 at hJ4 hX4 hM4 hO4 hi4 hb4 hz4 ⊢
        clear hjb HM HOW HX g0 g1 g2 g3 g4 g5 c0 c1 hiw hb hbw
        refine (HSD.out Aw cw xl (max xa (f xl)) w4 (by have := HFx.out; omega) hi4 (Ho.out.below hb4)).mono ?_
        rintro e w5 ⟨⟨st1, sd1, sg1⟩, bb, rfl, hsb, hb5⟩
        have hJ5 := heap_below hJ4 hb5
        have hX5 := heap_below hX4 hb5
        have hM5 := hM4.kept (below_grownBy hb5) (by simp)
        have hO5 := own_below hO4 hb5
        have hi5 := hi4.below hb5
        have hB5 := below_then hb5 hb4 hb4.size
        have hz5 := Nat.le_trans hz4 hb5.size
        have hjl := lt_heap hJ5
        clear hJ4 hX4 hM4 hO4 hi4 hb4 hz4 hb5
        obtain ⟨SS, hSS⟩ : ∃ SS, sendL os xl ws (max xa (f xl)) 0 = SS := ⟨_, rfl⟩
        rw [hSS] at hsb
        have hE := HE2.out
        rw [outL, show startL _ f ⟨xl, xa⟩ = (max xa (f xl)) from rfl, hSS] at hE
        unfold sentV
        simp only
        cases SS with
        | none =>
          simp only at hsb hE
          subst hsb
          have HE3 := Lib.hid (show R = none from hE)
          clear hE hSS hJ5 hX5 hM5 hO5 hi5
          go_wp2
          go_ret2
          refine ⟨by go_grown, ?_⟩
          rw [HE3.out]
          rfl
        | some s0 =>
          simp only at hsb hE
          obtain ⟨rfl, rfl⟩ := hsb
          have hok := sendL_ok (fun x hx => by have := HWR.out x hx; omega) (by have := HFx.out; omega) hSS
          obtain ⟨-, -, hok⟩ := hok
          have hd1 : -1 ≤ sd1 ∧ sd1 ≤ 2000000000000000 := by simp only at hok; omega
          have hd2 : -1 ≤ sg1 ∧ sg1 ≤ 2000000000000000 := by simp only at hok; omega
          have HE3 := Lib.hid (show R = (outL os ws _ (js.drop (k + 1)) (upd f xl (max (max (f xl) sd1) sg1))).map (fun r => (acc ++ [⟨st1, sd1, sg1⟩]) ++ r) by
            rw [hE]
            show Option.map _ (match outL os ws _ (js.drop (k + 1)) (upd f xl (max (max (f xl) sd1) sg1)) with | none => none | some r => some (⟨st1, sd1, sg1⟩ :: r)) = _
            cases outL os ws _ (js.drop (k + 1)) (upd f xl (max (max (f xl) sd1) sg1)) with
            | none => rfl
            | some r => simp)
          have HO5 := Lib.hid hO5; have HM5 := Lib.hid hM5; have HX5 := Lib.hid hX5
          obtain ⟨j0, j1, -, -, -⟩ := box2 hJ5
          have hfb := HFx.out
          have HU := Lib.hid (frees_upd (l := xl) (v := max (max (f xl) sd1) sg1) hM5.isMap HF.out)
          have HU2 := Lib.hid (show ∀ s, 0 ≤ upd f xl (max (max (f xl) sd1) sg1) s ∧ upd f xl (max (max (f xl) sd1) sg1) s ≤ 2000000000000000 from fun s => by
            unfold upd
            split
            · omega
            · exact HFR.out s)
          clear hok hE hSS hO5 hM5 hX5 hJ5
          go_wp2_with (first
            | (at_lookup; refine wpList_lookup_own_int _ rfl _ _ 69 rfl 9 3 .i64 lawS Tryd.underlying69 Tryd.underlying3 (zeroI _) (w.heap.size + 1) n D rfl (HM5.out.alloc _) _ _ rfl (WideMaps.keyOf_string_mk Tryd.underlying9 hsz) ?_; intro cv hat hwc; obtain rfl := frees_at HF.out hat)
            | (at_mapUpdate; refine wpList_mapUpdate_own _ rfl _ _ _ 69 rfl 9 3 lawS Tryd.underlying69 _ (w.heap.size + 1) n D rfl (HM5.out.alloc _) (by unfold maxLen; omega) _ _ _ rfl rfl (WideMaps.keyOf_string_mk Tryd.underlying9 hsz) _ [] (plainElem_int Tryd.underlying3 (WalkArith.wf_i64 (by omega))) ?_; intro w6 hM6 hg6; have hS6 := grown_ne hg6 (heap_new w5 (.cells #[.int .i64 st1, .int .i64 sd1, .int .i64 sg1] 33) rfl) (by simp; omega); obtain ⟨⟨p0, p1, p2⟩, -, -⟩ := obox3 hS6; have HO6 := Lib.hid (own_ne (HO5.out.alloc (.cells #[.int .i64 st1, .int .i64 sd1, .int .i64 sg1] 33)) hg6 (by omega)); have hz6 := Nat.le_trans hz5 (Nat.le_trans (by simp : w5.heap.size ≤ (w5.alloc (.cells #[.int .i64 st1, .int .i64 sd1, .int .i64 sg1] 33)).heap.size) hg6.size))
            | (at_builtin; refine wpList_pushk rfl _ _ 26 rfl Z 33 i0 (.agg #[.int .i64 0, .int .i64 0, .int .i64 0]) 3 24 Tryd.underlying26 hi hz0 hz1 hz2 rfl (by decide) (.slice A2 k c2) k (sentC acc) rfl HO6.out [.int .i64 st1, .int .i64 sd1, .int .i64 sg1] rfl rfl (by intro u hu; simp at hu; rcases hu with rfl | rfl | rfl <;> rfl) (by unfold maxLen; omega) (by omega) hz6 ?_; intro A3 c3 w7 hown7 hg7))
          rw [ifmax, ifmax] at hM6
          rw [sentC_snoc acc ⟨st1, sd1, sg1⟩] at hown7
          have hM7 := hM6.kept hg7 (own_block HO6.out (by omega))
          have hX6 := grown_ne hg6 (heap_old HX5.out (.cells #[.int .i64 st1, .int .i64 sd1, .int .i64 sg1] 33)) (by simp)
          have hX7 := grown_ne hg7 hX6 (own_block HO6.out (by omega))
          have hb6 : Below w.heap.size w w6 := (Below.alloc hB5 (by have := hB5.size; omega) (.cells #[.int .i64 st1, .int .i64 sd1, .int .i64 sg1] 33)).grown hg6 (by simp; have := hB5.size; omega) (fun j hj => by cases hj; omega)
          have hb7 := hb6.grown hg7 hb6.size (fun j hj => by have := (HO6.out.lt j hj).1; omega)
          have hi6 := ints_kept (hi5.alloc (.cells #[.int .i64 st1, .int .i64 sd1, .int .i64 sg1] 33)) hg6 (fun b off hq he => by have := (HAW.out b off hq he).2; simp; exact this)
          have hi7 := ints_kept hi6 hg7 (fun b off hq he => own_block HO6.out (HAW.out b off hq he).1)
          have hA2 := Lib.hid (show (acc ++ [(⟨st1, sd1, sg1⟩ : Snt)]).length = k + 1 by rw [List.length_append, HA.out]; rfl)
          have hz7 := Nat.le_trans hz6 hg7.size
          go_roundw
          case rel => exact ⟨k + 1, c3, A3, _, n + 1, _, _, by omega, by go_num, rfl, hA2, by omega, hown7, hM7, HU, HU2, hb7, hX7, hz7, hi7, HE3⟩
          case measure => simp [intOf]; omega
      | false =>
        go_wp2_with fail
        have hJ4 := heap_new wr (.cells #[.string xl, .int .i64 xa] 39) rfl
        have hX4 := heap_old HX.out (.cells #[.string xl, .int .i64 xa] 39)
        have hM4 := HM.out.alloc (.cells #[.string xl, .int .i64 xa] 39)
        have hO4 := HOW.out.alloc (.cells #[.string xl, .int .i64 xa] 39)
        have hi4 := hiw.alloc (.cells #[.string xl, .int .i64 xa] 39)
        have hb4 : Below w.heap.size w (wr.alloc (.cells #[.string xl, .int .i64 xa] 39)) := by go_grown
        have hz4 : Z ≤ (wr.alloc (.cells #[.string xl, .int .i64 xa] 39)).heap.size := by simp; omega
        have hwz := hb.size
        obtain ⟨jb, hjb⟩ : ∃ jb, wr.heap.size = jb := ⟨_, rfl⟩
        rw [hjb] at hJ4 hwz hzr ⊢
        generalize wr.alloc (.cells #[.string xl, .int .i64 xa] 39) = w4 at hJ4 hX4 hM4 hO4 hi4 hb4 hz4 ⊢
        clear hjb HM HOW HX g0 g1 g2 g3 g4 g5 c0 c1 hiw hb hbw
        refine (HSD.out Aw cw xl (xa) w4 (by have := HFx.out; omega) hi4 (Ho.out.below hb4)).mono ?_
        rintro e w5 ⟨⟨st1, sd1, sg1⟩, bb, rfl, hsb, hb5⟩
        have hJ5 := heap_below hJ4 hb5
        have hX5 := heap_below hX4 hb5
        have hM5 := hM4.kept (below_grownBy hb5) (by simp)
        have hO5 := own_below hO4 hb5
        have hi5 := hi4.below hb5
        have hB5 := below_then hb5 hb4 hb4.size
        have hz5 := Nat.le_trans hz4 hb5.size
        have hjl := lt_heap hJ5
        clear hJ4 hX4 hM4 hO4 hi4 hb4 hz4 hb5
        obtain ⟨SS, hSS⟩ : ∃ SS, sendL os xl ws (xa) 0 = SS := ⟨_, rfl⟩
        rw [hSS] at hsb
        have hE := HE2.out
        rw [outL, show startL _ f ⟨xl, xa⟩ = (xa) from rfl, hSS] at hE
        unfold sentV
        simp only
        cases SS with
        | none =>
          simp only at hsb hE
          subst hsb
          have HE3 := Lib.hid (show R = none from hE)
          clear hE hSS hJ5 hX5 hM5 hO5 hi5
          go_wp2
          go_ret2
          refine ⟨by go_grown, ?_⟩
          rw [HE3.out]
          rfl
        | some s0 =>
          simp only at hsb hE
          obtain ⟨rfl, rfl⟩ := hsb
          have hok := sendL_ok (fun x hx => by have := HWR.out x hx; omega) (by have := HFx.out; omega) hSS
          obtain ⟨-, -, hok⟩ := hok
          have hd1 : -1 ≤ sd1 ∧ sd1 ≤ 2000000000000000 := by simp only at hok; omega
          have hd2 : -1 ≤ sg1 ∧ sg1 ≤ 2000000000000000 := by simp only at hok; omega
          have HE3 := Lib.hid (show R = (outL os ws _ (js.drop (k + 1)) (upd f xl (max (max (f xl) sd1) sg1))).map (fun r => (acc ++ [⟨st1, sd1, sg1⟩]) ++ r) by
            rw [hE]
            show Option.map _ (match outL os ws _ (js.drop (k + 1)) (upd f xl (max (max (f xl) sd1) sg1)) with | none => none | some r => some (⟨st1, sd1, sg1⟩ :: r)) = _
            cases outL os ws _ (js.drop (k + 1)) (upd f xl (max (max (f xl) sd1) sg1)) with
            | none => rfl
            | some r => simp)
          have HO5 := Lib.hid hO5; have HM5 := Lib.hid hM5; have HX5 := Lib.hid hX5
          obtain ⟨j0, j1, -, -, -⟩ := box2 hJ5
          have hfb := HFx.out
          have HU := Lib.hid (frees_upd (l := xl) (v := max (max (f xl) sd1) sg1) hM5.isMap HF.out)
          have HU2 := Lib.hid (show ∀ s, 0 ≤ upd f xl (max (max (f xl) sd1) sg1) s ∧ upd f xl (max (max (f xl) sd1) sg1) s ≤ 2000000000000000 from fun s => by
            unfold upd
            split
            · omega
            · exact HFR.out s)
          clear hok hE hSS hO5 hM5 hX5 hJ5
          go_wp2_with (first
            | (at_lookup; refine wpList_lookup_own_int _ rfl _ _ 69 rfl 9 3 .i64 lawS Tryd.underlying69 Tryd.underlying3 (zeroI _) (w.heap.size + 1) n D rfl (HM5.out.alloc _) _ _ rfl (WideMaps.keyOf_string_mk Tryd.underlying9 hsz) ?_; intro cv hat hwc; obtain rfl := frees_at HF.out hat)
            | (at_mapUpdate; refine wpList_mapUpdate_own _ rfl _ _ _ 69 rfl 9 3 lawS Tryd.underlying69 _ (w.heap.size + 1) n D rfl (HM5.out.alloc _) (by unfold maxLen; omega) _ _ _ rfl rfl (WideMaps.keyOf_string_mk Tryd.underlying9 hsz) _ [] (plainElem_int Tryd.underlying3 (WalkArith.wf_i64 (by omega))) ?_; intro w6 hM6 hg6; have hS6 := grown_ne hg6 (heap_new w5 (.cells #[.int .i64 st1, .int .i64 sd1, .int .i64 sg1] 33) rfl) (by simp; omega); obtain ⟨⟨p0, p1, p2⟩, -, -⟩ := obox3 hS6; have HO6 := Lib.hid (own_ne (HO5.out.alloc (.cells #[.int .i64 st1, .int .i64 sd1, .int .i64 sg1] 33)) hg6 (by omega)); have hz6 := Nat.le_trans hz5 (Nat.le_trans (by simp : w5.heap.size ≤ (w5.alloc (.cells #[.int .i64 st1, .int .i64 sd1, .int .i64 sg1] 33)).heap.size) hg6.size))
            | (at_builtin; refine wpList_pushk rfl _ _ 26 rfl Z 33 i0 (.agg #[.int .i64 0, .int .i64 0, .int .i64 0]) 3 24 Tryd.underlying26 hi hz0 hz1 hz2 rfl (by decide) (.slice A2 k c2) k (sentC acc) rfl HO6.out [.int .i64 st1, .int .i64 sd1, .int .i64 sg1] rfl rfl (by intro u hu; simp at hu; rcases hu with rfl | rfl | rfl <;> rfl) (by unfold maxLen; omega) (by omega) hz6 ?_; intro A3 c3 w7 hown7 hg7))
          rw [ifmax, ifmax] at hM6
          rw [sentC_snoc acc ⟨st1, sd1, sg1⟩] at hown7
          have hM7 := hM6.kept hg7 (own_block HO6.out (by omega))
          have hX6 := grown_ne hg6 (heap_old HX5.out (.cells #[.int .i64 st1, .int .i64 sd1, .int .i64 sg1] 33)) (by simp)
          have hX7 := grown_ne hg7 hX6 (own_block HO6.out (by omega))
          have hb6 : Below w.heap.size w w6 := (Below.alloc hB5 (by have := hB5.size; omega) (.cells #[.int .i64 st1, .int .i64 sd1, .int .i64 sg1] 33)).grown hg6 (by simp; have := hB5.size; omega) (fun j hj => by cases hj; omega)
          have hb7 := hb6.grown hg7 hb6.size (fun j hj => by have := (HO6.out.lt j hj).1; omega)
          have hi6 := ints_kept (hi5.alloc (.cells #[.int .i64 st1, .int .i64 sd1, .int .i64 sg1] 33)) hg6 (fun b off hq he => by have := (HAW.out b off hq he).2; simp; exact this)
          have hi7 := ints_kept hi6 hg7 (fun b off hq he => own_block HO6.out (HAW.out b off hq he).1)
          have hA2 := Lib.hid (show (acc ++ [(⟨st1, sd1, sg1⟩ : Snt)]).length = k + 1 by rw [List.length_append, HA.out]; rfl)
          have hz7 := Nat.le_trans hz6 hg7.size
          go_roundw
          case rel => exact ⟨k + 1, c3, A3, _, n + 1, _, _, by omega, by go_num, rfl, hA2, by omega, hown7, hM7, HU, HU2, hb7, hX7, hz7, hi7, HE3⟩
          case measure => simp [intOf]; omega
    · obtain rfl : k = N := by omega
      have hE := HE.out
      rw [List.drop_eq_nil_of_le (by rw [HN.out]; exact Nat.le_refl _)] at hE
      have HE2 := Lib.hid (show R = some acc by rw [hE]; simp [outL])
      have HW := Lib.hid (own_rws hown (f := sntV acc) (fun j hj i hi => sentC_at (by rw [HA.out]; exact hj) i hi))
      clear hE hown hM hX
      go_wp2
      go_ret2
      refine ⟨hb, ?_⟩
      rw [HE2.out]
      refine ⟨A2, c2, by rw [HA.out]; rfl, ?_⟩
      rw [HA.out]
      exact HW.out
end Go.Proofs.YtlkidhfjkgppoaaDoor
