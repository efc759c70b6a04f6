
/- The walks of package reply on a book of sendings: book, at. -/
import Derived.Test.YtlkidhfjkgppoaaDoorO7
import Derived.Deep.RegionHeld3
import Derived.Deep.AppendLies
import Derived.Deep.CutRange
import Derived.Deep.DeepCutAuto
namespace Go.Proofs.YtlkidhfjkgppoaaDoor
open Go.RowKit Limb Work Go.Maps
set_option linter.unusedVariables false
set_option linter.unusedSimpArgs false

/-! ### A map whose elements are only held apart as nil or not -/
def nilR (v : Value) : Option (DataW Unit × List MemPlace) := match v with | .slice none 0 0 => some (.nil, []) | _ => some (.lit (.bool true), [])
theorem nilR_nil {v : Value} {ps : List MemPlace} (h : nilR v = some (.nil, ps)) : v = .slice none 0 0 := by
  unfold nilR at h
  split at h
  · rfl
  · cases h
abbrev MpN (w : World) (b n : Nat) (D : DataW Unit) : Prop := w.ownsMap Tryd.prog 9 nilR b n D
theorem zeroSl (w : World) : (zeroValue 44).run Tryd.prog w = .ok (.slice none 0 0) w := by kernel_rfl
theorem look_nil_at {w : World} {b n : Nat} {D : DataW Unit} {s : ByteArray} (h : MpN w b n D) (hs : s.size ≤ 9223372036854775807) (ha : D.atKey (.string s.data.toList) .nil = .nil) :
    (Instr.lookup 105 (.map (some b)) (.string s) false).run Tryd.prog w = .ok (.slice none 0 0) w := by
  obtain ⟨v, ps, hrun, hv⟩ := h.lookup (t := 105) (e := 44) lawS Tryd.underlying105 (zeroSl w) (zd := .nil) (zp := []) rfl (WideMaps.keyOf_string_mk Tryd.underlying9 hs)
  rw [ha] at hv
  rw [nilR_nil hv] at hrun
  exact hrun
theorem step_lookup_run {P : Program} {ops : Array Oper} {o : Oper} {a : Act} {w : World} {K : Act → World → Prop} {Q : Exit → Act → World → Prop} {E : Prop}
    (hgd : o.guard = none) (m x : Operand) (t : TypeId) (hop : o.op = Op.lookup t m x false) (mv key v : Value) (hm : a.eval m = mv) (hx : a.eval x = key)
    (hrun : (Instr.lookup t mv key false).run P w = .ok v w) (hK : K (a.put o.dst v) w) : if Region.wanted o (yielded ops a.tmps) = true then Oper.wp P o a w K Q else E := by
  have hw : Region.wanted o (yielded ops a.tmps) = true := by simp [Region.wanted, hgd]
  rw [if_pos hw]
  unfold Oper.wp
  simp [execOp, hop, hm, hx, hrun, Result.andThen]
  exact hK
theorem step_update_own {H : Type} {P : Program} {ops : Array Oper} {o : Oper} {a : Act} {w : World} {K : Act → World → Prop} {Q : Exit → Act → World → Prop} {E : Prop}
    (hgd : o.guard = none) (m x v : Operand) (t : TypeId) (hop : o.op = Op.mapUpdate t m x v)
    (k e : TypeId) (L : Keyed P k) (ht : P.underlying t = some (.map k e)) (R : Value → Option (DataW H × List MemPlace)) (b n : Nat) (D : DataW H)
    (hm : a.eval m = .map (some b)) (hown : w.ownsMap P k R b n D) (hn : n < maxLen) (key val : Value) (kl : Lit) (hx : a.eval x = key) (hv : a.eval v = val) (hkey : keyOf P k key = some kl)
    (d : DataW H) (ps : List MemPlace) (hval : R val = some (d, ps))
    (hK : ∀ w', w'.ownsMap P k R b (n + 1) (D.put kl d) → w.grownBy w' (some b) → K (a.put o.dst undef) w') : if Region.wanted o (yielded ops a.tmps) = true then Oper.wp P o a w K Q else E := by
  have hw : Region.wanted o (yielded ops a.tmps) = true := by simp [Region.wanted, hgd]
  rw [if_pos hw]
  obtain ⟨w', hrun, r1, r2⟩ := hown.update L ht hn hkey hval
  unfold Oper.wp
  simp [execOp, hop, hm, hx, hv, hrun, Result.andThen]
  exact hK w' r1 r2

/-- The world that a store into the map leaves. -/
noncomputable def updW (b : Nat) (key v : Value) (w : World) : World := open Classical in
  if h : ∃ w5, (Instr.mapUpdate 105 (.map (some b)) key v).run Tryd.prog w = .ok () w5 then h.choose else w
set_option maxRecDepth 100000 in
theorem updW_run {w : World} {b n : Nat} {D : DataW Unit} {s : ByteArray} {v : Value} (h : MpN w b n D) (hn : n < maxLen) (hs : s.size ≤ maxLen) (hv : nilR v = some (.lit (.bool true), [])) :
    (Instr.mapUpdate 105 (.map (some b)) (.string s) v).run Tryd.prog w = .ok () (updW b (.string s) v w) ∧ MpN (updW b (.string s) v w) b (n + 1) (D.put (.string s.data.toList) (.lit (.bool true))) ∧ w.grownBy (updW b (.string s) v w) (some b) := by
  obtain ⟨w5, hrun, h1, h2⟩ := h.update lawS Tryd.underlying105 hn (WideMaps.keyOf_string_mk Tryd.underlying9 hs) hv
  have hex : ∃ w5, (Instr.mapUpdate 105 (.map (some b)) (.string s) v).run Tryd.prog w = .ok () w5 := ⟨w5, hrun⟩
  have he : updW b (.string s) v w = w5 := by
    unfold updW
    rw [dif_pos hex]
    have h9 : Result.ok () hex.choose = Result.ok () w5 := hex.choose_spec.symm.trans hrun
    injection h9
  rw [he]
  exact ⟨hrun, h1, h2⟩

/-! ### Rows of sendings -/
def sdV (es : List Ev) (j i : Nat) : Value := match i with | 0 => .string (eA es j).ref | 1 => .int .i64 (eA es j).time | 2 => .int .i64 (eA es j).due | 3 => .int .i64 (-1) | _ => .int .i64 0
def sdC (es : List Ev) : List Value := es.flatMap fun x => [.string x.ref, .int .i64 x.time, .int .i64 x.due, .int .i64 (-1), .int .i64 0]
theorem sdC_snoc (es : List Ev) (x : Ev) : sdC es ++ [.string x.ref, .int .i64 x.time, .int .i64 x.due, .int .i64 (-1), .int .i64 0] = sdC (es ++ [x]) := by unfold sdC; rw [List.flatMap_append]; simp
theorem sdC_at : ∀ {r : List Ev} {j : Nat}, j < r.length → ∀ i, i < 5 → (sdC r)[j * 5 + i]? = some (sdV r j i)
  | [], j, h, i, hi => by simp at h
  | s :: r, 0, h, i, hi => by
    match i, hi with
    | 0, _ => rfl
    | 1, _ => rfl
    | 2, _ => rfl
    | 3, _ => rfl
    | 4, _ => rfl
  | s :: r, j + 1, h, i, hi => by
    have ih := sdC_at (r := r) (j := j) (by simpa using h) i hi
    have e : (sdC (s :: r))[(j + 1) * 5 + i]? = (sdC r)[j * 5 + i]? := by
      show ([Value.string s.ref, .int .i64 s.time, .int .i64 s.due, .int .i64 (-1), .int .i64 0] ++ sdC r)[(j + 1) * 5 + i]? = _
      rw [List.getElem?_append_right (by simp; omega)]
      congr 1
      simp
      omega
    rw [e, ih]
    unfold sdV
    have : eA (s :: r) (j + 1) = eA r j := by simp [eA]
    rw [this]
theorem sdC_take {es : List Ev} {k : Nat} (h : k < es.length) : sdC (es.take k) ++ [.string (eA es k).ref, .int .i64 (eA es k).time, .int .i64 (eA es k).due, .int .i64 (-1), .int .i64 0] = sdC (es.take (k + 1)) := by
  rw [sdC_snoc, List.take_succ_eq_append_getElem h, eA_get h]
/-- No two references are alike. -/
def RefsApart (es : List Ev) : Prop := ∀ i j, i < j → j < es.length → (eA es i).ref ≠ (eA es j).ref
def Absent (es : List Ev) (k : Nat) (D : DataW Unit) : Prop := ∀ s : ByteArray, (∀ i, i < k → (eA es i).ref ≠ s) → D.atKey (.string s.data.toList) .nil = .nil
theorem absent_put {es : List Ev} {k : Nat} {D : DataW Unit} (h : Absent es k D) (d : DataW Unit) : Absent es (k + 1) (D.put (.string (eA es k).ref.data.toList) d) := fun s hs => by
  rw [atKey_put_other (fun e => by
    injection e with e
    exact hs k (by omega) (ByteArray.ext (Array.ext' e)).symm)]
  exact h s (fun i hi => hs i (by omega))
structure BookSt (es : List Ev) (k n c2 : Nat) (A2 : Option Addr) (Z : Nat) (w : World) (eb : Nat) (xt xd : Int) (xr : ByteArray) (D : DataW Unit) (wx : World) : Prop where
  map : MpN wx w.heap.size (k + 1) D
  ev : wx.heap[eb]? = some (.cells #[.int .i64 1, .int .i64 xt, .int .i64 xd, .string xr, .int .i64 0] 35 (0, 0))
  own : wx.ownsRow Z 62 5 (.slice A2 k c2) k (sdC (es.take k))
  bel : Below w.heap.size w wx
  siz : Z ≤ wx.heap.size
def RetBook (es : List Ev) (w : World) (e : Ending) (w' : World) : Prop := Below w.heap.size w w' ∧ ∃ A c, e = .returned (.tuple #[.slice A es.length c, .slice none 0 0]) ∧ Rws w' A 5 es.length (sdV es)

set_option maxHeartbeats 4000000 in
set_option maxRecDepth 100000 in
theorem book_c (A : Option Addr) (c : Nat) (es : List Ev) (w : World) (hl : es.length ≤ 1000) (hz : ∀ x ∈ es, x.ref.size ≤ 14) (ha : RefsApart es) (he : Evs w A es) :
    Calls Tryd.prog 36 #[.slice A es.length c] w (RetBook es w) := by
  obtain ⟨i0, hi⟩ : ∃ i, Tryd.prog.info? 62 = some i := ⟨_, rfl⟩
  have hz0 : i0.zero = some (.agg #[.string ⟨#[]⟩, .int .i64 0, .int .i64 0, .int .i64 0, .int .i64 0]) := by obtain rfl := Option.some.inj (hi.symm.trans rfl); rfl
  have hz1 : i0.size = 5 := by obtain rfl := Option.some.inj (hi.symm.trans rfl); rfl
  have hz2 : i0.bytes = 48 := by obtain rfl := Option.some.inj (hi.symm.trans rfl); rfl
  obtain ⟨i1, hi1⟩ : ∃ i, Tryd.prog.info? 3 = some i := ⟨_, rfl⟩
  have hy0 : i1.zero = some (.int .i64 0) := by obtain rfl := Option.some.inj (hi1.symm.trans rfl); rfl
  have hy1 : i1.size = 1 := by obtain rfl := Option.some.inj (hi1.symm.trans rfl); rfl
  have hy2 : i1.bytes = 8 := by obtain rfl := Option.some.inj (hi1.symm.trans rfl); rfl
  have hmm := @run_makeMap Tryd.prog
  have HEV := Lib.hid he; have HZ := Lib.hid hz; have HAP := Lib.hid ha
  obtain ⟨n, hn⟩ : ∃ n, es.length = n := ⟨_, rfl⟩
  have HN := Lib.hid hn
  rw [hn] at hl
  unfold RetBook
  rw [hn]
  clear hz ha he hn
  go_enter Tryd.func36, Tryd.ntmps36
  go_wp2
  have hM0 : MpN (w.alloc (.map #[] 0)) w.heap.size 0 (.map []) := World.ownsMap_made w Tryd.prog 9 nilR
  have hb0 : Below w.heap.size w (w.alloc (.map #[] 0)) := by go_grown
  have hs0 : w.heap.size + 1 ≤ (w.alloc (.map #[] 0)).heap.size := by simp
  generalize w.alloc (.map #[] 0) = w0 at hM0 hb0 hs0 ⊢
  obtain ⟨Z, hZ⟩ : ∃ Z, w.heap.size + 1 = Z := ⟨_, rfl⟩
  rw [hZ] at hs0
  go_loopw [4, 5, 14] (fun ov lv iv wr => ∃ (k c2 : Nat) (A2 : Option Addr) (D : DataW Unit), k ≤ n ∧ iv = .int .i64 k ∧ ov = .slice A2 k c2 ∧ lv = .slice none 0 0 ∧
      wr.ownsRow Z 62 5 (.slice A2 k c2) k (sdC (es.take k)) ∧ MpN wr w.heap.size k D ∧ Hid (Absent es k D) ∧ Below w.heap.size w wr ∧ Z ≤ wr.heap.size) (fun _ _ iv _ => n - (intOf iv).toNat)
  case atStart => exact ⟨0, 0, none, .map [], Nat.zero_le _, rfl, rfl, rfl, World.ownsRow_nil _ _ _ _, hM0, Lib.hid (fun _ _ => rfl), hb0, hs0⟩
  case round =>
    obtain ⟨k, c2, A2, D, hk, rfl, rfl, rfl, hown, hM, HA, hb, hzr⟩ := hrel
    rcases Nat.lt_or_ge k n with hlt | hge
    · have hltj : k < es.length := by rw [HN.out]; exact hlt
      obtain ⟨b, off, rfl, hbw, hc⟩ := Rws.get (HEV.out.below hb) hltj
      have c0 : wr.cell? ⟨b, off + k * 5, none⟩ = some (.int .i64 1) := hc 0 (by decide)
      have c1 : wr.cell? ⟨b, off + k * 5 + 1, none⟩ = some (.int .i64 (eA es k).time) := hc 1 (by decide)
      have c2' : wr.cell? ⟨b, off + k * 5 + 2, none⟩ = some (.int .i64 (eA es k).due) := hc 2 (by decide)
      have c3 : wr.cell? ⟨b, off + k * 5 + 3, none⟩ = some (.string (eA es k).ref) := hc 3 (by decide)
      have c4 : wr.cell? ⟨b, off + k * 5 + 4, none⟩ = some (.int .i64 0) := hc 4 (by decide)
      have hxz := HZ.out es[k] (List.getElem_mem hltj)
      rw [eA_get hltj] at hxz
      have hnone := HA.out (eA es k).ref (fun i hi => HAP.out i k hi hltj)
      have hput := Lib.hid (absent_put HA.out (.lit (.bool true)))
      have hrow := Lib.hid (sdC_take hltj)
      obtain ⟨⟨xt, xd, xr⟩, hx⟩ : ∃ x, eA es k = x := ⟨_, rfl⟩
      rw [hx] at c1 c2' c3 hxz hnone hput hrow
      simp only at c1 c2' c3 hxz hnone
      have hM1 := hM.alloc (.cells #[.int .i64 1, .int .i64 xt, .int .i64 xd, .string xr, .int .i64 0] 35)
      have hO1 := hown.alloc (.cells #[.int .i64 1, .int .i64 xt, .int .i64 xd, .string xr, .int .i64 0] 35)
      have hX1 := heap_new wr (.cells #[.int .i64 1, .int .i64 xt, .int .i64 xd, .string xr, .int .i64 0] 35) rfl
      have hb1 : Below w.heap.size w (wr.alloc (.cells #[.int .i64 1, .int .i64 xt, .int .i64 xd, .string xr, .int .i64 0] 35)) := by go_grown
      have hz1' : Z ≤ (wr.alloc (.cells #[.int .i64 1, .int .i64 xt, .int .i64 xd, .string xr, .int .i64 0] 35)).heap.size := by simp; omega
      clear hc hltj hx hown hM
      go_wp2
      obtain ⟨eb, heb⟩ : ∃ eb, wr.heap.size = eb := ⟨_, rfl⟩
      rw [heb] at hX1 hzr ⊢
      generalize wr.alloc (.cells #[.int .i64 1, .int .i64 xt, .int .i64 xd, .string xr, .int .i64 0] 35) = w1 at hM1 hO1 hX1 hb1 hz1' ⊢
      have hebl := lt_heap hX1
      clear heb c0 c1 c2' c3 c4 hb hbw
      obtain ⟨g0, g1, g2, g3, g4, g5⟩ := obox5 hX1
      have HLK := Lib.hid (fun w' (hb' : Below w1.heap.size w1 w') => look_nil_at (hM1.kept (below_grownBy hb') (by simp)) (by omega) hnone)
      have HM1 := Lib.hid hM1; have HO1 := Lib.hid hO1; have HX1 := Lib.hid hX1; have HB1 := Lib.hid hb1
      clear hnone hM1 hO1 hX1 hb1
      have hl1 : (Instr.lookup 105 (.map (some w.heap.size)) (.string xr) false).run Tryd.prog w1.drew = .ok (.slice none 0 0) w1.drew := HLK.out _ (by go_grown)
      have hl2 : ∀ o, (Instr.lookup 105 (.map (some w.heap.size)) (.string xr) false).run Tryd.prog (w1.drew.alloc o) = .ok (.slice none 0 0) (w1.drew.alloc o) := fun o => HLK.out _ (by go_grown)
      have hl3 : ∀ o, (Instr.lookup 105 (.map (some w.heap.size)) (.string xr) false).run Tryd.prog (w1.alloc o).drew = .ok (.slice none 0 0) (w1.alloc o).drew := fun o => HLK.out _ (by go_grown)
      have HUP := Lib.hid (fun w' (hb' : Below w1.heap.size w1 w') G cap => updW_run (s := xr) (v := .slice (some ⟨G, 0, none⟩) 1 cap) (HM1.out.kept (below_grownBy hb') (by simp)) (by unfold maxLen; omega) (by unfold maxLen; omega) rfl)
      have hup : ∀ o1 o2 G cap, (Instr.mapUpdate 105 (.map (some w.heap.size)) (.string xr) (.slice (some ⟨G, 0, none⟩) 1 cap)).run Tryd.prog ((w1.alloc o1).alloc o2).drew.drew = .ok () (updW w.heap.size (.string xr) (.slice (some ⟨G, 0, none⟩) 1 cap) ((w1.alloc o1).alloc o2).drew.drew) := fun o1 o2 G cap => (HUP.out _ (by go_grown) G cap).1
      have hcl : ∀ o1 o2 G cap, (updW w.heap.size (.string xr) (.slice (some ⟨G, 0, none⟩) 1 cap) ((w1.alloc o1).alloc o2).drew.drew).cell? ⟨eb, 3, none⟩ = some (.string xr) := fun o1 o2 G cap => by
        have h1 := (HUP.out _ (by go_grown : Below w1.heap.size w1 ((w1.alloc o1).alloc o2).drew.drew) G cap).2.2
        exact cell_of_row _ _ 3 _ _ _ (grown_ne h1 (heap_old (heap_old HX1.out o1) o2) (by simp; omega))
      have HCL := Lib.hid hcl
      clear hcl
      have HFA := Lib.hid (show ∀ o1 o2 G cap, BookSt es k n c2 A2 Z w eb xt xd xr (D.put (.string xr.data.toList) (.lit (.bool true))) (updW w.heap.size (.string xr) (.slice (some ⟨G, 0, none⟩) 1 cap) ((w1.alloc o1).alloc o2).drew.drew) from fun o1 o2 G cap => by
        have hB : Below w1.heap.size w1 ((w1.alloc o1).alloc o2).drew.drew := by go_grown
        obtain ⟨-, h2, h1⟩ := HUP.out _ hB G cap
        refine ⟨h2, grown_ne h1 (heap_old (heap_old HX1.out o1) o2) (by simp; omega), own_ne (own_below HO1.out hB) h1 (by omega), ?_, Nat.le_trans hz1' (Nat.le_trans hB.size h1.size)⟩
        have hBB := below_then hB HB1.out HB1.out.size
        exact hBB.grown h1 hBB.size (fun j hj => by cases hj; exact Nat.le_refl _))
      go_cut [14] from 14 to 80 (fun iv wx => iv = .int .i64 k ∧ BookSt es k n c2 A2 Z w eb xt xd xr (D.put (.string xr.data.toList) (.lit (.bool true))) wx)
      case first =>
        go_region_held3 (fun w' => w'.cell? ⟨eb, 3, none⟩ = some (.string xr)) (first | (with_reducible exact HCL.out _ _ _ _) | go_keep) (fail)
        all_goals
          go_wp2_with fail
          go_meet
          exact ⟨rfl, HFA.out _ _ _ _⟩
      case rest =>
        obtain ⟨rfl, hM5, hX5, hO5, hb5, hz5⟩ := hcut
        clear HLK HM1 HO1 HX1 HB1 hl1 hl2 hl3 HUP hup HCL HFA g0 g1 g2 g3 g4 g5
        obtain ⟨g0, g1, g2, g3, g4, g5⟩ := obox5 hX5
        have HO5 := Lib.hid hO5; have HM5 := Lib.hid hM5
        clear hX5 hO5 hM5
        go_wp2_with (at_builtin; refine wpList_pushk rfl _ _ 59 rfl Z 62 i0 (.agg #[.string ⟨#[]⟩, .int .i64 0, .int .i64 0, .int .i64 0, .int .i64 0]) 5 48 Tryd.underlying59 hi hz0 hz1 hz2 rfl (by decide) (.slice A2 k c2) k (sdC (es.take k)) rfl HO5.out [.string xr, .int .i64 xt, .int .i64 xd, .int .i64 (-1), .int .i64 0] rfl rfl (by intro u hu; simp at hu; rcases hu with rfl | rfl | rfl | rfl | rfl <;> rfl) (by unfold maxLen; omega) (by omega) hz5 ?_; intro A3 c3 w7 hown7 hg7)
        rw [hrow.out] at hown7
        have hM7 := HM5.out.kept hg7 (own_block HO5.out (by omega))
        have hb7 := hb5.grown hg7 hb5.size (fun j hj => by have := (HO5.out.lt j hj).1; omega)
        have hz7 := Nat.le_trans hz5 hg7.size
        go_roundw
        case rel => exact ⟨k + 1, c3, A3, _, by omega, by go_num, rfl, rfl, hown7, hM7, hput, hb7, hz7⟩
        case measure => simp [intOf]; omega
    · obtain rfl : k = n := by omega
      have HW := Lib.hid (own_rws hown (f := sdV (es.take k)) (fun j hj i hi => sdC_at (by rw [List.length_take, HN.out]; omega) i hi))
      have HT := Lib.hid (show es.take k = es by rw [← HN.out, List.take_length])
      clear hown hM
      go_wp2
      go_ret2
      refine ⟨hb, A2, c2, rfl, ?_⟩
      have := HW.out
      rw [HT.out] at this
      exact this
end Go.Proofs.YtlkidhfjkgppoaaDoor
