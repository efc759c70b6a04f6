
/- copy of elements of several cells; slices.Insert of one event into a row of the call's own. -/
import Derived.Test.YtlkidhfjkgppoaaDoorO9
import Derived.Laws.CopyOwn
import Derived.Lib.AppendZerosOnto
import Derived.Lib.Overlaps
import Derived.Lib.AppendZeros
namespace Go
open Go.RowKit

theorem run_copy_rowk {P : Program} (w : World) (dT sT ty elem : TypeId) (g o dLen dCap : Nat) (a : Addr) (sLen sCap : Nat) (cur : Array Value) (t : TypeId) (cs : List Value) (k : Nat)
    (hu : P.underlying dT = some (.slice elem)) (hs : (P.info? elem).map (·.size) = some k)
    (hg : w.heap[g]? = some (.cells cur t (0, 0))) (hn : cs.length = Nat.min sLen dLen * k)
    (hsrc : ∀ j v, cs[j]? = some v → w.cell? (a.add j) = some v) (hfit : o + cs.length ≤ cur.size) (h1 : ∀ v ∈ cs, v.oneCell' = true) :
    (Builtin.copy_ #[dT, sT] ty #[.slice (some ⟨g, o, none⟩) dLen dCap, .slice (some a) sLen sCap]).run P w =
      .ok (goInt (Nat.min sLen dLen)) (w.setRow g (cur.toList.take o ++ cs ++ cur.toList.drop (o + cs.length)).toArray) := by
  have hl := run_loadCells_list (P := P) w a cs hsrc
  have hst := run_storeCells_at P g o t cs 0 cur w hg (by simpa using hfit) h1
  cases hq : P.info? elem with
  | none => simp [hq] at hs
  | some i =>
    have hi : i.size = k := by simpa [hq] using hs
    simp [Builtin.copy_, run_underlying hu, Builtin.lenOf, Builtin.firstCells, sizeOf, typeInfo, hq, hi, ← hn, hl, hst]
end Go
namespace Go.Proofs.YtlkidhfjkgppoaaDoor
open Go.RowKit Limb Work Go.Maps
set_option linter.unusedVariables false
set_option linter.unusedSimpArgs false

theorem wpList_copyk {P : Program} {w : World} {ops : Array Oper} {rest : List Oper} {o : Oper} {a : Act} {Q : Exit → Act → World → Prop} (hgd : o.guard = none) (d s : Operand) (dT sT : TypeId)
    (ho : o.op = .call { callee := .builtin .copy, args := #[d, s], argTypes := #[dT, sT] }) (v u : Value) (hd : a.eval d = v) (hs : a.eval s = u) {v' : Value} {w' : World}
    (hrun : (Builtin.copy_ #[dT, sT] o.type #[v, u]).run P w = .ok v' w') (h : wpList P ops Q rest (a.put o.dst v') w') : wpList P ops Q (o :: rest) a w := by
  refine wpList_plain hgd fun K hK => ?_
  unfold Oper.wp
  simp [execOp, ho, resolve, invoke, builtin, hd, hs, hrun, Result.andThen]
  exact hK _ _ h
theorem step_copyk {P : Program} {ops : Array Oper} {o : Oper} {a : Act} {w : World} {K : Act → World → Prop} {Q : Exit → Act → World → Prop} {E : Prop} (hgd : o.guard = none) (d s : Operand) (dT sT : TypeId)
    (ho : o.op = .call { callee := .builtin .copy, args := #[d, s], argTypes := #[dT, sT] }) (v u : Value) (hd : a.eval d = v) (hs : a.eval s = u) {v' : Value} {w' : World}
    (hrun : (Builtin.copy_ #[dT, sT] o.type #[v, u]).run P w = .ok v' w') (h : K (a.put o.dst v') w') : if Region.wanted o (yielded ops a.tmps) = true then Oper.wp P o a w K Q else E := by
  have hw : Region.wanted o (yielded ops a.tmps) = true := by simp [Region.wanted, hgd]
  rw [if_pos hw]
  unfold Oper.wp
  simp [execOp, ho, resolve, invoke, builtin, hd, hs, hrun, Result.andThen]
  exact h

/-! ### Rows of events -/
def evC (es : List Ev) : List Value := es.flatMap evL
theorem evC_snoc (es : List Ev) (x : Ev) : evC es ++ evL x = evC (es ++ [x]) := by unfold evC; rw [List.flatMap_append]; simp
theorem evL_len (x : Ev) : (evL x).length = 5 := rfl
theorem evC_len : ∀ es : List Ev, (evC es).length = es.length * 5
  | [] => rfl
  | x :: es => by
    have := evC_len es
    show (evL x ++ evC es).length = _
    rw [List.length_append, this, List.length_cons, evL_len]; omega
theorem evC_app (a b : List Ev) : evC (a ++ b) = evC a ++ evC b := by unfold evC; rw [List.flatMap_append]
theorem evC_take (es : List Ev) (k : Nat) (h : k ≤ es.length) : evC (es.take k) = (evC es).take (k * 5) := by
  have e : evC es = evC (es.take k) ++ evC (es.drop k) := by rw [← evC_app, List.take_append_drop]
  rw [e, List.take_left']
  rw [evC_len, List.length_take, Nat.min_eq_left h]
theorem evC_drop (es : List Ev) (k : Nat) (h : k ≤ es.length) : evC (es.drop k) = (evC es).drop (k * 5) := by
  have e : evC es = evC (es.take k) ++ evC (es.drop k) := by rw [← evC_app, List.take_append_drop]
  rw [e, List.drop_left']
  rw [evC_len, List.length_take, Nat.min_eq_left h]
theorem evL_one (x : Ev) : ∀ u ∈ evL x, u.oneCell' = true := by
  intro u hu
  simp [evL] at hu
  rcases hu with rfl | rfl | rfl | rfl | rfl <;> rfl
theorem evC_one (es : List Ev) : ∀ u ∈ evC es, u.oneCell' = true := by
  intro u hu
  unfold evC at hu
  obtain ⟨x, _, hx⟩ := List.mem_flatMap.1 hu
  exact evL_one x u hx
theorem evC_at : ∀ {r : List Ev} {j : Nat}, j < r.length → ∀ i, i < 5 → (evC r)[j * 5 + i]? = some (evV r j i)
  | [], j, h, i, hi => by simp at h
  | s :: r, 0, h, i, hi => by
    match i, hi with
    | 0, _ => rfl
    | 1, _ => rfl
    | 2, _ => rfl
    | 3, _ => rfl
    | 4, _ => rfl
  | s :: r, j + 1, h, i, hi => by
    have ih := evC_at (r := r) (j := j) (by simpa using h) i hi
    have e : (evC (s :: r))[(j + 1) * 5 + i]? = (evC r)[j * 5 + i]? := by
      show (evL s ++ evC r)[(j + 1) * 5 + i]? = _
      rw [List.getElem?_append_right (by rw [evL_len]; omega)]
      congr 1
      rw [evL_len]; omega
    rw [e, ih]
    unfold evV
    have : eA (s :: r) (j + 1) = eA r j := by simp [eA]
    rw [this]
def insE (es : List Ev) (i : Nat) (x : Ev) : List Ev := es.take i ++ x :: es.drop i
def RetIns (B : Nat) (v : Value) (es : List Ev) (w : World) (e : Ending) (w' : World) : Prop := ∃ A c, e = .returned (.slice A es.length c) ∧ w'.ownsRow B 35 5 (.slice A es.length c) es.length (evC es) ∧ w.grownBy w' v.ownBlock

set_option maxHeartbeats 4000000 in
set_option maxRecDepth 100000 in
theorem ins_end (A : Option Addr) (c n vb B : Nat) (es : List Ev) (x : Ev) (w : World) (hn : es.length = n) (h1000 : n ≤ 1000) (hB : B ≤ w.heap.size)
    (hown : w.ownsRow B 35 5 (.slice A n c) n (evC es)) (hv : w.heap[vb]? = some (.cells (evL x).toArray 35 (0, 0))) :
    Calls Tryd.prog 6 #[.slice A n c, .int .i64 n, .slice (some ⟨vb, 0, none⟩) 1 1] w (RetIns B (.slice A n c) (insE es n x) w) := by
  obtain ⟨i0, hi⟩ : ∃ i, Tryd.prog.info? 35 = some i := ⟨_, rfl⟩
  have hz0 : i0.zero = some (.agg #[.int .i64 0, .int .i64 0, .int .i64 0, .string ⟨#[]⟩, .int .i64 0]) := by obtain rfl := Option.some.inj (hi.symm.trans rfl); rfl
  have hz1 : i0.size = 5 := by obtain rfl := Option.some.inj (hi.symm.trans rfl); rfl
  have hz2 : i0.bytes = 48 := by obtain rfl := Option.some.inj (hi.symm.trans rfl); rfl
  have hnews : ∀ j u, (evL x)[j]? = some u → w.cell? ((⟨vb, 0, none⟩ : Addr).add j) = some u := World.news_of_block (cs := (evL x).toArray) hv
  have hE : insE es n x = es ++ [x] := by unfold insE; rw [List.take_of_length_le (by omega), List.drop_eq_nil_of_le (by omega)]
  rw [hE]
  have hl : (es ++ [x]).length = n + 1 := by rw [List.length_append, hn]; rfl
  unfold RetIns
  rw [hl, ← evC_snoc]
  have HOW := Lib.hid hown; have HNW := Lib.hid hnews
  clear hown hnews hv hE hl hn
  by_cases hcn : c = n
  · go_enter Tryd.func6, Tryd.ntmps6
    go_wp2_with (at_builtin; refine wpList_append_own _ rfl _ _ 31 rfl B 35 i0 (.agg #[.int .i64 0, .int .i64 0, .int .i64 0, .string ⟨#[]⟩, .int .i64 0]) 5 48 Tryd.underlying31 hi hz0 hz1 hz2 rfl (by decide) (.slice A n c) n (evC es) rfl HOW.out ⟨vb, 0, none⟩ 1 1 (evL x) rfl rfl HNW.out (evL_one x) (by unfold maxLen; omega) (by omega) hB ?_; intro v' w' hown' hg' _)
    obtain ⟨A2, c2, rfl⟩ := own_slice hown'
    go_ret
    exact ⟨A2, c2, rfl, hown', hg'⟩
  · obtain ⟨g, rfl⟩ : ∃ g, A = some ⟨g, 0, none⟩ := by
      rcases HOW.out.2 with ⟨h, h2⟩ | ⟨g, _, _, h, _⟩
      · cases h; omega
      · cases h; exact ⟨g, rfl⟩
    go_enter Tryd.func6, Tryd.ntmps6
    go_wp2_with (at_builtin; refine wpList_append_own _ rfl _ _ 31 rfl B 35 i0 (.agg #[.int .i64 0, .int .i64 0, .int .i64 0, .string ⟨#[]⟩, .int .i64 0]) 5 48 Tryd.underlying31 hi hz0 hz1 hz2 rfl (by decide) (.slice (some ⟨g, 0, none⟩) n c) n (evC es) rfl HOW.out ⟨vb, 0, none⟩ 1 1 (evL x) rfl rfl HNW.out (evL_one x) (by unfold maxLen; omega) (by omega) hB ?_; intro v' w' hown' hg' _)
    obtain ⟨A2, c2, rfl⟩ := own_slice hown'
    go_ret
    exact ⟨A2, c2, rfl, hown', hg'⟩
set_option maxHeartbeats 4000000 in
set_option maxRecDepth 100000 in
theorem ins_grow (g n i vb B : Nat) (es : List Ev) (x : Ev) (w : World) (hn : es.length = n) (hin : i < n) (h1000 : n ≤ 1000) (hB : B ≤ w.heap.size)
    (hown : w.ownsRow B 35 5 (.slice (some ⟨g, 0, none⟩) n n) n (evC es)) (hv : w.heap[vb]? = some (.cells (evL x).toArray 35 (0, 0))) :
    Calls Tryd.prog 6 #[.slice (some ⟨g, 0, none⟩) n n, .int .i64 i, .slice (some ⟨vb, 0, none⟩) 1 1] w (RetIns B (.slice (some ⟨g, 0, none⟩) n n) (insE es i x) w) := by
  obtain ⟨i0, hi⟩ : ∃ i, Tryd.prog.info? 35 = some i := ⟨_, rfl⟩
  have hz0 : i0.zero = some (.agg #[.int .i64 0, .int .i64 0, .int .i64 0, .string ⟨#[]⟩, .int .i64 0]) := by obtain rfl := Option.some.inj (hi.symm.trans rfl); rfl
  have hz1 : i0.size = 5 := by obtain rfl := Option.some.inj (hi.symm.trans rfl); rfl
  have hz2 : i0.bytes = 48 := by obtain rfl := Option.some.inj (hi.symm.trans rfl); rfl
  obtain ⟨g', e', hbg, hgl, hcells⟩ := own_row hown (by omega)
  cases e'
  have hcl : (evC es).length = n * 5 := by rw [evC_len, hn]
  have hold : (Builtin.firstCells i0.size i (.slice (some ⟨g, 0, none⟩) i n)).run Tryd.prog w.drew = .ok ((evC es).take (i * 5)).toArray w.drew := by
    rw [hz1]
    exact run_firstCells_some w.drew 5 i ⟨g, 0, none⟩ i n ((evC es).take (i * 5)) (by rw [List.length_take]; omega) (fun j v hj => by
      rw [Addr.add_lit]
      rw [List.getElem?_take] at hj
      split at hj
      · next h => show w.cell? _ = _; rw [Nat.zero_add, hcells j (by omega)]; exact hj
      · cases hj)
  have hk : (n : Int) + 1 - (i : Int) = ((n + 1 - i : Nat) : Int) := by omega
  have hik : i + (n + 1 - i) = n + 1 := by omega
  have hap : ∀ ty, (Builtin.append_ #[31, 3] ty #[.slice (some ⟨g, 0, none⟩) i n, .int .i64 ((n + 1 - i : Nat) : Int)]).run Tryd.prog w = .ok (.slice (some ⟨w.heap.size, 0, none⟩) (n + 1) (grownCap w (n + 1) n 35)) (w.drew.alloc (.cells (((evC es).take (i * 5)).toArray ++ Builtin.zeroCells (Value.cells (.agg #[.int .i64 0, .int .i64 0, .int .i64 0, .string ⟨#[]⟩, .int .i64 0])) (n + 1 - i) ++ Builtin.zeroCells (Value.cells (.agg #[.int .i64 0, .int .i64 0, .int .i64 0, .string ⟨#[]⟩, .int .i64 0])) (grownCap w (n + 1) n 35 - (n + 1))) 35)) := fun ty => by
    have h := Lib.run_append_grow_zeros w 31 3 ty 35 i0 _ .i64 .i64 Tryd.underlying31 Tryd.underlying3 hi hz0 (some ⟨g, 0, none⟩) i n ((evC es).take (i * 5)) hold (n + 1 - i) (by omega) (by omega) (by omega) (by omega) (by rw [hz2]; omega) (by rw [hz2, hik]; exact growslice_fits (by omega) (by omega))
    rw [hik] at h
    exact h
  obtain ⟨C, hC⟩ : ∃ C, grownCap w (n + 1) n 35 = C := ⟨_, rfl⟩
  rw [hC] at hap
  obtain ⟨ROW, hROW⟩ : ∃ ROW : Array Value, ((evC es).take (i * 5)).toArray ++ Builtin.zeroCells (Value.cells (.agg #[.int .i64 0, .int .i64 0, .int .i64 0, .string ⟨#[]⟩, .int .i64 0])) (n + 1 - i) ++ Builtin.zeroCells (Value.cells (.agg #[.int .i64 0, .int .i64 0, .int .i64 0, .string ⟨#[]⟩, .int .i64 0])) (C - (n + 1)) = ROW := ⟨_, rfl⟩
  rw [hROW] at hap
  have hRl : (n + 1) * 5 ≤ ROW.size := by
    rw [← hROW]
    simp [Builtin.zeroCells, Value.cells]
    omega
  have hC1 : n + 1 ≤ C := by rw [← hC]; exact grownCap_ge _ _ _ _
  have hC2 : C ≤ maxLen := by rw [← hC]; exact grownCap_le_maxLen _ _ _ _ (by unfold maxLen; omega)
  have hRs : ROW.size = C * 5 := by
    rw [← hROW]
    simp [Builtin.zeroCells, Value.cells]
    omega
  have hRt : ROW.toList.take (i * 5) = (evC es).take (i * 5) := by
    rw [← hROW]
    simp only [Array.toList_append, List.append_assoc]
    rw [List.take_left' (by rw [List.length_take]; omega)]
  have hsz : (Tryd.prog.info? 35).map (·.size) = some 5 := by rw [hi]; simp [hz1]
  have hgG : g < w.heap.size := hgl
  obtain ⟨G, hG⟩ : ∃ G, w.heap.size = G := ⟨_, rfl⟩
  have hD0 : (w.alloc (.cells ROW 35)).drew.heap[G]? = some (.cells ROW 35 (0, 0)) := by rw [← hG]; exact heap_new w (.cells ROW 35) rfl
  have hg0 : w.grownBy (w.alloc (.cells ROW 35)).drew none := ⟨rfl, rfl, rfl, (World.grownBy_alloc w (.cells ROW 35) none).size, fun k hk hn => (World.grownBy_alloc w (.cells ROW 35) none).block k hk hn⟩
  have hvs : ∀ j u, (evL x)[j]? = some u → (w.alloc (.cells ROW 35)).drew.cell? ((⟨vb, 0, none⟩ : Addr).add j) = some u :=
    World.news_of_block (cs := (evL x).toArray) (grown_ne hg0 hv (by simp))
  have hc1 : ∀ ty, (Builtin.copy_ #[31, 31] ty #[.slice (some ⟨G, i * 5, none⟩) (n + 1 - i) (C - i), .slice (some ⟨vb, 0, none⟩) 1 1]).run Tryd.prog (w.alloc (.cells ROW 35)).drew = .ok (goInt (Nat.min 1 (n + 1 - i))) ((w.alloc (.cells ROW 35)).drew.setRow G (ROW.toList.take (i * 5) ++ evL x ++ ROW.toList.drop (i * 5 + (evL x).length)).toArray) := fun ty =>
    run_copy_rowk _ _ _ ty 35 G (i * 5) _ _ _ 1 1 ROW 35 (evL x) 5 Tryd.underlying31 hsz hD0 (by rw [evL_len]; simp only [Nat.min_def]; split <;> omega) hvs (by rw [evL_len, hRs]; omega) (evL_one x)
  rw [show Nat.min 1 (n + 1 - i) = 1 by simp only [Nat.min_def]; split <;> omega] at hc1
  have hR1 : (ROW.toList.take (i * 5) ++ evL x ++ ROW.toList.drop (i * 5 + (evL x).length)).toArray.size = C * 5 := by
    have := evL_len x
    simp [hRs, this]
    omega
  have hD1 := setRow_heap _ G _ (ROW.toList.take (i * 5) ++ evL x ++ ROW.toList.drop (i * 5 + (evL x).length)).toArray _ _ hD0
  have hg1 : w.grownBy ((w.alloc (.cells ROW 35)).drew.setRow G (ROW.toList.take (i * 5) ++ evL x ++ ROW.toList.drop (i * 5 + (evL x).length)).toArray) none :=
    ⟨rfl, rfl, rfl, by simp [World.setRow], fun k hk _ => (setRow_other _ G k _ (by omega)).trans (hg0.block k hk (by simp))⟩
  have hT1 : (ROW.toList.take (i * 5) ++ evL x ++ ROW.toList.drop (i * 5 + (evL x).length)).take ((i + 1) * 5) = (evC es).take (i * 5) ++ evL x := by
    rw [hRt, List.take_left']
    rw [List.length_append, List.length_take, hcl, evL_len]; omega
  have hL1 : (ROW.toList.take (i * 5) ++ evL x ++ ROW.toList.drop (i * 5 + (evL x).length)).length = C * 5 := by simpa using hR1
  obtain ⟨R1, hR1e⟩ : ∃ R1, ROW.toList.take (i * 5) ++ evL x ++ ROW.toList.drop (i * 5 + (evL x).length) = R1 := ⟨_, rfl⟩
  rw [hR1e] at hc1 hD1 hg1 hT1 hL1
  obtain ⟨W2, hW2⟩ : ∃ W2, (w.alloc (.cells ROW 35)).drew.setRow G R1.toArray = W2 := ⟨_, rfl⟩
  rw [hW2] at hc1 hD1 hg1
  have hcs : ∀ j u, ((evC es).drop (i * 5))[j]? = some u → W2.drew.cell? ((⟨g, i * 5, none⟩ : Addr).add j) = some u := fun j u hj => by
    rw [Addr.add_lit]
    rw [List.getElem?_drop] at hj
    have hlt : i * 5 + j < n * 5 := by have := (List.getElem?_eq_some_iff.1 hj).1; omega
    show W2.cell? _ = _
    exact hg1.cell (by rw [hcells _ hlt]; exact hj) (by simp)
  have hD1' : W2.drew.heap[G]? = some (.cells R1.toArray 35 (0, 0)) := hD1
  have hdl : ((evC es).drop (i * 5)).length = (n - i) * 5 := by rw [List.length_drop, hcl]; omega
  have hc2 : ∀ ty, (Builtin.copy_ #[31, 31] ty #[.slice (some ⟨G, (i + 1) * 5, none⟩) (n - i) (C - (i + 1)), .slice (some ⟨g, i * 5, none⟩) (n - i) (n - i)]).run Tryd.prog W2.drew = .ok (goInt (Nat.min (n - i) (n - i))) (W2.drew.setRow G (R1.toArray.toList.take ((i + 1) * 5) ++ (evC es).drop (i * 5) ++ R1.toArray.toList.drop ((i + 1) * 5 + ((evC es).drop (i * 5)).length)).toArray) := fun ty =>
    run_copy_rowk _ _ _ ty 35 G ((i + 1) * 5) _ _ _ (n - i) (n - i) R1.toArray 35 ((evC es).drop (i * 5)) 5 Tryd.underlying31 hsz hD1' (by rw [hdl]; simp only [Nat.min_self]) hcs (by rw [hdl]; simp [hL1]; omega) (fun u hu => evC_one es u (List.mem_of_mem_drop hu))
  have hm2 : Nat.min (n - i) (n - i) = n - i := Nat.min_self _
  rw [hm2] at hc2
  have hD2 := setRow_heap _ G _ (R1.toArray.toList.take ((i + 1) * 5) ++ (evC es).drop (i * 5) ++ R1.toArray.toList.drop ((i + 1) * 5 + ((evC es).drop (i * 5)).length)).toArray _ _ hD1'
  have hg2 : w.grownBy (W2.drew.setRow G (R1.toArray.toList.take ((i + 1) * 5) ++ (evC es).drop (i * 5) ++ R1.toArray.toList.drop ((i + 1) * 5 + ((evC es).drop (i * 5)).length)).toArray) none :=
    ⟨hg1.os, hg1.tape, hg1.output, by rw [show (W2.drew.setRow G (R1.toArray.toList.take ((i + 1) * 5) ++ (evC es).drop (i * 5) ++ R1.toArray.toList.drop ((i + 1) * 5 + ((evC es).drop (i * 5)).length)).toArray).heap.size = W2.heap.size by simp [World.setRow]]; exact hg1.size, fun k hk hn => (setRow_other _ G k _ (by omega)).trans (hg1.block k hk hn)⟩
  have hL2 : (R1.toArray.toList.take ((i + 1) * 5) ++ (evC es).drop (i * 5) ++ R1.toArray.toList.drop ((i + 1) * 5 + ((evC es).drop (i * 5)).length)).length = C * 5 := by
    simp [hdl, hL1]; omega
  have hT2 : (R1.toArray.toList.take ((i + 1) * 5) ++ (evC es).drop (i * 5) ++ R1.toArray.toList.drop ((i + 1) * 5 + ((evC es).drop (i * 5)).length)).take ((n + 1) * 5) = evC (insE es i x) := by
    have e1 : R1.toArray.toList.take ((i + 1) * 5) = (evC es).take (i * 5) ++ evL x := by simpa using hT1
    rw [e1, List.take_left' (by rw [List.length_append, List.length_append, List.length_take, hcl, evL_len, hdl]; omega)]
    unfold insE
    rw [evC_app, evC_take es i (by omega), show x :: es.drop i = [x] ++ es.drop i from rfl, evC_app, evC_drop es i (by omega)]
    simp [evC]
  obtain ⟨R2, hR2e⟩ : ∃ R2, R1.toArray.toList.take ((i + 1) * 5) ++ (evC es).drop (i * 5) ++ R1.toArray.toList.drop ((i + 1) * 5 + ((evC es).drop (i * 5)).length) = R2 := ⟨_, rfl⟩
  rw [hR2e] at hc2 hD2 hg2 hL2 hT2
  obtain ⟨W3, hW3⟩ : ∃ W3, W2.drew.setRow G R2.toArray = W3 := ⟨_, rfl⟩
  rw [hW3] at hc2 hD2 hg2
  have hil : (insE es i x).length = n + 1 := by unfold insE; rw [List.length_append, List.length_cons, List.length_take, List.length_drop]; omega
  have HFIN := Lib.hid (show RetIns B (.slice (some ⟨g, 0, none⟩) n n) (insE es i x) w (.returned (.slice (some ⟨G, 0, none⟩) (n + 1) C)) W3 from by
    refine ⟨some ⟨G, 0, none⟩, C, by rw [hil], ⟨by rw [evC_len], .inr ⟨G, C, R2.toArray, by rw [hil], by omega, hD2, by rw [hil]; exact hC1, hC2, by simpa using hL2, ?_⟩⟩, ⟨hg2.os, hg2.tape, hg2.output, hg2.size, fun k hk _ => hg2.block k hk (by simp)⟩⟩
    rw [hil]
    simpa using hT2)
  rw [hG] at hap
  have HAP := Lib.hid hap
  have q1 : ¬ C = i := by omega
  have q2 : ¬ C = i + 1 := by omega
  have q3 : ¬ n = i := by omega
  clear hap hown hv hcells hold hcl hROW hC hRs hRt hD0 hg0 hvs hR1 hD1 hg1 hT1 hL1 hR1e hW2 hcs hD1' hdl hD2 hg2 hL2 hT2 hR2e hW3 hil hm2 hRl hn hik
  go_enter Tryd.func6, Tryd.ntmps6
  go_wp2_with (at_builtin; refine Lib.wpList_append_run _ rfl _ _ _ _ rfl _ _ rfl rfl _ _ (HAP.out _) ?_)
  go_region
  all_goals
    go_wp2
    go_ret
    exact HFIN.out
set_option maxHeartbeats 4000000 in
set_option maxRecDepth 100000 in
theorem ins_room (g n i c vb B : Nat) (es : List Ev) (x : Ev) (w : World) (hn : es.length = n) (hin : i < n) (h1000 : n ≤ 1000) (hroom : n + 1 ≤ c) (hvb : vb ≠ g)
    (hown : w.ownsRow B 35 5 (.slice (some ⟨g, 0, none⟩) n c) n (evC es)) (hv : w.heap[vb]? = some (.cells (evL x).toArray 35 (0, 0))) :
    Calls Tryd.prog 6 #[.slice (some ⟨g, 0, none⟩) n c, .int .i64 i, .slice (some ⟨vb, 0, none⟩) 1 1] w (RetIns B (.slice (some ⟨g, 0, none⟩) n c) (insE es i x) w) := by
  obtain ⟨i0, hi⟩ : ∃ i, Tryd.prog.info? 35 = some i := ⟨_, rfl⟩
  have hz1 : i0.size = 5 := by obtain rfl := Option.some.inj (hi.symm.trans rfl); rfl
  have hsz : (Tryd.prog.info? 35).map (·.size) = some 5 := by rw [hi]; simp [hz1]
  obtain ⟨g', cap, cur, hv', hbg, hh, hnc, hcm, hcs, hct⟩ : ∃ g' cap cur, Value.slice (some ⟨g, 0, none⟩) n c = .slice (some ⟨g', 0, none⟩) n cap ∧ B ≤ g' ∧ w.heap[g']? = some (.cells cur 35 (0, 0)) ∧ n ≤ cap ∧ cap ≤ maxLen ∧ cur.size = cap * 5 ∧ cur.toList.take (n * 5) = evC es := by
    rcases hown.2 with ⟨h, h2⟩ | h
    · cases h
    · exact h
  cases hv'
  have hcm' : c ≤ 9223372036854775807 := by unfold maxLen at hcm; omega
  have hcl : (evC es).length = n * 5 := by rw [evC_len, hn]
  have hgl := lt_heap hh
  have hvs : ∀ j u, (evL x)[j]? = some u → w.cell? ((⟨vb, 0, none⟩ : Addr).add j) = some u := World.news_of_block (cs := (evL x).toArray) hv
  have hcells : ∀ j u, ((evC es).drop (i * 5))[j]? = some u → w.drew.cell? ((⟨g, i * 5, none⟩ : Addr).add j) = some u := fun j u hj => by
    rw [Addr.add_lit]
    show w.cell? _ = _
    rw [cell_of_row _ _ _ _ _ _ hh]
    rw [List.getElem?_drop, ← hct, List.getElem?_take] at hj
    split at hj
    · simpa using hj
    · cases hj
  have hov : ∀ lb cb, (callFunc 14 #[.slice (some ⟨vb, 0, none⟩) 1 1, .slice (some ⟨g, (i + 1) * 5, none⟩) lb cb]).run Tryd.prog w = .ok (.value (.bool false)) w := fun lb cb => by
    rw [run_callFunc_extern Tryd.func14 (by kernel_rfl) (by kernel_rfl) (by kernel_rfl) (e := Extern.SlicesOverlaps.overlaps #[31, 31] #[4]) (by kernel_rfl),
      Lib.run_overlaps_apart w 31 4 35 Tryd.underlying31 5 (fun w => by kernel_rfl) ⟨vb, 0, none⟩ ⟨g, (i + 1) * 5, none⟩ 1 1 lb cb hvb 35 35 5 (c * 5) (by simp [World.shape?, hv, evL_len]) (by simp [World.shape?, hh, hcs]) (by omega) (by simp [World.frozen?, hv]) (by simp [World.frozen?, hv])]
    rfl
  have hdl : ((evC es).drop (i * 5)).length = (n - i) * 5 := by rw [List.length_drop, hcl]; omega
  have hD0 : w.drew.heap[g]? = some (.cells cur 35 (0, 0)) := hh
  have hc1 : ∀ ty, (Builtin.copy_ #[31, 31] ty #[.slice (some ⟨g, (i + 1) * 5, none⟩) (n - i) (c - (i + 1)), .slice (some ⟨g, i * 5, none⟩) (n + 1 - i) (c - i)]).run Tryd.prog w.drew = .ok (goInt (Nat.min (n + 1 - i) (n - i))) (w.drew.setRow g (cur.toList.take ((i + 1) * 5) ++ (evC es).drop (i * 5) ++ cur.toList.drop ((i + 1) * 5 + ((evC es).drop (i * 5)).length)).toArray) := fun ty =>
    run_copy_rowk _ _ _ ty 35 g ((i + 1) * 5) _ _ _ (n + 1 - i) (c - i) cur 35 ((evC es).drop (i * 5)) 5 Tryd.underlying31 hsz hD0 (by rw [hdl]; simp only [Nat.min_def]; split <;> omega) hcells (by rw [hdl, hcs]; omega) (fun u hu => evC_one es u (List.mem_of_mem_drop hu))
  rw [show Nat.min (n + 1 - i) (n - i) = n - i by simp only [Nat.min_def]; split <;> omega] at hc1
  have hL1 : (cur.toList.take ((i + 1) * 5) ++ (evC es).drop (i * 5) ++ cur.toList.drop ((i + 1) * 5 + ((evC es).drop (i * 5)).length)).length = c * 5 := by simp [hdl, hcs]; omega
  have hD1 := setRow_heap _ g _ (cur.toList.take ((i + 1) * 5) ++ (evC es).drop (i * 5) ++ cur.toList.drop ((i + 1) * 5 + ((evC es).drop (i * 5)).length)).toArray _ _ hD0
  have hg1 : w.grownBy (w.drew.setRow g (cur.toList.take ((i + 1) * 5) ++ (evC es).drop (i * 5) ++ cur.toList.drop ((i + 1) * 5 + ((evC es).drop (i * 5)).length)).toArray) (some g) :=
    ⟨rfl, rfl, rfl, by simp [World.setRow], fun k hk hn => (setRow_other _ g k _ (by intro e; exact hn (by rw [e]))).trans rfl⟩
  have hT1 : (cur.toList.take ((i + 1) * 5) ++ (evC es).drop (i * 5) ++ cur.toList.drop ((i + 1) * 5 + ((evC es).drop (i * 5)).length)).take (i * 5) = (evC es).take (i * 5) ∧ ((cur.toList.take ((i + 1) * 5) ++ (evC es).drop (i * 5) ++ cur.toList.drop ((i + 1) * 5 + ((evC es).drop (i * 5)).length)).drop (i * 5 + (evL x).length)).take ((n - i) * 5) = (evC es).drop (i * 5) := by
    constructor
    · rw [List.append_assoc, List.take_append_of_le_length (by rw [List.length_take, Array.length_toList, hcs]; omega), List.take_take, ← hct, List.take_take]
      congr 1
      omega
    · rw [evL_len, List.append_assoc, List.drop_append_of_le_length (by rw [List.length_take, Array.length_toList, hcs]; omega), List.drop_eq_nil_of_le (by rw [List.length_take, Array.length_toList, hcs]; omega), List.nil_append, List.take_left' hdl]
  obtain ⟨R1, hR1e⟩ : ∃ R1, cur.toList.take ((i + 1) * 5) ++ (evC es).drop (i * 5) ++ cur.toList.drop ((i + 1) * 5 + ((evC es).drop (i * 5)).length) = R1 := ⟨_, rfl⟩
  rw [hR1e] at hc1 hD1 hg1 hT1 hL1
  obtain ⟨W2, hW2⟩ : ∃ W2, w.drew.setRow g R1.toArray = W2 := ⟨_, rfl⟩
  rw [hW2] at hc1 hD1 hg1
  have hvs2 : ∀ j u, (evL x)[j]? = some u → W2.cell? ((⟨vb, 0, none⟩ : Addr).add j) = some u := World.news_of_block (cs := (evL x).toArray) (grown_ne hg1 hv (by simp [hvb]))
  have hc2 : ∀ ty, (Builtin.copy_ #[31, 31] ty #[.slice (some ⟨g, i * 5, none⟩) (n + 1 - i) (c - i), .slice (some ⟨vb, 0, none⟩) 1 1]).run Tryd.prog W2 = .ok (goInt (Nat.min 1 (n + 1 - i))) (W2.setRow g (R1.toArray.toList.take (i * 5) ++ evL x ++ R1.toArray.toList.drop (i * 5 + (evL x).length)).toArray) := fun ty =>
    run_copy_rowk _ _ _ ty 35 g (i * 5) _ _ _ 1 1 R1.toArray 35 (evL x) 5 Tryd.underlying31 hsz hD1 (by rw [evL_len]; simp only [Nat.min_def]; split <;> omega) hvs2 (by rw [evL_len]; simp [hL1]; omega) (evL_one x)
  rw [show Nat.min 1 (n + 1 - i) = 1 by simp only [Nat.min_def]; split <;> omega] at hc2
  have hL2 : (R1.toArray.toList.take (i * 5) ++ evL x ++ R1.toArray.toList.drop (i * 5 + (evL x).length)).length = c * 5 := by
    have := evL_len x
    simp [hL1, this]
    omega
  have hD2 := setRow_heap _ g _ (R1.toArray.toList.take (i * 5) ++ evL x ++ R1.toArray.toList.drop (i * 5 + (evL x).length)).toArray _ _ hD1
  have hg2 : w.grownBy (W2.setRow g (R1.toArray.toList.take (i * 5) ++ evL x ++ R1.toArray.toList.drop (i * 5 + (evL x).length)).toArray) (some g) :=
    ⟨hg1.os, hg1.tape, hg1.output, by rw [show (W2.setRow g (R1.toArray.toList.take (i * 5) ++ evL x ++ R1.toArray.toList.drop (i * 5 + (evL x).length)).toArray).heap.size = W2.heap.size by simp [World.setRow]]; exact hg1.size, fun k hk hn => (setRow_other _ g k _ (by intro e; exact hn (by rw [e]))).trans (hg1.block k hk hn)⟩
  have hT2 : (R1.toArray.toList.take (i * 5) ++ evL x ++ R1.toArray.toList.drop (i * 5 + (evL x).length)).take ((n + 1) * 5) = evC (insE es i x) := by
    have e1 : R1.toArray.toList.take (i * 5) = (evC es).take (i * 5) := by simpa using hT1.1
    have e2 : (n + 1) * 5 = ((evC es).take (i * 5) ++ evL x).length + (n - i) * 5 := by rw [List.length_append, List.length_take, hcl, evL_len]; omega
    rw [e1, e2, List.take_length_add_append]
    have e3 : (R1.toArray.toList.drop (i * 5 + (evL x).length)).take ((n - i) * 5) = (evC es).drop (i * 5) := by simpa using hT1.2
    rw [e3]
    unfold insE
    rw [evC_app, evC_take es i (by omega), show x :: es.drop i = [x] ++ es.drop i from rfl, evC_app, evC_drop es i (by omega)]
    simp [evC]
  obtain ⟨R2, hR2e⟩ : ∃ R2, R1.toArray.toList.take (i * 5) ++ evL x ++ R1.toArray.toList.drop (i * 5 + (evL x).length) = R2 := ⟨_, rfl⟩
  rw [hR2e] at hc2 hD2 hg2 hL2 hT2
  obtain ⟨W3, hW3⟩ : ∃ W3, W2.setRow g R2.toArray = W3 := ⟨_, rfl⟩
  rw [hW3] at hc2 hD2 hg2
  have hil : (insE es i x).length = n + 1 := by unfold insE; rw [List.length_append, List.length_cons, List.length_take, List.length_drop]; omega
  have HFIN := Lib.hid (show RetIns B (.slice (some ⟨g, 0, none⟩) n c) (insE es i x) w (.returned (.slice (some ⟨g, 0, none⟩) (n + 1) c)) W3 from by
    refine ⟨some ⟨g, 0, none⟩, c, by rw [hil], ⟨by rw [evC_len], .inr ⟨g, c, R2.toArray, by rw [hil], hbg, hD2, by rw [hil]; exact hroom, hcm, by simpa using hL2, ?_⟩⟩, hg2⟩
    rw [hil]
    simpa using hT2)
  have q1 : ¬ c = i := by omega
  have q2 : ¬ c = i + 1 := by omega
  have q4 : ¬ c = n := by omega
  have q5 : ¬ (c : Int) < (n : Int) + 1 := by omega
  clear hown hv hcl hvs hcells hdl hD0 hD1 hg1 hT1 hL1 hR1e hW2 hvs2 hD2 hg2 hL2 hT2 hR2e hW3 hil hh hcs hct hn
  go_enter Tryd.func6, Tryd.ntmps6
  go_wp2_with (simp only [hov])
  go_region
  all_goals
    go_wp2
    go_ret
    exact HFIN.out
/-- slices.Insert of one event. -/
theorem insert_c (A : Option Addr) (c n i vb B : Nat) (es : List Ev) (x : Ev) (w : World) (hn : es.length = n) (hin : i ≤ n) (h1000 : n ≤ 1000) (hB : B ≤ w.heap.size) (hvb : ∀ a, A = some a → vb ≠ a.block)
    (hown : w.ownsRow B 35 5 (.slice A n c) n (evC es)) (hv : w.heap[vb]? = some (.cells (evL x).toArray 35 (0, 0))) :
    Calls Tryd.prog 6 #[.slice A n c, .int .i64 i, .slice (some ⟨vb, 0, none⟩) 1 1] w (RetIns B (.slice A n c) (insE es i x) w) := by
  by_cases h : i = n
  · subst h
    exact ins_end A c i vb B es x w hn h1000 hB hown hv
  · obtain ⟨g, rfl, hnc⟩ : ∃ g, A = some ⟨g, 0, none⟩ ∧ n ≤ c := by
      rcases hown.2 with ⟨h, h2⟩ | ⟨g, cap, _, h, _, _, h3, _⟩
      · omega
      · cases h; exact ⟨g, rfl, h3⟩
    by_cases hc : c = n
    · subst hc
      exact ins_grow g c i vb B es x w hn (by omega) h1000 hB hown hv
    · exact ins_room g n i c vb B es x w hn (by omega) h1000 (by omega) (hvb _ rfl) hown hv
end Go.Proofs.YtlkidhfjkgppoaaDoor
