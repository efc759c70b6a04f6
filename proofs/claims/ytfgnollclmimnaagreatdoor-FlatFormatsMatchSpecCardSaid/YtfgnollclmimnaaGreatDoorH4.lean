/- The library's contracts of strings.Join and of a Builder's WriteString, laid at this dump. (Printed by genHB.py.) The walks of kit's Join and Dash, of the reference's or; numbers written. Words pushed to a row of strings: what the walks of columnText and columnWords want. (Printed by genH4.py.) -/
import Derived.Shelf.Lay
import Derived.Shelf.Strings.BuilderF
import Derived.Shelf.Strings.OnBuilder
import Derived.Shelf.Strings.BuilderK
import Derived.Test.YtfgnollclmimnaaGreatDoorProg
import Derived.Test.YtfgnollclmimnaaGreatDoorH2
import Derived.Test.YtfgnollclmimnaaGreatDoorG6
import Derived.Lib.AppendIntMem
import Derived.Test.YtfgnollclmimnaaGreatDoorFF
-- merged: HB H3 H4

namespace Go.Proofs
open Go.Shelf
def Tryz.layH166_ren : Go.Shelf.Ren := ⟨fun | 166 => 18 | 240 => 49 | 276 => 72 | n => n, fun | 0 => 0 | 3 => 3 | 4 => 4 | 5 => 5 | 9 => 9 | 20 => 20 | 31 => 34 | 37 => 53 | 70 => 52 | 72 => 55 | 75 => 57 | 76 => 58 | 80 => 64 | 127 => 88 | 164 => 104 | n => n, fun | n => n⟩
theorem Tryz.layH166 : Go.Proofs.Lays.n166 Tryz.prog Tryz.layH166_ren := {
  mixed := by kernel_rfl
  f166 := Tryz.func18.trans (congrArg some (by kernel_rfl))
  f240 := Tryz.func49.trans (congrArg some (by kernel_rfl))
  f276 := Tryz.func72.trans (congrArg some (by kernel_rfl))
  t0 := Tryz.underlying0
  a0 := Tryz.isAgg0
  z0 := Tryz.sizeOf0
  v0 := Tryz.zeroValue0
  t3 := Tryz.underlying3
  a3 := Tryz.isAgg3
  z3 := Tryz.sizeOf3
  v3 := Tryz.zeroValue3
  t4 := Tryz.underlying4
  a4 := Tryz.isAgg4
  z4 := Tryz.sizeOf4
  v4 := Tryz.zeroValue4
  t9 := Tryz.underlying9
  a9 := Tryz.isAgg9
  z9 := Tryz.sizeOf9
  v9 := Tryz.zeroValue9
  t20 := Tryz.underlying20
  a20 := Tryz.isAgg20
  z20 := Tryz.sizeOf20
  v20 := Tryz.zeroValue20
  t37 := Tryz.underlying53
  a37 := Tryz.isAgg53
  z37 := Tryz.sizeOf53
  v37 := Tryz.zeroValue53
  t70 := Tryz.underlying52
  a70 := Tryz.isAgg52
  z70 := Tryz.sizeOf52
  v70 := Tryz.zeroValue52
  t72 := Tryz.underlying55
  a72 := Tryz.isAgg55
  z72 := Tryz.sizeOf55
  v72 := Tryz.zeroValue55
  t75 := Tryz.underlying57
  a75 := Tryz.isAgg57
  z75 := Tryz.sizeOf57
  v75 := Tryz.zeroValue57
  t164 := Tryz.underlying104
  a164 := Tryz.isAgg104
  z164 := Tryz.sizeOf104
  v164 := Tryz.zeroValue104 }
theorem Tryz.layH166_extra : Builder.Extra Tryz.prog Tryz.layH166_ren := {
  sizeBuilder := by kernel_rfl
  liesBuilder := by kernel_rfl
  t5 := Tryz.underlying5
  a5 := Tryz.isAgg5
  z5 := Tryz.sizeOf5
  v5 := Tryz.zeroValue5
  infoByte := by kernel_rfl
  cellsByte := by kernel_rfl
  sizeByte := by kernel_rfl
  neB5 := by decide }
def Tryz.layH156_ren : Go.Shelf.Ren := ⟨fun | 156 => 25 | 165 => 51 | 166 => 18 | 169 => 23 | 240 => 49 | 241 => 74 | 276 => 72 | 277 => 109 | n => n, fun | 0 => 0 | 3 => 3 | 4 => 4 | 5 => 5 | 9 => 9 | 20 => 20 | 31 => 34 | 37 => 53 | 70 => 52 | 72 => 55 | 75 => 57 | 76 => 58 | 80 => 64 | 127 => 88 | 164 => 104 | n => n, fun | n => n⟩
theorem Tryz.layH156 : Go.Proofs.Lays.n156 Tryz.prog Tryz.layH156_ren := {
  mixed := by kernel_rfl
  f156 := Tryz.func25.trans (congrArg some (by kernel_rfl))
  f165 := Tryz.func51.trans (congrArg some (by kernel_rfl))
  f166 := Tryz.func18.trans (congrArg some (by kernel_rfl))
  f169 := Tryz.func23.trans (congrArg some (by kernel_rfl))
  f240 := Tryz.func49.trans (congrArg some (by kernel_rfl))
  f241 := Tryz.func74.trans (congrArg some (by kernel_rfl))
  f276 := Tryz.func72.trans (congrArg some (by kernel_rfl))
  f277 := Tryz.func109.trans (congrArg some (by kernel_rfl))
  t0 := Tryz.underlying0
  a0 := Tryz.isAgg0
  z0 := Tryz.sizeOf0
  v0 := Tryz.zeroValue0
  t3 := Tryz.underlying3
  a3 := Tryz.isAgg3
  z3 := Tryz.sizeOf3
  v3 := Tryz.zeroValue3
  t4 := Tryz.underlying4
  a4 := Tryz.isAgg4
  z4 := Tryz.sizeOf4
  v4 := Tryz.zeroValue4
  t9 := Tryz.underlying9
  a9 := Tryz.isAgg9
  z9 := Tryz.sizeOf9
  v9 := Tryz.zeroValue9
  t20 := Tryz.underlying20
  a20 := Tryz.isAgg20
  z20 := Tryz.sizeOf20
  v20 := Tryz.zeroValue20
  t31 := Tryz.underlying34
  a31 := Tryz.isAgg34
  z31 := Tryz.sizeOf34
  v31 := Tryz.zeroValue34
  t37 := Tryz.underlying53
  a37 := Tryz.isAgg53
  z37 := Tryz.sizeOf53
  v37 := Tryz.zeroValue53
  t70 := Tryz.underlying52
  a70 := Tryz.isAgg52
  z70 := Tryz.sizeOf52
  v70 := Tryz.zeroValue52
  t72 := Tryz.underlying55
  a72 := Tryz.isAgg55
  z72 := Tryz.sizeOf55
  v72 := Tryz.zeroValue55
  t75 := Tryz.underlying57
  a75 := Tryz.isAgg57
  z75 := Tryz.sizeOf57
  v75 := Tryz.zeroValue57
  t76 := Tryz.underlying58
  a76 := Tryz.isAgg58
  z76 := Tryz.sizeOf58
  v76 := Tryz.zeroValue58
  t127 := Tryz.underlying88
  a127 := Tryz.isAgg88
  z127 := Tryz.sizeOf88
  v127 := Tryz.zeroValue88
  t164 := Tryz.underlying104
  a164 := Tryz.isAgg104
  z164 := Tryz.sizeOf104
  v164 := Tryz.zeroValue104 }
theorem Tryz.layH156_extra : Builder.Extra Tryz.prog Tryz.layH156_ren := {
  sizeBuilder := by kernel_rfl
  liesBuilder := by kernel_rfl
  t5 := Tryz.underlying5
  a5 := Tryz.isAgg5
  z5 := Tryz.sizeOf5
  v5 := Tryz.zeroValue5
  infoByte := by kernel_rfl
  cellsByte := by kernel_rfl
  sizeByte := by kernel_rfl
  neB5 := by decide }
open Go.RowKit in
theorem Tryz.wstr_c (B b : Nat) (bs : List Value) (s : ByteArray) (w : World) (h : Lib.IsBuilderF 55 5 B b bs w) (hlen : bs.length + s.size ≤ 140737488355328) (hBw : B ≤ w.heap.size) :
    Calls Tryz.prog 18 #[.pointer (some ⟨b, 0, none⟩), .string s] w fun e w' => e = .returned (.tuple #[.int .i64 s.size, .nilIface]) ∧ (Lib.BuilderAtF 55 5 B b (.pointer (some ⟨b, 0, none⟩)) (bs ++ Lib.strCells s) w' ∧ Below B w w') :=
  Any.Builder_WriteString_f Tryz.layH166 Tryz.layH166_extra B b bs s w h hlen hBw
open Go.RowKit in
theorem Tryz.wstrk_c (B b : Nat) (bs : List Value) (s : ByteArray) (w : World) (h : Lib.IsBuilderF 55 5 B b bs w) (hlen : bs.length + s.size ≤ 140737488355328) (hBw : B ≤ w.heap.size) :
    Calls Tryz.prog 18 #[.pointer (some ⟨b, 0, none⟩), .string s] w fun e w' => e = .returned (.tuple #[.int .i64 s.size, .nilIface]) ∧ (Lib.BuilderAtF 55 5 B b (.pointer (some ⟨b, 0, none⟩)) (bs ++ Lib.strCells s) w' ∧ Below B w w' ∧ Lib.OthersKept 5 (some b) w w') :=
  Any.Builder_WriteString_k Tryz.layH166 Tryz.layH166_extra B b bs s w h hlen hBw
open Go.RowKit in
theorem Tryz.join_c (bk o c : Nat) (xs : List ByteArray) (sep : ByteArray) (w : World)
    (hcells : ∀ (j : Nat) x, xs[j]? = some x → w.cell? ⟨bk, o + j, none⟩ = some (.string x))
    (hbk : bk < w.heap.size) (hN : xs.length ≤ 140737488355328) (hcap : xs.length ≤ c)
    (hlen : (Lib.join (xs.map (·.data.toList)) sep.data.toList).length ≤ 140737488355328) :
    Calls Tryz.prog 25 #[.slice (some ⟨bk, o, none⟩) xs.length c, .string sep] w fun e w' => e = .returned (.string ⟨(Lib.join (xs.map (·.data.toList)) sep.data.toList).toArray⟩) ∧ Below w.heap.size w w' :=
  Any.strings_Join Tryz.layH156 Tryz.layH156_extra bk o c xs sep w hcells hbk hN hcap hlen
end Go.Proofs

namespace Go.Proofs.YtfgnollclmimnaaGreatDoor
open Go.RowKit Limb Nmb Work
set_option linter.unusedVariables false
set_option linter.unusedSimpArgs false

theorem join_jn (g : UInt8) : ∀ ps : List (List UInt8), Lib.join ps [g] = jn g ps
  | [] => rfl
  | [p] => by rw [Lib.join_one]; rfl
  | p :: q :: ps => by
    have := join_jn g (q :: ps)
    rw [jn_cons (by simp), ← this]
    unfold Lib.join
    simp [List.intercalate]
def RetS6 (s : ByteArray) (w : World) (e : Ending) (w' : World) : Prop := e = .returned (.string s) ∧ Below w.heap.size w w'
set_option maxRecDepth 100000 in
theorem dash_c (s : ByteArray) (w : World) : Calls Tryz.prog 21 #[.string s] w fun e w' => w = w' ∧ e = .returned (.string (bs (dshL s))) := by
  by_cases h : s = ⟨#[]⟩
  · have HU := Lib.hid (show bs (dshL s) = ⟨#[45]⟩ by unfold dshL; rw [if_pos (show s = eS from h)]; rfl)
    have g0 : s.toList.isEmpty = true := by rw [emp_dec]; exact decide_eq_true h
    clear h
    go_enter Tryz.func21, Tryz.ntmps21
    go_wp2
    go_ret
    exact ⟨rfl, by rw [HU.out]; rfl⟩
  · have HU := Lib.hid (show bs (dshL s) = s by unfold dshL; rw [if_neg (show ¬ s = eS from h), bs_self])
    have g0 : s.toList.isEmpty = false := by rw [emp_dec]; exact decide_eq_false h
    clear h
    go_enter Tryz.func21, Tryz.ntmps21
    go_wp2
    go_ret
    exact ⟨rfl, by rw [HU.out]; rfl⟩
set_option maxRecDepth 100000 in
theorem or_c (s : ByteArray) (w : World) : Calls Tryz.prog 24 #[.string s] w fun e w' => w = w' ∧ e = .returned (.string (bs (dshL s))) := by
  by_cases h : s = ⟨#[]⟩
  · have HU := Lib.hid (show bs (dshL s) = ⟨#[45]⟩ by unfold dshL; rw [if_pos (show s = eS from h)]; rfl)
    have g0 : s.toList.isEmpty = true := by rw [emp_dec]; exact decide_eq_true h
    clear h
    go_enter Tryz.func24, Tryz.ntmps24
    go_wp2
    go_ret
    exact ⟨rfl, by rw [HU.out]; rfl⟩
  · have HU := Lib.hid (show bs (dshL s) = s by unfold dshL; rw [if_neg (show ¬ s = eS from h), bs_self])
    have g0 : s.toList.isEmpty = false := by rw [emp_dec]; exact decide_eq_false h
    clear h
    go_enter Tryz.func24, Tryz.ntmps24
    go_wp2
    go_ret
    exact ⟨rfl, by rw [HU.out]; rfl⟩
/-- The words of a row joined by blanks. -/
theorem sjoin_c (ws : List (List UInt8)) (g c : Nat) (w : World) (hh : Sts w (some ⟨g, 0, none⟩) (ws.map bs)) (h0 : 0 < ws.length) (hc : ws.length ≤ c) (hl : (lnT ws).length ≤ 100000) :
    Calls Tryz.prog 25 #[.slice (some ⟨g, 0, none⟩) ws.length c, .string ⟨#[32]⟩] w (RetS6 (bs (jn 32 ws)) w) := by
  have hne : ws ≠ [] := fun e => by rw [e] at h0; exact absurd h0 (by decide)
  obtain ⟨b, off, e, hlt, hcs⟩ := hh.cells (by rw [List.length_map]; exact h0)
  injection e with e
  injection e with e1 e2
  subst e1; subst e2
  have hcnt : ws.length ≤ (lnT ws).length := by
    rw [ln_len hne]
    clear hl hh hcs hc h0 hne
    induction ws with
    | nil => simp
    | cons a ws ih => simp only [List.map_cons, List.sum_cons, List.length_cons]; omega
  have e3 : (ws.map bs).map (·.data.toList) = ws := by
    rw [List.map_map]
    conv => rhs; rw [← List.map_id ws]
    exact List.map_congr_left fun x _ => bs_toList x
  have hj : (Lib.join ((ws.map bs).map (·.data.toList)) (⟨#[32]⟩ : ByteArray).data.toList) = jn 32 ws := by
    rw [e3]; exact join_jn 32 ws
  have hjl : (jn 32 ws).length ≤ 100000 := by have : (lnT ws).length = (jn 32 ws).length + 1 := by unfold lnT; simp
                                              omega
  have := Tryz.join_c g 0 c (ws.map bs) ⟨#[32]⟩ w (fun j x hx => by
    obtain ⟨hj1, hj2⟩ := List.getElem?_eq_some_iff.1 hx
    have h1 := hcs j hj1
    rw [h1]
    unfold wd
    rw [List.getD_eq_getElem?_getD, hx]; rfl) hlt (by rw [List.length_map]; omega) (by rw [List.length_map]; exact hc) (by rw [hj]; omega)
  rw [hj, List.length_map] at this
  exact this
set_option maxHeartbeats 1000000 in
set_option maxRecDepth 100000 in
theorem kjoin_c (ws : List (List UInt8)) (g c : Nat) (w : World) (hh : Sts w (some ⟨g, 0, none⟩) (ws.map bs)) (h0 : 0 < ws.length) (hc : ws.length ≤ c) (hl : (lnT ws).length ≤ 100000) :
    Calls Tryz.prog 19 #[.slice (some ⟨g, 0, none⟩) ws.length c] w (RetS6 (bs (lnT ws)) w) := by
  have HJ := Lib.hid (sjoin_c ws g c w hh h0 hc hl)
  have hz : (bs (jn 32 ws)).size + 1 = (lnT ws).length := by rw [bs_size]; unfold lnT; simp
  have HE := Lib.hid (show bs (lnT ws) = bs (jn 32 ws) ++ ⟨#[10]⟩ by
    apply ByteArray.ext
    rw [ByteArray.data_append]
    unfold lnT bs
    simp)
  obtain ⟨s, hs⟩ : ∃ x, bs (jn 32 ws) = x := ⟨_, rfl⟩
  rw [hs] at HJ HE hz
  have hnb : ¬ (9223372036854775807 < s.size + 1) := by omega
  have hnb2 : s.size + 1 ≤ 9223372036854775807 := by omega
  obtain ⟨n, hn⟩ : ∃ x, ws.length = x := ⟨_, rfl⟩
  rw [hn] at HJ ⊢
  rw [HE.out]
  unfold RetS6 at HJ
  clear hs hn hh h0 hc hl hz
  go_enter Tryz.func19, Tryz.ntmps19
  go_wp2_with fail
  refine HJ.out.mono ?_
  rintro e w1 ⟨rfl, hb1⟩
  go_wp2
  go_ret
  exact ⟨rfl, hb1⟩
/-- A small number written. -/
theorem itoa6_c (n : Int) (w : World) (h0 : 0 ≤ n ∧ n ≤ 2000) (ht : Lib.TabIs Tryz.prog w "internal/strconv.uint64pow10" .u64 Lib.pow10Tab) :
    Calls Tryz.prog 20 #[.int .i64 n] w (RetS6 (bs (Lib.itoa n)) w) := by
  refine (Tryz.strconv_Itoa n (by omega) (by omega) w ht).mono ?_
  rintro e w' ⟨rfl, k, os, rfl⟩
  exact ⟨rfl, Lib.below_grow _ w (Nat.le_refl _) k os⟩
end Go.Proofs.YtfgnollclmimnaaGreatDoor

namespace Go.Proofs.YtfgnollclmimnaaGreatDoor
open Go.RowKit Limb Nmb Work
set_option linter.unusedVariables false
set_option linter.unusedSimpArgs false

def Tab6 (w : World) : Prop := Lib.TabIs Tryz.prog w "internal/strconv.uint64pow10" .u64 Lib.pow10Tab
theorem Tab6.below {w w' : World} (h : Tab6 w) (hb : Below w.heap.size w w') : Tab6 w' := Lib.tabBelow_of_tabIs h w' hb
def strV (L : List ByteArray) : List Value := L.map Value.string
theorem strV_app (L M : List ByteArray) : strV L ++ strV M = strV (L ++ M) := by unfold strV; simp
theorem own_sts {w : World} {B : Nat} {A : Option Addr} {n c : Nat} {L : List ByteArray} (h : w.ownsRow B 9 1 (.slice A n c) n (strV L)) (hn : 0 < n) : ∃ g, A = some ⟨g, 0, none⟩ ∧ Sts w (some ⟨g, 0, none⟩) L ∧ n ≤ c ∧ L.length = n := by
  have hc := own_cap h
  obtain ⟨h1, h2⟩ := h
  have hl : L.length = n := by unfold strV at h1; rw [List.length_map] at h1; omega
  rcases h2 with ⟨h2, h3⟩ | ⟨g, cap, cur, hv, hb, hh, hn2, _, hs, ht⟩
  · omega
  · cases hv
    refine ⟨g, rfl, fun _ => ⟨g, 0, cur, (0, 0), rfl, hh, fun j hj => ?_⟩, hc.1, hl⟩
    have h3 : (strV L)[j]? = some (.string (wd L j)) := by unfold strV wd; simp [List.getD_eq_getElem?_getD, hj]
    rw [← ht, List.getElem?_take, if_pos (by omega)] at h3
    rw [Nat.zero_add]
    simpa using h3
theorem obox3s {w : World} {g : Nat} {a b c : Value} {T : TypeId} (h : w.heap[g]? = some (.cells #[a, b, c] T (0, 0))) : w.cell? ⟨g, 0, none⟩ = some a ∧ w.cell? ⟨g, 1, none⟩ = some b ∧ w.cell? ⟨g, 2, none⟩ = some c ∧ g < w.heap.size :=
  ⟨cell_of_row w g 0 _ _ _ h, cell_of_row w g 1 _ _ _ h, cell_of_row w g 2 _ _ _ h, lt_heap h⟩
/-- One or two words are appended to the own row. -/
theorem wpList_push_strs {P : Program} {w : World} {ops : Array Oper} {rest : List Oper} {o : Oper} {a : Act} {Q : Exit → Act → World → Prop}
    (hg : o.guard = none) (s x : Operand) (t : TypeId) (hop : o.op = Op.call { callee := Callee.builtin Builtin.append, args := #[s, x], argTypes := #[t, t] })
    (base : Nat) (i : TypeInfo) (z : Value) (h1 : P.underlying t = some (.slice 9)) (h2 : P.info? 9 = some i) (hz : i.zero = some z) (h4 : i.size = 1) (hby : i.bytes = 16) (hzs : z.cells.size = 1)
    (v : Value) (n : Nat) (L : List ByteArray) (hs : a.eval s = v) (hown : w.ownsRow base 9 1 v n (strV L)) (m : Nat) (us : List Value) (M : List ByteArray) (hus : us = strV M) (hx : a.eval x = .slice (some ⟨w.heap.size, 0, none⟩) m m) (hm : M.length = m)
    (b1 : n + m ≤ 1000) (hbase : base ≤ w.heap.size)
    (hK : ∀ A c w', w'.ownsRow base 9 1 (.slice A (n + m) c) (n + m) (strV (L ++ M)) → w.grownBy w' v.ownBlock → wpList P ops Q rest (a.put o.dst (.slice A (n + m) c)) w') :
    wpList P ops Q (o :: rest) a (w.alloc (.cells us.toArray 9)) := by
  subst hus
  exact wpList_append_own _ hg s x t hop base 9 i z 1 16 h1 h2 hz h4 hby hzs (by omega) v n (strV L) hs (hown.alloc _) ⟨w.heap.size, 0, none⟩ m m (strV M) hx (by unfold strV; rw [List.length_map]; omega) (k_cellsF w (strV M) 9)
    (by intro u hu; unfold strV at hu; obtain ⟨y, -, rfl⟩ := List.mem_map.1 hu; rfl) (by unfold maxLen; omega) (by omega) (by simp; omega) fun v' w' r1 r2 _ => by
    obtain ⟨A, c, rfl⟩ := own_slice r1
    rw [strV_app] at r1
    exact hK A c w' r1 (grown_alloc r2)
section
variable {P : Program} {ops : Array Oper} {Q : Exit → Act → World → Prop} {md : Region.Mode} {k : Nat}
theorem Till.more {T T' : World → Prop} (h : ∀ w, T' w → T w) : ∀ (n : Nat) (ls : Array Bool) (a : Act) (w : World), Till P md ops Q T' k n ls a w → Till P md ops Q T k n ls a w
  | 0, _, _, _, hh => hh
  | n + 1, _, _, _, hh => ⟨hh.1, fun i hi => wpOp_mono (fun a' w' h' => ⟨fun e => h _ (h'.1 e), Till.more h n _ a' w' h'.2⟩) (hh.2 i hi)⟩
theorem Till.fork {T : World → Prop} {i j : Nat} {o p : Oper} {n : Nat} {ls : Array Bool} {a : Act} {w : World} (hr : Region.ready md ops ls = [i, j]) (ho : ops[i]? = some o) (hp : ops[j]? = some p)
    (h1 : ∀ K' : Act → World → Prop, Hid (∀ a w, ((ls.setIfInBounds i true).getD k true = false → T w) → Till P md ops Q T k n (ls.setIfInBounds i true) a w → K' a w) →
      if Region.wanted o (yielded ops a.tmps) = true then Oper.wp P o a w K' Q else K' (a.put o.dst undef) w)
    (h2 : ∀ K' : Act → World → Prop, Hid (∀ a w, ((ls.setIfInBounds j true).getD k true = false → T w) → Till P md ops Q T k n (ls.setIfInBounds j true) a w → K' a w) →
      if Region.wanted p (yielded ops a.tmps) = true then Oper.wp P p a w K' Q else K' (a.put p.dst undef) w) : Till P md ops Q T k (n + 1) ls a w :=
  ⟨fun h0 => (by rw [hr] at h0; cases h0), fun x hx => by
    rw [hr] at hx
    rcases List.mem_cons.1 hx with rfl | hx
    · exact wpOp_step ho fun K' hK => h1 K' fun a w g1 g2 => hK a w ⟨g1, g2⟩
    · obtain rfl := List.mem_singleton.1 hx
      exact wpOp_step hp fun K' hK => h2 K' fun a w g1 g2 => hK a w ⟨g1, g2⟩⟩
end
def RetCW (W : List (List UInt8)) (w : World) (e : Ending) (w' : World) : Prop := ∃ g c, e = .returned (.slice (some ⟨g, 0, none⟩) W.length c) ∧ W.length ≤ c ∧ Sts w' (some ⟨g, 0, none⟩) (W.map bs) ∧ Below w.heap.size w w'
end Go.Proofs.YtfgnollclmimnaaGreatDoor
