/- The walk of the reference's written. (Printed by genV4.py.) The walks of kit's Words and Lines. A row of strings of a function's own: pushing to it. -/
import Derived.Test.YtbnjejenejoibaaGreatDoorZC
import Derived.Test.YtbnjejenejoibaaGreatDoorFC
import Derived.Test.YtbnjejenejoibaaGreatDoorShelfS
import Derived.Deep.AppendSrc
-- merged: V5 FE YP ZP Z3 Z4
namespace Go.Proofs.YtbnjejenejoibaaGreatDoor
open Go.RowKit Limb Nmb Work
set_option linter.unusedVariables false
set_option linter.unusedSimpArgs false
theorem split_bs (s sep : ByteArray) (g : UInt8) (h : sep.data.toList = [g]) : Lib.splitB sep 0 (Lib.countB s sep) s = (pcs g s.data.toList).map bs := by
 rw [<- split_pcs s sep g h, List.map_map]
 conv => lhs; rw [<- List.map_id (Lib.splitB sep 0 (Lib.countB s sep) s)]
 refine List.map_congr_left fun x _ => ?_
 exact (bs_self x).symm
theorem split_c (s : ByteArray) (g : UInt8) (m : Int) (w : World) (hs : s.size < 4294967281) (hm : w.cell? ⟨0, 0, none⟩ = some (.int .i64 m)) :
  Calls Tryz.prog 91 #[.string s, .string ⟨#[g]⟩] w fun e w' => e = .returned (.slice (some ⟨w.heap.size, 0, none⟩) (pcs g s.data.toList).length (pcs g s.data.toList).length) /\ w' = w.alloc (.cells (((pcs g s.data.toList).map bs).map Value.string).toArray 9) := by
 refine (Tryz.strings_Split s ⟨#[g]⟩ m w hs hm (Nat.le_refl 1)).mono ?_
 rintro e w' ⟨rfl, rfl⟩
 have e1 := split_bs s ⟨#[g]⟩ g rfl
 have e2 : Lib.countB s ⟨#[g]⟩ + 1 = (pcs g s.data.toList).length := by
  rw [<- Lib.splitB_all ⟨#[g]⟩ (Nat.le_refl 1) 0 _ _ rfl, e1, List.length_map]
 rw [e1, e2]
 exact ⟨rfl, rfl⟩
theorem sts_new {w : World} {g : Nat} {L : List ByteArray} (h : w.heap[g]? = some (.cells (L.map Value.string).toArray 9 (0, 0))) : Sts w (some ⟨g, 0, none⟩) L := fun hn =>
 ⟨g, 0, _, _, rfl, h, fun j hj => by
  have : L[j]? = some (wd L j) := by unfold wd; rw [List.getD_eq_getElem?_getD, List.getElem?_eq_getElem hj]; rfl
  simp [this]⟩
def RetWd (s : ByteArray) (w : World) (e : Ending) (w' : World) : Prop :=
 (if (wrdS s).any (fun x => decide (x = eS)) = true then e = .returned (.tuple #[.slice none 0 0, .bool false])
  else e = .returned (.tuple #[.slice (some ⟨w.heap.size, 0, none⟩) (wrdS s).length (wrdS s).length, .bool true]) /\ w'.heap[w.heap.size]? = some (.cells ((wrdS s).map Value.string).toArray 9 (0, 0))) /\ Below w.heap.size w w'
theorem RetWd.no {s : ByteArray} {w w' : World} (h : (wrdS s).any (fun x => decide (x = eS)) = true) (hb : Below w.heap.size w w') : RetWd s w (.returned (.tuple #[.slice none 0 0, .bool false])) w' := ⟨by rw [if_pos h], hb⟩
theorem RetWd.yes {s : ByteArray} {w w' : World} {n : Nat} (h : (wrdS s).any (fun x => decide (x = eS)) = false) (hn : (wrdS s).length = n) (hh : w'.heap[w.heap.size]? = some (.cells ((wrdS s).map Value.string).toArray 9 (0, 0))) (hb : Below w.heap.size w w') : RetWd s w (.returned (.tuple #[.slice (some ⟨w.heap.size, 0, none⟩) n n, .bool true])) w' := by
 subst hn
 exact ⟨by rw [if_neg (by rw [h]; decide)]; exact ⟨rfl, hh⟩, hb⟩
set_option maxHeartbeats 1000000 in
set_option maxRecDepth 100000 in
theorem words_c (s : ByteArray) (m : Int) (w : World) (hs : s.size < 4294967281) (hm : w.cell? ⟨0, 0, none⟩ = some (.int .i64 m)) :
  Calls Tryz.prog 92 #[.string s] w (RetWd s w) := by
 have HS := Lib.hid (split_c s 32 m w hs hm)
 have hlen : (wrdS s).length = (pcs 32 s.data.toList).length := by unfold wrdS; rw [List.length_map]
 have hwd : (pcs 32 s.data.toList).map bs = wrdS s := rfl
 rw [hwd, <- hlen] at HS
 have hsz := wrd_sz s
 obtain ⟨L, hL⟩ : ∃ x, wrdS s = x := ⟨_, rfl⟩
 rw [hL] at HS hsz
 have HLL := Lib.hid hL
 obtain ⟨n, hn⟩ : ∃ x, L.length = x := ⟨_, rfl⟩
 have HN := Lib.hid hn
 have hnz : n <= 9223372036854775807 := by
  rw [<- hn, <- hL]
  unfold wrdS
  rw [List.length_map, pcs_len]
  have := List.count_le_length (a := (32 : UInt8)) (l := s.data.toList)
  have h2 : s.data.toList.length = s.size := by simp
  omega
 obtain ⟨E, hE⟩ : ∃ x, L.any (fun x => decide (x = eS)) = x := ⟨_, rfl⟩
 have HE := Lib.hid hE
 rw [hn] at HS
 clear hn hE hL hwd hlen hm
 go_enter Tryz.func92, Tryz.ntmps92
 go_wp2_with fail
 refine HS.out.mono ?_
 rintro e w1 ⟨rfl, rfl⟩
 have hX := heap_new w (.cells (L.map Value.string).toArray 9) rfl
 have hb1 : Below w.heap.size w (w.alloc (.cells (L.map Value.string).toArray 9)) := by go_grown
 have HX := Lib.hid hX
 generalize w.alloc (.cells (L.map Value.string).toArray 9) = w1 at HX hb1 ⊢
 clear hX
 go_wp2_with fail
 go_loopw [11] (fun i wr => ∃ j : Nat, j <= n /\ i = .int .i64 j /\ wr = w1 /\ Hid (∀ t, t < j -> wd L t ≠ eS)) (fun i _ => n - (intOf i).toNat)
 case atStart => exact ⟨0, Nat.zero_le _, rfl, rfl, Lib.hid (fun t h => absurd h (Nat.not_lt_zero _))⟩
 case round =>
  obtain ⟨j, hj, rfl, rfl, HJ⟩ := hrel
  rcases Nat.lt_or_ge j n with hlt | hge
  ·obtain ⟨g, off, hg, -, hc⟩ := (sts_new HX.out).cells (by rw [HN.out]; omega)
   injection hg with hg
   injection hg with hg1 hg2
   subst hg1; subst hg2
   have hcj := hc j (by rw [HN.out]; exact hlt)
   rw [Nat.zero_add] at hcj
   obtain ⟨x, hx⟩ : ∃ x, wd L j = x := ⟨_, rfl⟩
   rw [hx] at hcj
   have HXJ := Lib.hid hx
   clear hc hx
   by_cases h : x = eS
   ·have e1 : x.toList.isEmpty = true := by rw [emp_dec]; exact decide_eq_true h
    have HEE := Lib.hid (show E = true by
     rw [<- HE.out]
     have hm : x ∈ L := by
      rw [<- HXJ.out]
      unfold wd
      rw [List.getD_eq_getElem?_getD, List.getElem?_eq_getElem (by rw [HN.out]; exact hlt)]
      exact List.getElem_mem _
     exact List.any_eq_true.2 ⟨x, hm, decide_eq_true h⟩)
    clear h
    go_wp2
    go_ret2
    exact RetWd.no (by rw [HLL.out, HE.out, HEE.out]) hb1
   ·have e1 : x.toList.isEmpty = false := by rw [emp_dec]; exact decide_eq_false h
    have HJ2 := Lib.hid (show ∀ t, t < j + 1 -> wd L t ≠ eS from fun t ht => by
     rcases Nat.lt_or_ge t j with h' | h'
     ·exact HJ.out t h'
     ·obtain rfl : t = j := by omega
      rw [HXJ.out]; exact h)
    clear h
    go_wp2
    go_roundw
    case rel => exact ⟨j + 1, by omega, by go_num, trivial, HJ2⟩
    case measure => simp [intOf]; omega
  ·obtain rfl : j = n := by omega
   have HEE := Lib.hid (show E = false by
    rw [<- HE.out, Bool.eq_false_iff]
    intro h
    obtain ⟨x, hx, h2⟩ := List.any_eq_true.1 h
    obtain ⟨t, ht, rfl⟩ := List.getElem_of_mem hx
    refine HJ.out t (by rw [<- HN.out]; exact ht) ?_
    unfold wd
    rw [List.getD_eq_getElem?_getD, List.getElem?_eq_getElem ht]
    exact of_decide_eq_true h2)
   go_wp2
   go_ret2
   exact RetWd.yes (by rw [HLL.out, HE.out, HEE.out]) (by rw [HLL.out, HN.out]) (by rw [HLL.out]; exact HX.out) hb1
theorem suf_one (l : List UInt8) (g : UInt8) : Lib.hasSuffix l [g] = decide (l.getLast? = some g) := by
 unfold Lib.hasSuffix
 rw [Bool.eq_iff_iff, decide_eq_true_iff, List.isSuffixOf_iff_suffix]
 constructor
 ·rintro ⟨a, rfl⟩
  simp
 ·intro h
  obtain ⟨a, rfl⟩ := List.getLast?_eq_some_iff.1 h
  exact ⟨a, rfl⟩
def RetLs (s : ByteArray) (w : World) (e : Ending) (w' : World) : Prop :=
 ∃ A, e = .returned (.tuple #[.slice A (lnsL s.data.toList).length (lnsL s.data.toList).length, .bool (lnsE s.data.toList)]) /\ Sts w' A ((lnsL s.data.toList).map bs) /\ Below w.heap.size w w'
set_option maxHeartbeats 1000000 in
set_option maxRecDepth 100000 in
theorem lines_c (s : ByteArray) (m : Int) (w : World) (hs : s.size <= 500000) (hm : w.cell? ⟨0, 0, none⟩ = some (.int .i64 m)) :
  Calls Tryz.prog 57 #[.string s] w (RetLs s w) := by
 by_cases h : s = ⟨#[]⟩
 ·subst h
  have e1 : ((⟨#[]⟩ : ByteArray).toList.isEmpty) = true := by rw [emp_dec]; exact decide_eq_true rfl
  go_enter Tryz.func57, Tryz.ntmps57
  go_wp2
  go_ret2
  exact ⟨none, rfl, (fun hn => absurd hn (by show ¬ 0 < 0; omega)), Below.refl _ _⟩
 have e1 : s.toList.isEmpty = false := by rw [emp_dec]; exact decide_eq_false h
 have h0 : s.data.toList ≠ [] := fun e => h (ByteArray.ext (Array.toList_eq_nil_iff.1 e))
 obtain ⟨t, ht⟩ : ∃ t : ByteArray, (⟨(Lib.trimSuffix s.data.toList (⟨#[10]⟩ : ByteArray).data.toList).toArray⟩ : ByteArray) = t := ⟨_, rfl⟩
 obtain ⟨E, hE⟩ : ∃ x, Lib.hasSuffix s.data.toList (⟨#[10]⟩ : ByteArray).data.toList = x := ⟨_, rfl⟩
 have hEE : lnsE s.data.toList = E := by
  rw [<- hE]
  unfold lnsE
  rw [decide_eq_false h0, Bool.false_or]
  exact (suf_one _ _).symm
 have htl : t.data.toList = if s.data.toList.getLast? = some 10 then s.data.toList.dropLast else s.data.toList := by
  rw [<- ht]
  show Lib.trimSuffix s.data.toList [10] = _
  unfold Lib.trimSuffix
  rw [suf_one]
  by_cases hl : s.data.toList.getLast? = some 10
  ·rw [if_pos (decide_eq_true hl), if_pos hl, List.dropLast_eq_take]; rfl
  ·rw [if_neg (by rw [decide_eq_false hl]; decide), if_neg hl]
 have hln : lnsL s.data.toList = pcs 10 t.data.toList := by
  unfold lnsL
  rw [if_neg h0, htl]
  split <;> rfl
 have hts : t.size <= 500000 := by
  have h1 : t.data.toList.length = t.size := by simp
  have h2 : s.data.toList.length = s.size := by simp
  rw [<- h1, htl]
  split
  ·rw [List.length_dropLast]; omega
  ·omega
 have HC := Lib.hid (Tryz.strings_CutSuffix s ⟨#[10]⟩ w (by omega))
 rw [ht, hE] at HC
 have HS := Lib.hid (fun w hm => split_c t 10 m w (by omega) hm)
 have hwd : ∀ x, (pcs 10 t.data.toList).length = x -> ∀ e w', RetLs s w e w' ↔ ∃ A, e = .returned (.tuple #[.slice A x x, .bool E]) /\ Sts w' A ((pcs 10 t.data.toList).map bs) /\ Below w.heap.size w w' := fun x hx e w' => by
  unfold RetLs
  rw [hln, hEE, hx]
 obtain ⟨n, hn⟩ : ∃ x, (pcs 10 t.data.toList).length = x := ⟨_, rfl⟩
 have HW := Lib.hid (hwd n hn)
 rw [hn] at HS
 have HM := Lib.hid hm
 clear hwd hn hln htl hEE h0 h hm ht hE
 go_enter Tryz.func57, Tryz.ntmps57
 go_wp2_with fail
 refine HC.out.mono ?_
 rintro e w1 ⟨rfl, rfl⟩
 go_wp2_with fail
 refine (HS.out _ HM.out).mono ?_
 rintro e w2 ⟨rfl, rfl⟩
 go_wp2
 go_ret2
 exact (HW.out _ _).2 ⟨_, rfl, sts_new (by rw [List.map_map]; exact heap_new _ _ rfl), by go_grown⟩
def ystrV (L : List ByteArray) : List Value := L.map Value.string
theorem yown_sts {w : World} {B : Nat} {A : Option Addr} {n c : Nat} {L : List ByteArray} (h : w.ownsRow B 9 1 (.slice A n c) n (ystrV L)) (hn : 0 < n) : ∃ g, A = some ⟨g, 0, none⟩ /\ Sts w (some ⟨g, 0, none⟩) L /\ n <= c /\ L.length = n := by
 have hc := own_cap h
 obtain ⟨h1, h2⟩ := h
 have hl : L.length = n := by unfold ystrV at h1; rw [List.length_map] at h1; omega
 rcases h2 with ⟨h2, h3⟩ | ⟨g, cap, cur, hv, hb, hh, hn2, _, hs, ht⟩
 ·omega
 ·cases hv
  refine ⟨g, rfl, fun _ => ⟨g, 0, cur, (0, 0), rfl, hh, fun j hj => ?_⟩, hc.1, hl⟩
  have h3 : (ystrV L)[j]? = some (.string (wd L j)) := by unfold ystrV wd; simp [List.getD_eq_getElem?_getD, hj]
  rw [<- ht, List.getElem?_take, if_pos (by omega)] at h3
  rw [Nat.zero_add]
  simpa using h3
theorem zk_cells (w : World) (us : List Value) (t : TypeId) : ∀ j x, us[j]? = some x -> (w.alloc (.cells us.toArray t)).cell? ((⟨w.heap.size, 0, none⟩ : Addr).add j) = some x := by
 intro j x hj
 rw [Addr.add_lit, cell_of_row _ _ _ _ _ _ (heap_alloc_new w _)]
 simpa using hj
theorem wpList_zpush {P : Program} {w : World} {ops : Array Oper} {rest : List Oper} {o : Oper} {a : Act} {Q : Exit -> Act -> World -> Prop}
  (hg : o.guard = none) (s x : Operand) (t : TypeId) (hop : o.op = Op.call { callee := Callee.builtin Builtin.append, args := #[s, x], argTypes := #[t, t] })
  (base : Nat) (e : TypeId) (i : TypeInfo) (z : Value) (size bytes : Nat) (h1 : P.underlying t = some (.slice e)) (h2 : P.info? e = some i) (hz : i.zero = some z) (h4 : i.size = size) (hby : i.bytes = bytes) (hzs : z.cells.size = size) (hsz : 0 < size)
  (v : Value) (n : Nat) (xs : List Value) (hs : a.eval s = v) (hown : w.ownsRow base e size v n xs) (us : List Value) (hus : us.length = size) (hx : a.eval x = .slice (some ⟨w.heap.size, 0, none⟩) 1 1)
  (h1c : ∀ u ∈ us, u.oneCell' = true) (b1 : n + 1 <= maxLen) (b2 : (n + 1) * bytes <= 140737488355328) (hbase : base <= w.heap.size)
  (hK : ∀ A c w', w'.ownsRow base e size (.slice A (n + 1) c) (n + 1) (xs ++ us) -> w.grownBy w' v.ownBlock -> wpList P ops Q rest (a.put o.dst (.slice A (n + 1) c)) w') :
  wpList P ops Q (o :: rest) a (w.alloc (.cells us.toArray e)) :=
 wpList_append_own _ hg s x t hop base e i z size bytes h1 h2 hz h4 hby hzs hsz v n xs hs (hown.alloc _) ⟨w.heap.size, 0, none⟩ 1 1 us hx (by omega) (zk_cells w us e) h1c b1 b2 (by simp; omega) fun v' w' r1 r2 _ => by
  obtain ⟨A, c, rfl⟩ := own_slice r1
  exact hK A c w' r1 (grown_alloc r2)
theorem own_rwsZ {w : World} {base : Nat} {e : TypeId} {size n : Nat} {A : Option Addr} {c : Nat} {xs : List Value} {f : Nat -> Nat -> Value} (h : w.ownsRow base e size (.slice A n c) n xs) (hf : ∀ j, j < n -> ∀ i, i < size -> xs[j * size + i]? = some (f j i)) : Rws w A size n f := fun hn => by
 obtain ⟨g, rfl, _, hl, hc⟩ := own_rowF h hn
 refine ⟨g, 0, rfl, hl, fun j hj i hi => ?_⟩
 rw [Nat.zero_add, hc _ (by have := Nat.mul_le_mul_right size (show j + 1 <= n from hj); rw [Nat.add_mul] at this; omega), hf j hj i hi]
theorem run_append_nilZ {P : Program} {w : World} {base : Nat} {t ty e : TypeId} {i : TypeInfo} {size n c c' : Nat} {A : Option Addr} {xs : List Value} (ht : P.underlying t = some (.slice e)) (hi : P.info? e = some i) (hs : i.size = size) (hown : w.ownsRow base e size (.slice A n c) n xs) :
  (Builtin.append_ #[t, t] ty #[.slice A n c, .slice none 0 c']).run P w = .ok (.slice A n c) w := by
 have hc := own_cap hown
 cases A with
 | some a =>
  obtain ⟨-, h | ⟨g, cap, cur, hv, -⟩⟩ := hown
  ·cases h.1
  ·cases hv
   have := run_append_room_src (P := P) w t t ty e i ht hi g 0 n c (.slice none 0 c') 0 [] (Src.ofNil w ht c') (by omega) (fun j hj => by simp at hj) (fun j hj => by simp at hj)
   simpa [World.setCells] using this
 | none =>
  obtain ⟨-, h | ⟨g, cap, cur, hv, -⟩⟩ := hown
  ·obtain ⟨h1, h2⟩ := h
   subst h2
   have hn : 0 + 0 <= c := Nat.zero_le _
   simp [Builtin.append_, run_underlying ht, sizeOf, typeInfo, hi, (Src.ofNil (P := P) w ht c' : Src P i.size t _ 0 [] w).len, (Src.ofNil (P := P) w ht c' : Src P i.size t _ 0 [] w).cells]
  ·cases hv
theorem wpList_zapp {P : Program} {w : World} {ops : Array Oper} {rest : List Oper} {o : Oper} {a : Act} {Q : Exit -> Act -> World -> Prop}
  (hg : o.guard = none) (s x : Operand) (t : TypeId) (hop : o.op = Op.call { callee := Callee.builtin Builtin.append, args := #[s, x], argTypes := #[t, t] })
  (base : Nat) (e : TypeId) (i : TypeInfo) (z : Value) (size bytes : Nat) (h1 : P.underlying t = some (.slice e)) (h2 : P.info? e = some i) (hz : i.zero = some z) (h4 : i.size = size) (hby : i.bytes = bytes) (hzs : z.cells.size = size) (hsz : 0 < size)
  (A : Option Addr) (n c : Nat) (xs : List Value) (hs : a.eval s = .slice A n c) (hown : w.ownsRow base e size (.slice A n c) n xs) (X : Option Addr) (m d : Nat) (news : List Value) (hl : news.length = m * size) (hx : a.eval x = .slice X m d)
  (hsrc : 0 < m -> ∃ b off, X = some ⟨b, off, none⟩ /\ ∀ j u, news[j]? = some u -> w.cell? ⟨b, off + j, none⟩ = some u)
  (h1c : ∀ u ∈ news, u.oneCell' = true) (b1 : n + m <= maxLen) (b2 : (n + m) * bytes <= 140737488355328) (hbase : base <= w.heap.size)
  (hK : ∀ A' c' w', w'.ownsRow base e size (.slice A' (n + m) c') (n + m) (xs ++ news) -> w.grownBy w' (Value.slice A n c).ownBlock -> wpList P ops Q rest (a.put o.dst (.slice A' (n + m) c')) w') :
  wpList P ops Q (o :: rest) a w := by
 cases X with
 | some ad =>
  refine wpList_append_own _ hg s x t hop base e i z size bytes h1 h2 hz h4 hby hzs hsz (.slice A n c) n xs hs hown ad m d news hx hl ?_ h1c b1 b2 hbase fun v' w' r1 r2 _ => ?_
  ·rcases Nat.eq_zero_or_pos m with h0 | h0
   ·subst h0
    have : news = [] := List.eq_nil_of_length_eq_zero (by omega)
    subst this
    intro j u h; simp at h
   ·obtain ⟨b, off, e1, hc⟩ := hsrc h0
    cases e1
    intro j u hj
    rw [Addr.add_lit]
    exact hc j u hj
  ·obtain ⟨A', c', rfl⟩ := own_slice r1
   exact hK A' c' w' r1 r2
 | none =>
  have h0 : m = 0 := by
   rcases Nat.eq_zero_or_pos m with h0 | h0
   ·exact h0
   ·obtain ⟨b, off, e1, -⟩ := hsrc h0
    cases e1
  subst h0
  have hn : news = [] := List.eq_nil_of_length_eq_zero (by omega)
  subst hn
  refine wpList_plain hg fun K hKK => ?_
  have hr := run_append_nilZ (P := P) (w := w) (t := t) (ty := o.type) (c' := d) h1 h2 h4 hown
  unfold Oper.wp execOp
  simp only [hop, resolve, invoke, builtin, Sem.run_bind, Sem.run_pure, Result.andThen_ok, List.map_toArray, List.map_cons, List.map_nil, hs, hx, hr]
  refine hKK _ _ (hK A c w (by simpa using hown) (World.grownBy.refl _ _))
end Go.Proofs.YtbnjejenejoibaaGreatDoor
