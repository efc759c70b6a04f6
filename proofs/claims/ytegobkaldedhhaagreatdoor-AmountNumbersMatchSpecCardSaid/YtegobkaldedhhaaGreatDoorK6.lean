
/- The walks of the reference's numbers: values. -/
import Derived.Test.YtegobkaldedhhaaGreatDoorK5
import Derived.Deep.AppendLies
namespace Go.Proofs.YtegobkaldedhhaaGreatDoor
open Go.RowKit Limb Nmb
set_option linter.unusedVariables false
set_option linter.unusedSimpArgs false

def byV (l : List UInt8) : List Value := l.map (fun c => .int .u8 (c.toNat : Int))
theorem byV_app (a b : List UInt8) : byV (a ++ b) = byV a ++ byV b := by unfold byV; rw [List.map_append]
theorem byV_len (l : List UInt8) : (byV l).length = l.length := by simp [byV]
theorem byV_at {l : List UInt8} {j : Nat} (h : j < l.length) : (byV l)[j]? = some (.int .u8 (l[j].toNat : Int)) := by simp [byV, h]
theorem two_cell (w : World) (u v : Value) (t : TypeId) : ∀ j x, [u, v][j]? = some x → (w.alloc (.cells #[u, v] t)).cell? ((⟨w.heap.size, 0, none⟩ : Addr).add j) = some x := by
  intro j x hj
  match j, hj with
  | 0, hj => simp at hj; subst hj; simp [Addr.add]
  | 1, hj => simp at hj; subst hj; simp [Addr.add]
theorem vals_take {l : List UInt8} {k : Nat} (h : k < l.length) : vals (l.take (k + 1)) = vals (l.take k) ++ valC l[k] := by
  unfold vals
  rw [List.take_succ_eq_append_getElem h, List.flatMap_append]
  simp
theorem vals_len (l : List UInt8) : (vals l).length ≤ 2 * l.length := by
  unfold vals
  induction l with
  | nil => simp
  | cons c l ih =>
    rw [List.flatMap_cons, List.length_append, List.length_cons]
    have : (valC c).length ≤ 2 := by unfold valC; split <;> simp
    omega
theorem vals_pos {l : List UInt8} (h : 0 < l.length) : 0 < (vals l).length := by
  match l, h with
  | c :: l, _ =>
    unfold vals
    rw [List.flatMap_cons, List.length_append]
    have : 0 < (valC c).length := by unfold valC; split <;> simp
    omega
/-- A letter's two digits. -/
theorem valC_up {c : UInt8} (h : 65 ≤ (c.toNat : Int) ∧ (c.toNat : Int) ≤ 90) : valC c = [UInt8.ofNat (48 + (c.toNat - 55) / 10), UInt8.ofNat (48 + (c.toNat - 55) % 10)] := if_pos h
theorem valC_no {c : UInt8} (h : ¬ (65 ≤ (c.toNat : Int) ∧ (c.toNat : Int) ≤ 90)) : valC c = [c] := if_neg h
theorem byV_up {c : UInt8} (h : 65 ≤ (c.toNat : Int) ∧ (c.toNat : Int) ≤ 90) : byV (valC c) = [.int .u8 (48 + ((c.toNat : Int) - 65 + 10) / 10), .int .u8 (48 + ((c.toNat : Int) - 65 + 10) % 10)] := by
  rw [valC_up h]
  unfold byV
  simp only [List.map_cons, List.map_nil]
  rw [ofNat_toNat (by omega), ofNat_toNat (by omega)]
  congr 2
  · congr 1; omega
  · congr 2; omega
theorem vals_dig {l : List UInt8} (h : tagL l = true) : ∀ c ∈ vals l, 48 ≤ (c.toNat : Int) ∧ (c.toNat : Int) ≤ 57 := by
  intro c hc
  unfold vals at hc
  rw [List.mem_flatMap] at hc
  obtain ⟨a, ha, hc⟩ := hc
  unfold tagL at h
  have ht := of_decide_eq_true (List.all_eq_true.1 h a ha)
  unfold valC at hc
  split at hc
  · simp only [List.mem_cons, List.not_mem_nil, or_false] at hc
    rcases hc with rfl | rfl
    · rw [ofNat_toNat (by omega)]; omega
    · rw [ofNat_toNat (by omega)]; omega
  · simp only [List.mem_cons, List.not_mem_nil, or_false] at hc
    subst hc; omega
theorem vals_dgt {l : List UInt8} (h : tagL l = true) : ∀ i, i < (vals l).length → 0 ≤ dgt (vals l) i ∧ dgt (vals l) i ≤ 9 := by
  intro i hi
  have := vals_dig h _ (List.getElem_mem hi)
  unfold dgt
  rw [byA_get hi]
  omega

/-- One or two elements are appended to the own row. -/
theorem wpList_push_list {P : Program} {w : World} {ops : Array Oper} {rest : List Oper} {o : Oper} {a : Act} {Q : Exit → Act → World → Prop}
    (hg : o.guard = none) (s x : Operand) (t : TypeId) (hop : o.op = Op.call { callee := Callee.builtin Builtin.append, args := #[s, x], argTypes := #[t, t] })
    (base : Nat) (e : TypeId) (i : TypeInfo) (z : Value) (bytes : Nat) (h1 : P.underlying t = some (.slice e)) (h2 : P.info? e = some i) (hz : i.zero = some z) (h4 : i.size = 1) (hby : i.bytes = bytes) (hzs : z.cells.size = 1)
    (v : Value) (n : Nat) (xs : List Value) (hs : a.eval s = v) (hown : w.ownsRow base e 1 v n xs) (m : Nat) (us : List Value) (hx : a.eval x = .slice (some ⟨w.heap.size, 0, none⟩) m m) (hm : us.length = m)
    (hcell : ∀ j y, us[j]? = some y → (w.alloc (.cells us.toArray e)).cell? ((⟨w.heap.size, 0, none⟩ : Addr).add j) = some y)
    (h1c : ∀ u ∈ us, u.oneCell' = true) (b1 : n + m ≤ maxLen) (b2 : (n + m) * bytes ≤ 140737488355328) (hbase : base ≤ w.heap.size)
    (hK : ∀ A c w', w'.ownsRow base e 1 (.slice A (n + m) c) (n + m) (xs ++ us) → w.grownBy w' v.ownBlock → wpList P ops Q rest (a.put o.dst (.slice A (n + m) c)) w') :
    wpList P ops Q (o :: rest) a (w.alloc (.cells us.toArray e)) :=
  wpList_append_own _ hg s x t hop base e i z 1 bytes h1 h2 hz h4 hby hzs (by omega) v n xs hs (hown.alloc _) ⟨w.heap.size, 0, none⟩ m m us hx (by omega) hcell h1c b1 b2 (by simp; omega) fun v' w' r1 r2 _ => by
    obtain ⟨A, c, rfl⟩ := own_slice r1
    exact hK A c w' r1 (grown_alloc r2)

set_option maxHeartbeats 400000 in
set_option maxRecDepth 100000 in
theorem rvalues_c (s : ByteArray) (w : World) (hs0 : 0 < s.size) (hs : s.size ≤ 40) (ht : tagL s.data.toList = true) :
    Calls Tryz.prog 114 #[.string s] w fun e w' => e = .returned (.string ⟨(vals s.data.toList).toArray⟩) ∧ Below w.heap.size w w' := by
  have hl := szL s
  obtain ⟨i0, hi⟩ : ∃ i, Tryz.prog.info? 5 = some i := ⟨_, rfl⟩
  have hz0 : i0.zero = some (.int .u8 0) := by obtain rfl := Option.some.inj (hi.symm.trans rfl); rfl
  have hz1 : i0.size = 1 := by obtain rfl := Option.some.inj (hi.symm.trans rfl); rfl
  have hz2 : i0.bytes = 1 := by obtain rfl := Option.some.inj (hi.symm.trans rfl); rfl
  have HT := Lib.hid (show ∀ k, (h : k < s.size) → (65 ≤ (s[k].toNat : Int) ∧ (s[k].toNat : Int) ≤ 90) ∨ (48 ≤ (s[k].toNat : Int) ∧ (s[k].toNat : Int) ≤ 57) from fun k h => by rw [byS s k h]; exact tagL_at ht (by omega))
  have HV := Lib.hid (show ∀ k, (h : k < s.size) → vals (s.data.toList.take (k + 1)) = vals (s.data.toList.take k) ++ valC s[k] from fun k h => vals_take (l := s.data.toList) (k := k) (by omega))
  have HN := Lib.hid (fun k => vals_len (s.data.toList.take k))
  have HP := Lib.hid (vals_pos (l := s.data.toList) (by omega))
  have HE := Lib.hid (show s.data.toList.take s.size = s.data.toList by rw [← hl, List.take_length])
  have HL := Lib.hid (show ∀ k, (vals (s.data.toList.take k)).length ≤ 2 * k from fun k => by have := vals_len (s.data.toList.take k); have : (s.data.toList.take k).length ≤ k := by simp [List.length_take]; omega
                                                                                              omega)
  clear hl ht
  go_enter Tryz.func114, Tryz.ntmps114
  go_wp2
  go_loopw [3, 9] (fun b i wr => ∃ (k m c : Nat) (A : Option Addr), k ≤ s.size ∧ i = .int .i64 k ∧ b = .slice A m c ∧ (vals (s.data.toList.take k)).length = m ∧ wr.ownsRow w.heap.size 5 1 (.slice A m c) m (byV (vals (s.data.toList.take k))) ∧ Below w.heap.size w wr) (fun _ i _ => s.size - (intOf i).toNat)
  case atStart => exact ⟨0, 0, 0, none, Nat.zero_le _, rfl, rfl, rfl, World.ownsRow_nil _ _ _ _, Below.refl _ _⟩
  case round =>
    obtain ⟨k, m, c, A, hk, rfl, rfl, hm, hown, hbel⟩ := hrel
    have hz := hbel.size
    have hmk := HL.out k
    rw [hm] at hmk
    rcases Nat.lt_or_ge k s.size with hlt | hge
    · have hV := HV.out k hlt
      have hT := HT.out k hlt
      obtain ⟨x, hx⟩ : ∃ x, s[k] = x := ⟨_, rfl⟩
      rw [hx] at hV hT
      have hm40 : m ≤ 80 := by omega
      have HM := Lib.hid hm
      have HO := Lib.hid hown
      clear hm hown hmk
      rcases hT with ⟨t1, t2⟩ | ⟨t1, t2⟩
      · have hV2 := Lib.hid (show byV (vals (s.data.toList.take (k + 1))) = byV (vals (s.data.toList.take k)) ++ [.int .u8 (48 + ((x.toNat : Int) - 65 + 10) / 10), .int .u8 (48 + ((x.toNat : Int) - 65 + 10) % 10)] by rw [hV, byV_app, byV_up ⟨t1, t2⟩])
        have hV3 := Lib.hid (show (vals (s.data.toList.take (k + 1))).length = m + 2 by rw [hV, List.length_append, HM.out, valC_up ⟨t1, t2⟩]; rfl)
        clear hV
        go_upto_region 8 with fail
        have hy1 : 10 ≤ (x.toNat : Int) - 65 + 10 ∧ (x.toNat : Int) - 65 + 10 ≤ 35 := by omega
        generalize (x.toNat : Int) - 65 + 10 = y at hy1 hV2 ⊢
        generalize (x.toNat : Int) - 65 = z
        obtain ⟨y1, y2⟩ := hy1
        clear t1 t2
        go_wp2_with (at_builtin; (with_reducible refine wpList_push_list rfl _ _ 133 rfl w.heap.size 5 i0 (.int .u8 0) 1 Tryz.underlying133 hi hz0 hz1 hz2 rfl (.slice A m c) m (byV (vals (s.data.toList.take k))) rfl HO.out 2 [.int .u8 (48 + y / 10), .int .u8 (48 + y % 10)] rfl rfl (two_cell wr _ _ _) (by simp [Value.oneCell']) (by unfold maxLen; omega) (by omega) hz ?_); intro A2 c2 w2 hown2 hg2)
        rw [← hV2.out] at hown2
        have hbel2 := hbel.grown hg2 hz (fun k hk => (HO.out.lt k hk).1)
        have HO2 := Lib.hid hown2
        clear hown2 hg2
        go_wp2
        go_roundw
        case rel => exact ⟨k + 1, m + 2, c2, A2, by omega, by go_num, rfl, hV3.out, HO2.out, hbel2⟩
        case measure => simp [intOf]; omega
      · have hV2 := Lib.hid (show byV (vals (s.data.toList.take (k + 1))) = byV (vals (s.data.toList.take k)) ++ [.int .u8 (x.toNat : Int)] by rw [hV, byV_app, valC_no (by omega)]; rfl)
        have hV3 := Lib.hid (show (vals (s.data.toList.take (k + 1))).length = m + 1 by rw [hV, List.length_append, HM.out, valC_no (by omega)]; rfl)
        clear hV
        go_wp2_with (at_builtin; refine wpList_push_list rfl _ _ 133 rfl w.heap.size 5 i0 (.int .u8 0) 1 Tryz.underlying133 hi hz0 hz1 hz2 rfl (.slice A m c) m (byV (vals (s.data.toList.take k))) rfl HO.out 1 [.int .u8 (x.toNat : Int)] rfl rfl (one_cell wr _ _) (by simp [Value.oneCell']) (by unfold maxLen; omega) (by omega) hz ?_; intro A2 c2 w2 hown2 hg2)
        rw [← hV2.out] at hown2
        have hbel2 := hbel.grown hg2 hz (fun k hk => (HO.out.lt k hk).1)
        have HO2 := Lib.hid hown2
        clear hown2 hg2
        go_wp2
        go_roundw
        case rel => exact ⟨k + 1, m + 1, c2, A2, by omega, by go_num, rfl, hV3.out, HO2.out, hbel2⟩
        case measure => simp [intOf]; omega
    · obtain rfl : k = s.size := by omega
      rw [HE.out] at hm hown
      obtain ⟨l, hl⟩ : ∃ l, vals s.data.toList = l := ⟨_, rfl⟩
      have HW := Lib.hid hl
      have hp := HP.out
      rw [hl] at hm hown hp
      subst hm
      obtain ⟨g, rfl⟩ : ∃ g, A = some ⟨g, 0, none⟩ := by
        rcases hown.2 with h1 | ⟨g, cap, cur, hv, -⟩
        · obtain ⟨h2, h3⟩ := h1
          injection h2 with e1 e2 e3
          omega
        · injection hv with e1 e2 e3
          exact ⟨g, e1⟩
      have hcs := hown.cells (g := g) rfl
      have hcv := run_convert_bytes_back (P := Tryz.prog) wr 133 9 5 ⟨g, 0, none⟩ c l Tryz.underlying133 Tryz.underlying5 Tryz.underlying9 (fun j hj => hcs j _ (byV_at hj))
      have HB := Lib.hid hbel
      clear hown hcs hbel hl
      go_wp2
      go_ret
      exact ⟨congrArg (fun l : List UInt8 => Ending.returned (.string ⟨l.toArray⟩)) HW.out.symm, HB.out⟩
end Go.Proofs.YtegobkaldedhhaaGreatDoor
