
/- An element of k cells is appended; the walks of package desk: waits, answers, sending. -/
import Derived.Test.YtlkidhfjkgppoaaDoorO1
import Derived.Test.YtlkidhfjkgppoaaDoorJ1
namespace Go.Proofs.YtlkidhfjkgppoaaDoor
open Go.RowKit Limb Work
set_option linter.unusedVariables false
set_option linter.unusedSimpArgs false

theorem k_cells (w : World) (us : List Value) (t : TypeId) : ∀ j x, us[j]? = some x → (w.alloc (.cells us.toArray t)).cell? ((⟨w.heap.size, 0, none⟩ : Addr).add j) = some x := by
  intro j x hj
  rw [Addr.add_lit, cell_of_row _ _ _ _ _ _ (heap_alloc_new w _)]
  simpa using hj
theorem wpList_pushk {P : Program} {w : World} {ops : Array Oper} {rest : List Oper} {o : Oper} {a : Act} {Q : Exit → Act → World → Prop}
    (hg : o.guard = none) (s x : Operand) (t : TypeId) (hop : o.op = Op.call { callee := Callee.builtin Builtin.append, args := #[s, x], argTypes := #[t, t] })
    (base : Nat) (e : TypeId) (i : TypeInfo) (z : Value) (size bytes : Nat) (h1 : P.underlying t = some (.slice e)) (h2 : P.info? e = some i) (hz : i.zero = some z) (h4 : i.size = size) (hby : i.bytes = bytes) (hzs : z.cells.size = size) (hsz : 0 < size)
    (v : Value) (n : Nat) (xs : List Value) (hs : a.eval s = v) (hown : w.ownsRow base e size v n xs) (us : List Value) (hus : us.length = size) (hx : a.eval x = .slice (some ⟨w.heap.size, 0, none⟩) 1 1)
    (h1c : ∀ u ∈ us, u.oneCell' = true) (b1 : n + 1 ≤ maxLen) (b2 : (n + 1) * bytes ≤ 140737488355328) (hbase : base ≤ w.heap.size)
    (hK : ∀ A c w', w'.ownsRow base e size (.slice A (n + 1) c) (n + 1) (xs ++ us) → w.grownBy w' v.ownBlock → wpList P ops Q rest (a.put o.dst (.slice A (n + 1) c)) w') :
    wpList P ops Q (o :: rest) a (w.alloc (.cells us.toArray e)) :=
  wpList_append_own _ hg s x t hop base e i z size bytes h1 h2 hz h4 hby hzs hsz v n xs hs (hown.alloc _) ⟨w.heap.size, 0, none⟩ 1 1 us hx (by omega) (k_cells w us e) h1c b1 b2 (by simp; omega) fun v' w' r1 r2 _ => by
    obtain ⟨A, c, rfl⟩ := own_slice r1
    exact hK A c w' r1 (grown_alloc r2)
theorem grown_keep {w w' : World} {row : Option Nat} {g : Nat} {o : Obj} (hg : w.grownBy w' row) (h : w.heap[g]? = some o) (hr : ∀ k, row = some k → g < k) : w'.heap[g]? = some o :=
  (hg.block g (lt_heap h) (fun e => by have := hr g e.symm; omega)).trans h
theorem own_row {w : World} {base : Nat} {e : TypeId} {size n : Nat} {A : Option Addr} {c : Nat} {xs : List Value} (h : w.ownsRow base e size (.slice A n c) n xs) (hn : 0 < n) : ∃ g, A = some ⟨g, 0, none⟩ ∧ base ≤ g ∧ g < w.heap.size ∧ ∀ j, j < n * size → w.cell? ⟨g, j, none⟩ = xs[j]? := by
  obtain ⟨h1, h2⟩ := h
  rcases h2 with ⟨h2, h3⟩ | ⟨g, cap, cur, hv, hb, hh, hn2, _, hs, ht⟩
  · omega
  · cases hv
    refine ⟨g, rfl, hb, lt_heap hh, fun j hj => ?_⟩
    rw [cell_of_row _ _ _ _ _ _ hh, ← ht, List.getElem?_take, if_pos hj]
    simp
theorem own_rws {w : World} {base : Nat} {e : TypeId} {size n : Nat} {A : Option Addr} {c : Nat} {xs : List Value} {f : Nat → Nat → Value} (h : w.ownsRow base e size (.slice A n c) n xs) (hf : ∀ j, j < n → ∀ i, i < size → xs[j * size + i]? = some (f j i)) : Rws w A size n f := fun hn => by
  obtain ⟨g, rfl, _, hl, hc⟩ := own_row h hn
  refine ⟨g, 0, rfl, hl, fun j hj i hi => ?_⟩
  rw [Nat.zero_add, hc _ (by have := Nat.mul_le_mul_right size (show j + 1 ≤ n from hj); rw [Nat.add_mul] at this; omega), hf j hj i hi]

def intV (l : List Int) : List Value := l.map (Value.int .i64)
theorem intV_snoc (l : List Int) (x : Int) : intV l ++ [.int .i64 x] = intV (l ++ [x]) := by unfold intV; rw [List.map_append]; rfl
theorem own_ints {w : World} {base : Nat} {e : TypeId} {n : Nat} {A : Option Addr} {c : Nat} {l : List Int} (h : w.ownsRow base e 1 (.slice A n c) n (intV l)) (hl : l.length = n) (hr : ∀ d ∈ l, -9223372036854775808 ≤ d ∧ d ≤ 9223372036854775807) : Ints w A n l := by
  refine ⟨hl, hr, fun hn => ?_⟩
  obtain ⟨g, rfl, _, hlt, hc⟩ := own_row h hn
  refine ⟨g, 0, rfl, hlt, fun j hj => ?_⟩
  have hj' : j < l.length := by omega
  rw [Nat.zero_add, hc j (by omega), ← hol_get hj']
  simp [intV, hj']

def RetWt (l : List Int) (w : World) (e : Ending) (w' : World) : Prop := ∃ A c, e = .returned (.slice A l.length c) ∧ Ints w' A l.length l ∧ Below w.heap.size w w'
def polC (p : Pol) : Obj := .cells #[.int .i64 p.first, .int .i64 p.factor, .int .i64 p.most, .int .i64 p.tries, .bool p.io] 23
theorem obox5 {w : World} {g : Nat} {x y z u v : Value} {T : TypeId} (h : w.heap[g]? = some (.cells #[x, y, z, u, v] T (0, 0))) :
    w.cell? ⟨g, 0, none⟩ = some x ∧ w.cell? ⟨g, 1, none⟩ = some y ∧ w.cell? ⟨g, 2, none⟩ = some z ∧ w.cell? ⟨g, 3, none⟩ = some u ∧ w.cell? ⟨g, 4, none⟩ = some v ∧ g < w.heap.size :=
  ⟨cell_of_row w g 0 _ _ _ h, cell_of_row w g 1 _ _ _ h, cell_of_row w g 2 _ _ _ h, cell_of_row w g 3 _ _ _ h, cell_of_row w g 4 _ _ _ h, lt_heap h⟩
def waitsL (p : Pol) : List Int := waitsF p.factor p.most (p.tries - 1).toNat p.first

set_option maxHeartbeats 2000000 in
set_option maxRecDepth 100000 in
theorem waits_c (p : Pol) (w : World) (hp : PolOk p) : Calls Tryd.prog 26 #[polV p] w (RetWt (waitsL p) w) := by
  obtain ⟨i0, hi⟩ : ∃ i, Tryd.prog.info? 3 = some i := ⟨_, rfl⟩
  have hz0 : i0.zero = some (.int .i64 0) := by obtain rfl := Option.some.inj (hi.symm.trans rfl); rfl
  have hz1 : i0.size = 1 := by obtain rfl := Option.some.inj (hi.symm.trans rfl); rfl
  have hz2 : i0.bytes = 8 := by obtain rfl := Option.some.inj (hi.symm.trans rfl); rfl
  obtain ⟨F, K, M, T, io⟩ := p
  obtain ⟨⟨a1, a2⟩, ⟨b1, b2⟩, ⟨c1, c2⟩, d1, d2⟩ := hp
  simp only at a1 a2 b1 b2 c1 c2 d1 d2
  obtain ⟨N, hNT⟩ : ∃ N : Nat, T - 1 = (N : Int) := ⟨(T - 1).toNat, by omega⟩
  have hW : waitsL ⟨F, K, M, T, io⟩ = waitsF K M N F := by
    unfold waitsL
    simp only
    rw [hNT, Int.toNat_natCast]
  rw [hW]
  obtain ⟨L, hL⟩ : ∃ L, waitsF K M N F = L := ⟨_, rfl⟩
  have hLl : L.length = N := by rw [← hL, waitsF_len]
  have HR := Lib.hid (show ∀ d ∈ L, 1 ≤ d ∧ d ≤ 1000000 from fun d hd => by
    have := waitsF_rng (K := K) (M := M) b1 (by omega) N F a1 c1 d (by rw [hL]; exact hd)
    omega)
  have HL := Lib.hid hL
  have HLL := Lib.hid hLl
  have hN20 : N ≤ 19 := by omega
  rw [hL]
  unfold RetWt
  rw [hLl]
  clear hW hL hLl d1 d2
  unfold polV
  go_enter Tryd.func26, Tryd.ntmps26
  go_wp2
  have hX := heap_new w (.cells #[.int .i64 F, .int .i64 K, .int .i64 M, .int .i64 T, .bool io] 23) rfl
  have hb0 : Below w.heap.size w (w.alloc (.cells #[.int .i64 F, .int .i64 K, .int .i64 M, .int .i64 T, .bool io] 23)) := by go_grown
  have hz0' : w.heap.size + 1 ≤ (w.alloc (.cells #[.int .i64 F, .int .i64 K, .int .i64 M, .int .i64 T, .bool io] 23)).heap.size := by simp
  generalize w.alloc (.cells #[.int .i64 F, .int .i64 K, .int .i64 M, .int .i64 T, .bool io] 23) = w0 at hX hb0 hz0' ⊢
  have HK := Lib.hid (And.intro a1 (And.intro b1 c1))
  clear hNT
  go_loopw [3, 4, 10] (fun o v i wr => ∃ (k c : Nat) (A : Option Addr) (x : Int) (acc : List Int), k ≤ N ∧ i = .int .i64 k ∧ v = .int .i64 x ∧ 1 ≤ x ∧ x ≤ M ∧ o = .slice A k c ∧ Hid (acc.length = k) ∧
      wr.ownsRow (w.heap.size + 1) 3 1 (.slice A k c) k (intV acc) ∧ Below w.heap.size w wr ∧ wr.heap[w.heap.size]? = some (.cells #[.int .i64 F, .int .i64 K, .int .i64 M, .int .i64 T, .bool io] 23 (0, 0)) ∧ w.heap.size + 1 ≤ wr.heap.size ∧ Hid (L = acc ++ waitsF K M (N - k) x)) (fun _ _ i _ => N - (intOf i).toNat)
  case atStart => exact ⟨0, 0, none, F, [], Nat.zero_le _, rfl, rfl, a1, c1, rfl, Lib.hid rfl, World.ownsRow_nil _ _ _ _, hb0, hX, hz0', Lib.hid (by rw [← HL.out]; rfl)⟩
  case round =>
    obtain ⟨k, c, A, x, acc, hk, rfl, rfl, x1, x2, rfl, HA, hown, hb, hXr, hzr, HE⟩ := hrel
    obtain ⟨g0, g1, g2, g3, g4, g5⟩ := obox5 hXr
    rcases Nat.lt_or_ge k N with hlt | hge
    · have HOW := Lib.hid hown
      have HXR := Lib.hid hXr
      have HE2 := Lib.hid (show L = (acc ++ [x]) ++ waitsF K M (N - (k + 1)) (min (x * K) M) by
        rw [HE.out, show N - k = (N - (k + 1)) + 1 by omega, waitsF, List.append_assoc]; rfl)
      have HA2 := Lib.hid (show (acc ++ [x]).length = k + 1 by rw [List.length_append, HA.out]; rfl)
      have hxk : 1 ≤ x * K := by
        have := Int.mul_le_mul x1 b1 (by decide) (by omega)
        omega
      have hxk2 : x * K ≤ 10000000 := by
        have := Int.mul_le_mul (show x ≤ 1000000 by omega) b2 (by omega) (by decide)
        omega
      clear hown hXr
      go_wp2_with (at_builtin; (with_reducible refine wpList_push_own rfl _ _ 44 rfl (w.heap.size + 1) 3 i0 (.int .i64 0) 8 Tryd.underlying44 hi hz0 hz1 hz2 rfl (.slice A k c) k (intV acc) rfl HOW.out (.int .i64 x) rfl rfl (by unfold maxLen; omega) (by omega) hzr ?_); intro A3 c3 w3 hown3 hg3; have hX3 := grown_keep hg3 HXR.out (fun j hj => by have := (HOW.out.lt j hj).1; omega); obtain ⟨y0, y1, y2, y3, y4, y5⟩ := obox5 hX3)
      rw [intV_snoc] at hown3
      have hb3 := hb.grown hg3 (by omega) (fun j hj => by have := (HOW.out.lt j hj).1; omega)
      have hz3 := hg3.size
      go_roundw
      case rel => exact ⟨k + 1, c3, A3, _, _, by omega, by go_num, rfl, by omega, by omega, rfl, HA2, hown3, hb3, hX3, by omega, HE2⟩
      case measure => simp [intOf]; omega
    · obtain rfl : k = N := by omega
      have hE := HE.out
      rw [Nat.sub_self, waitsF, List.append_nil] at hE
      have HE2 := Lib.hid hE
      clear hE
      go_wp2
      go_ret
      refine ⟨A, c, rfl, ?_, hb⟩
      rw [HE2.out]
      exact own_ints hown HA.out (fun d hd => by have := HR.out d (by rw [HE2.out]; exact hd); omega)
end Go.Proofs.YtlkidhfjkgppoaaDoor
