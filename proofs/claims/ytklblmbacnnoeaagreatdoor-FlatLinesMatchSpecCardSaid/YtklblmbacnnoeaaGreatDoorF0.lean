/- Words for memory: a slice that reads as digits, and the two kinds of large numbers. No program in sight. What the amounts' functions compute, in plain numbers. No program in sight. Plain facts on units: names in order, the chain from a unit to its base, products that are cancelled. No program in sight. Formats of flat files, plain: columns, kinds, what is wrong with them. -/
import Derived.WalkKit
import Derived.Lib.Hide
import Derived.Test.YtklblmbacnnoeaaGreatDoorLimbs2
import Derived.Lib.Bytealg
-- merged: Mem Spec U1 F0

namespace Go.Proofs.YtklblmbacnnoeaaGreatDoor
open Go.RowKit Limb

/-- The digit at a place; 0: there is none. -/
def dg (l : List Nat) (k : Nat) : Nat := l.getD k 0
theorem dg_lt {b : Nat} {l : List Nat} (h : Digs b l) (hb : 0 < b) (k : Nat) : dg l k < b := h.getD hb k
theorem dg_out {l : List Nat} {k : Nat} (h : l.length ≤ k) : dg l k = 0 := by
  unfold dg; rw [List.getD_eq_getElem?_getD, List.getElem?_eq_none h]; rfl
theorem dg_get {l : List Nat} {k : Nat} (h : k < l.length) : l[k]? = some (dg l k) := by
  unfold dg; rw [List.getD_eq_getElem?_getD, List.getElem?_eq_getElem h]; rfl

/-- The digits as values. -/
def digV (K : IntKind) (l : List Nat) : List Value := l.map fun d => .int K ((d : Nat) : Int)
theorem digV_length (K : IntKind) (l : List Nat) : (digV K l).length = l.length := by simp [digV]
theorem digV_snoc (K : IntKind) (l : List Nat) (d : Nat) : digV K (l ++ [d]) = digV K l ++ [.int K ((d : Nat) : Int)] := by simp [digV]
theorem digV_get (K : IntKind) {l : List Nat} {k : Nat} (h : k < l.length) : (digV K l)[k]? = some (.int K ((dg l k : Nat) : Int)) := by
  simp [digV, dg_get h]
theorem digV_set (K : IntKind) (l : List Nat) (k d : Nat) : digV K (l.set k d) = (digV K l).set k (.int K ((d : Nat) : Int)) := by simp [digV, List.map_set]
theorem digV_one (K : IntKind) (l : List Nat) : ∀ u ∈ digV K l, u.oneCell' = true := by
  intro u hu
  simp only [digV, List.mem_map] at hu
  obtain ⟨d, _, rfl⟩ := hu
  rfl

/-- The slice (A, n) reads as the digits l: nil, or from the head of a block of E's on. -/
def Dig (w : World) (K : IntKind) (E : TypeId) (A : Option Addr) (n : Nat) (l : List Nat) : Prop :=
  l.length = n ∧ (0 < n → ∃ (g : Nat) (cs : Array Value), A = some ⟨g, 0, none⟩ ∧ w.heap[g]? = some (.cells cs E (0, 0)) ∧ ∀ j, j < n → cs[j]? = some (.int K ((dg l j : Nat) : Int)))

theorem lt_heap {w : World} {g : Nat} {o : Obj} (h : w.heap[g]? = some o) : g < w.heap.size := by
  rcases Nat.lt_or_ge g w.heap.size with hlt | hge
  · exact hlt
  · rw [Array.getElem?_eq_none hge] at h; cases h
theorem heap_ne {w : World} {g g' : Nat} {cs cs' : Array Value} {T T' : TypeId} {f f' : Nat × Nat} (h : w.heap[g]? = some (.cells cs T f)) (h' : w.heap[g']? = some (.cells cs' T' f')) (hne : T ≠ T') : g ≠ g' := by
  rintro rfl
  rw [h] at h'
  injection h' with h'
  injection h' with _ ht
  exact hne ht
theorem heap_set {w : World} {g : Nat} {cs : Array Value} {T : TypeId} (h : w.heap[g]? = some (.cells cs T (0, 0))) (i : Nat) (u : Value) : (w.setCell ⟨g, i, none⟩ u).heap[g]? = some (.cells (cs.setIfInBounds i u) T (0, 0)) := by
  simp [World.setCell, Array.getElem?_modify, h]
theorem heap_far {w : World} {g : Nat} {o : Obj} (h : w.heap[g]? = some o) {p : Addr} (hp : g ≠ p.block) (u : Value) : (w.setCell p u).heap[g]? = some o := (Below.heap_setCell w p u g hp).trans h
theorem heap_old {w : World} {g : Nat} {o : Obj} (h : w.heap[g]? = some o) (o' : Obj) : (w.alloc o').heap[g]? = some o := (Below.heap_alloc w o' g (lt_heap h)).trans h
theorem heap_new (w : World) (o : Obj) {g : Nat} (hg : g = w.heap.size) : (w.alloc o).heap[g]? = some o := by subst hg; exact heap_alloc_new w o
theorem heap_below {w w' : World} {g : Nat} {o : Obj} (h : w.heap[g]? = some o) (hb : Below w.heap.size w w') : w'.heap[g]? = some o := (hb.block g (lt_heap h)).trans h
/-- What the walk wants of a block of two cells of the call's own. -/
theorem box2 {w : World} {g : Nat} {x y : Value} {T : TypeId} (h : w.heap[g]? = some (.cells #[x, y] T (0, 0))) :
    w.cell? ⟨g, 0, none⟩ = some x ∧ w.cell? ⟨g, 1, none⟩ = some y ∧ w.frozen? ⟨g, 0, none⟩ = false ∧ w.frozen? ⟨g, 1, none⟩ = false ∧ g < w.heap.size :=
  ⟨cell_of_row w g 0 _ _ _ h, cell_of_row w g 1 _ _ _ h, by simp [World.frozen?, h], by simp [World.frozen?, h], lt_heap h⟩

/-- A cell of another block than the one whose two cells are written. -/
theorem cell_past2 {w : World} {g h i : Nat} {x u v : Value} (hc : w.cell? ⟨g, i, none⟩ = some x) (hne : g ≠ h) : ((w.setCell ⟨h, 0, none⟩ u).setCell ⟨h, 1, none⟩ v).cell? ⟨g, i, none⟩ = some x := by
  rw [World.cell?_setCell_other _ _ _ _ (by intro e; injection e; omega), World.cell?_setCell_other _ _ _ _ (by intro e; injection e; omega)]
  exact hc

/-- Three new blocks of two cells: two parameters and a result. -/
theorem boxes3 (w : World) (x0 x1 y0 y1 z0 z1 : Value) (T U V : TypeId) : ∀ w3, ((w.alloc (.cells #[x0, x1] T)).alloc (.cells #[y0, y1] U)).alloc (.cells #[z0, z1] V) = w3 →
    w3.heap[w.heap.size]? = some (.cells #[x0, x1] T (0, 0)) ∧ w3.heap[w.heap.size + 1]? = some (.cells #[y0, y1] U (0, 0)) ∧ w3.heap[w.heap.size + 1 + 1]? = some (.cells #[z0, z1] V (0, 0)) ∧ Below w.heap.size w w3 := by
  intro w3 hw
  subst hw
  exact ⟨heap_old (heap_old (heap_new _ _ rfl) _) _, heap_old (heap_new _ _ (by simp)) _, heap_new _ _ (by simp), (((Below.refl _ _).alloc (Nat.le_refl _) _).alloc (by simp) _).alloc (by simp; omega) _⟩
theorem boxes2 (w : World) (x0 x1 z0 z1 : Value) (T V : TypeId) : ∀ w3, (w.alloc (.cells #[x0, x1] T)).alloc (.cells #[z0, z1] V) = w3 →
    w3.heap[w.heap.size]? = some (.cells #[x0, x1] T (0, 0)) ∧ w3.heap[w.heap.size + 1]? = some (.cells #[z0, z1] V (0, 0)) ∧ Below w.heap.size w w3 := by
  intro w3 hw
  subst hw
  exact ⟨heap_old (heap_new _ _ rfl) _, heap_new _ _ (by simp), ((Below.refl _ _).alloc (Nat.le_refl _) _).alloc (by simp) _⟩

section
variable {w w' : World} {K : IntKind} {E : TypeId} {A : Option Addr} {n : Nat} {l : List Nat}
theorem Dig.len (h : Dig w K E A n l) : l.length = n := h.1
theorem Dig.keep (h : Dig w K E A n l) (hk : ∀ (g : Nat) (cs : Array Value), w.heap[g]? = some (.cells cs E (0, 0)) → w'.heap[g]? = some (.cells cs E (0, 0))) : Dig w' K E A n l :=
  ⟨h.1, fun hn => by
    obtain ⟨g, cs, e, hg, hc⟩ := h.2 hn
    exact ⟨g, cs, e, hk g cs hg, hc⟩⟩
theorem Dig.below (h : Dig w K E A n l) (hb : Below w.heap.size w w') : Dig w' K E A n l := h.keep fun _ _ hg => heap_below hg hb
theorem Dig.alloc (h : Dig w K E A n l) (o : Obj) : Dig (w.alloc o) K E A n l := h.keep fun _ _ hg => heap_old hg o
theorem Dig.drew (h : Dig w K E A n l) : Dig w.drew K E A n l := h
theorem Dig.far (h : Dig w K E A n l) {g i : Nat} {cs : Array Value} {T : TypeId} {f : Nat × Nat} (hB : w.heap[g]? = some (.cells cs T f)) (hne : E ≠ T) (u : Value) : Dig (w.setCell ⟨g, i, none⟩ u) K E A n l :=
  h.keep fun _ _ hg => heap_far hg (heap_ne hg hB hne) u
/-- What a round wants: where the digits lie. -/
theorem Dig.at_ (h : Dig w K E A n l) (hn : 0 < n) : ∃ g, A = some ⟨g, 0, none⟩ ∧ g < w.heap.size ∧ ∀ j, j < n → w.cell? ⟨g, j, none⟩ = some (.int K ((dg l j : Nat) : Int)) := by
  obtain ⟨g, cs, e, hg, hc⟩ := h.2 hn
  exact ⟨g, e, lt_heap hg, fun j hj => (cell_of_row w g j cs E (0, 0) hg).trans (hc j hj)⟩
theorem Dig.take {k : Nat} (h : Dig w K E A n l) (hk : k ≤ n) : Dig w K E A k (l.take k) := by
  refine ⟨by rw [List.length_take, h.1]; omega, fun h0 => ?_⟩
  obtain ⟨g, cs, e, hg, hc⟩ := h.2 (by omega)
  refine ⟨g, cs, e, hg, fun j hj => ?_⟩
  have e2 : dg (l.take k) j = dg l j := by
    unfold dg
    rw [List.getD_eq_getElem?_getD, List.getD_eq_getElem?_getD, List.getElem?_take, if_pos hj]
  rw [e2]
  exact hc j (by omega)
theorem Dig.of_own {base : Nat} {c : Nat} {A : Option Addr} (h : w.ownsRow base E 1 (.slice A n c) n (digV K l)) : Dig w K E A n l := by
  have hl : l.length = n := by have := h.1; rw [digV_length] at this; omega
  refine ⟨hl, fun h0 => ?_⟩
  rcases h.2 with ⟨hv, hn⟩ | ⟨g, cap, cur, hv, _, hh, _, _, _, ht⟩
  · omega
  · injection hv with hA _ hcap
    subst hA
    refine ⟨g, cur, rfl, hh, fun j hj => ?_⟩
    have := digV_get K (l := l) (k := j) (by omega)
    rw [← ht, List.getElem?_take, if_pos (by omega)] at this
    simpa using this
theorem own_cap {base : Nat} {e : TypeId} {size c : Nat} {A : Option Addr} {xs : List Value} (h : w.ownsRow base e size (.slice A n c) n xs) : n ≤ c ∧ c ≤ maxLen := by
  rcases h.2 with ⟨hv, hn⟩ | ⟨g, cap, cur, hv, _, _, h1, h2, _⟩
  · injection hv with _ _ hc
    subst hc; subst hn
    exact ⟨Nat.le_refl _, by unfold maxLen; omega⟩
  · injection hv with _ _ hc
    subst hc
    exact ⟨h1, h2⟩
theorem own_slice {base : Nat} {e : TypeId} {size : Nat} {v : Value} {xs : List Value} (h : w.ownsRow base e size v n xs) : ∃ A c, v = .slice A n c := by
  rcases h.2 with ⟨hv, hn⟩ | ⟨g, cap, cur, hv, _⟩
  · subst hn; exact ⟨_, _, hv⟩
  · exact ⟨_, _, hv⟩
end

/-- The base of the program's large numbers, and that of the reference's. -/
def B32 : Nat := 4294967296
def sg (neg : Bool) (n : Nat) : Int := if neg then -(n : Int) else n

/-- A large number as it lies in memory: the struct of the sign s and the slice (A, n, c) reads as z. K, E: the kind and the type of its digits; b: their base. -/
def Big (K : IntKind) (E : TypeId) (b : Nat) (w : World) (s : Bool) (A : Option Addr) (n c : Nat) (z : Int) : Prop :=
  ∃ l, Dig w K E A n l ∧ n ≤ c ∧ c ≤ maxLen ∧ Digs b l ∧ Norm l ∧ (s = true → l ≠ []) ∧ z = sg s (val b l)

section
variable {K : IntKind} {E : TypeId} {b : Nat} {w w' : World} {s : Bool} {A : Option Addr} {n c : Nat} {z : Int}
theorem Big.below (h : Big K E b w s A n c z) (hb : Below w.heap.size w w') : Big K E b w' s A n c z := by
  obtain ⟨l, hd, r⟩ := h
  exact ⟨l, hd.below hb, r⟩
theorem Big.drew (h : Big K E b w s A n c z) : Big K E b w.drew s A n c z := h
theorem Big.alloc (h : Big K E b w s A n c z) (o : Obj) : Big K E b (w.alloc o) s A n c z := by
  obtain ⟨l, hd, r⟩ := h
  exact ⟨l, hd.alloc o, r⟩
theorem Big.far (h : Big K E b w s A n c z) {g i : Nat} {cs : Array Value} {T : TypeId} {f : Nat × Nat} (hB : w.heap[g]? = some (.cells cs T f)) (hne : E ≠ T) (u : Value) : Big K E b (w.setCell ⟨g, i, none⟩ u) s A n c z := by
  obtain ⟨l, hd, r⟩ := h
  exact ⟨l, hd.far hB hne u, r⟩
/-- The result's own block is written. -/
theorem Big.box2 (h : Big K E b w s A n c z) {g : Nat} {cs : Array Value} {T : TypeId} (hB : w.heap[g]? = some (.cells cs T (0, 0))) (hne : E ≠ T) (u v : Value) :
    Big K E b ((w.setCell ⟨g, 0, none⟩ u).setCell ⟨g, 1, none⟩ v) s A n c z := (h.far hB hne u).far (heap_set hB 0 u) hne v
end

/-- What a call that makes a large number comes to. -/
def Makes (K : IntKind) (E : TypeId) (b : Nat) (w : World) (z : Int) (e : Ending) (w' : World) : Prop :=
  ∃ s A n c, e = .returned (.agg #[.bool s, .slice A n c]) ∧ Big K E b w' s A n c z ∧ Below w.heap.size w w'

/-- One step more below a block number. -/
theorem below_then {B : Nat} {w W w1 : World} (hb : Below W.heap.size W w1) (h : Below B w W) (hB : B ≤ W.heap.size) : Below B w w1 := h.trans (hb.mono hB)

theorem sg_natAbs (neg : Bool) (n : Nat) : (sg neg n).natAbs = n := by unfold sg; split <;> omega
/-- How many digits a number has, by its size. -/
theorem len_of_lt {b : Nat} {l : List Nat} {neg : Bool} {K : Nat} (hb : 1 < b) (hn : Norm l) (h : (sg neg (val b l)).natAbs < b ^ K) : l.length ≤ K := by
  rw [sg_natAbs] at h
  exact len_le hb hn h

/-- What the numbers are here: far fewer than 2^40 digits. -/
def Small (z : Int) : Prop := z.natAbs < 10 ^ 200
theorem small_len32 {l : List Nat} {neg : Bool} (hn : Norm l) (h : Small (sg neg (val B32 l))) : l.length ≤ 200 :=
  len_of_lt (K := 200) (by decide) hn (Nat.lt_of_lt_of_le h (Nat.pow_le_pow_left (by decide) _))
/-- The first of what is owned. -/
theorem own_take {w : World} {base : Nat} {E : TypeId} {K : IntKind} {A : Option Addr} {n c k : Nat} {l : List Nat} (h : w.ownsRow base E 1 (.slice A n c) n (digV K l)) (hk : k ≤ n) : w.ownsRow base E 1 (.slice A k c) k (digV K (l.take k)) := by
  unfold digV at *
  have hl := h.1
  rw [List.length_map] at hl
  refine ⟨by rw [List.length_map, List.length_take]; omega, ?_⟩
  rcases h.2 with ⟨hv, hn⟩ | ⟨g, cap, cur, hv, hb, hh, h1, h2, h3, h4⟩
  · injection hv with a1 a2 a3
    subst a1; subst a3
    exact .inl ⟨by rw [show k = 0 by omega], by omega⟩
  · injection hv with a1 a2 a3
    subst a1; subst a3
    refine .inr ⟨g, c, cur, rfl, hb, hh, by omega, h2, h3, ?_⟩
    rw [List.map_take, ← h4, List.take_take]
    congr 1
    omega

theorem own_mono {w : World} {base base' : Nat} {E : TypeId} {size n : Nat} {v : Value} {xs : List Value} (h : w.ownsRow base E size v n xs) (hb : base' ≤ base) : w.ownsRow base' E size v n xs := by
  refine ⟨h.1, ?_⟩
  rcases h.2 with hn | ⟨g, cap, cur, hv, hg, r⟩
  · exact .inl hn
  · exact .inr ⟨g, cap, cur, hv, Nat.le_trans hb hg, r⟩
theorem own_below {w w' : World} {base : Nat} {E : TypeId} {size n : Nat} {v : Value} {xs : List Value} (h : w.ownsRow base E size v n xs) (hb : Below w.heap.size w w') : w'.ownsRow base E size v n xs := by
  refine ⟨h.1, ?_⟩
  rcases h.2 with hn | ⟨g, cap, cur, hv, hg, hh, r⟩
  · exact .inl hn
  · exact .inr ⟨g, cap, cur, hv, hg, heap_below hh hb, r⟩
/-! ### append of one element, as the translation lays it: the element first lies in a block of its own -/
theorem grown_alloc {w w' : World} {o : Obj} {row : Option Nat} (h : (w.alloc o).grownBy w' row) : w.grownBy w' row :=
  ⟨h.os, h.tape, h.output, Nat.le_trans (by simp) h.size, fun k hk hne => (h.block k (by simp; omega) hne).trans (Below.heap_alloc w o k hk)⟩
theorem one_cell (w : World) (u : Value) (t : TypeId) : ∀ j x, [u][j]? = some x → (w.alloc (.cells #[u] t)).cell? ((⟨w.heap.size, 0, none⟩ : Addr).add j) = some x := by
  intro j x hj
  match j, hj with
  | 0, hj => simp at hj; subst hj; simp [Addr.add]

/-- Within the capacity. -/
theorem wpList_push_fits {P : Program} {w : World} {ops : Array Oper} {rest : List Oper} {o : Oper} {a : Act} {Q : Exit → Act → World → Prop}
    (hg : o.guard = none) (s x : Operand) (t : TypeId) (hop : o.op = Op.call { callee := Callee.builtin Builtin.append, args := #[s, x], argTypes := #[t, t] })
    (base : Nat) (e : TypeId) (i : TypeInfo) (h1 : P.underlying t = some (.slice e)) (h2 : P.info? e = some i) (h4 : i.size = 1)
    (g k cap : Nat) (xs : List Value) (hs : a.eval s = .slice (some ⟨g, 0, none⟩) k cap) (hown : w.ownsRow base e 1 (.slice (some ⟨g, 0, none⟩) k cap) k xs) (u : Value) (hx : a.eval x = .slice (some ⟨w.heap.size, 0, none⟩) 1 1)
    (h1c : u.oneCell' = true) (b1 : k + 1 ≤ cap)
    (hK : ∀ w', w'.ownsRow base e 1 (.slice (some ⟨g, 0, none⟩) (k + 1) cap) (k + 1) (xs ++ [u]) → w.grownBy w' (some g) → wpList P ops Q rest (a.put o.dst (.slice (some ⟨g, 0, none⟩) (k + 1) cap)) w') :
    wpList P ops Q (o :: rest) a (w.alloc (.cells #[u] e)) :=
  wpList_append_fits _ hg s x t hop base e i 1 h1 h2 h4 g k cap xs hs (hown.alloc _) ⟨w.heap.size, 0, none⟩ 1 1 [u] hx rfl (one_cell w u e) (by intro v hv; simp at hv; subst hv; exact h1c) b1 fun w' r1 r2 => hK w' r1 (grown_alloc r2)

/-- It may grow. -/
theorem wpList_push_own {P : Program} {w : World} {ops : Array Oper} {rest : List Oper} {o : Oper} {a : Act} {Q : Exit → Act → World → Prop}
    (hg : o.guard = none) (s x : Operand) (t : TypeId) (hop : o.op = Op.call { callee := Callee.builtin Builtin.append, args := #[s, x], argTypes := #[t, t] })
    (base : Nat) (e : TypeId) (i : TypeInfo) (z : Value) (bytes : Nat) (h1 : P.underlying t = some (.slice e)) (h2 : P.info? e = some i) (hz : i.zero = some z) (h4 : i.size = 1) (hby : i.bytes = bytes) (hzs : z.cells.size = 1)
    (v : Value) (n : Nat) (xs : List Value) (hs : a.eval s = v) (hown : w.ownsRow base e 1 v n xs) (u : Value) (hx : a.eval x = .slice (some ⟨w.heap.size, 0, none⟩) 1 1)
    (h1c : u.oneCell' = true) (b1 : n + 1 ≤ maxLen) (b2 : (n + 1) * bytes ≤ 140737488355328) (hbase : base ≤ w.heap.size)
    (hK : ∀ A c w', w'.ownsRow base e 1 (.slice A (n + 1) c) (n + 1) (xs ++ [u]) → w.grownBy w' v.ownBlock → wpList P ops Q rest (a.put o.dst (.slice A (n + 1) c)) w') :
    wpList P ops Q (o :: rest) a (w.alloc (.cells #[u] e)) :=
  wpList_append_own _ hg s x t hop base e i z 1 bytes h1 h2 hz h4 hby hzs (by omega) v n xs hs (hown.alloc _) ⟨w.heap.size, 0, none⟩ 1 1 [u] hx rfl (one_cell w u e) (by intro v hv; simp at hv; subst hv; exact h1c) b1 b2 (by simp; omega) fun v' w' r1 r2 _ => by
    obtain ⟨A, c, rfl⟩ := own_slice r1
    exact hK A c w' r1 (grown_alloc r2)

theorem dig_two (w : World) {K : IntKind} {X Y : Int} {x y : Nat} {g : Nat} (t : TypeId) (hg : g = w.heap.size) (hx : X = (x : Int)) (hy : Y = (y : Int)) :
    Dig (w.alloc (.cells #[.int K X, .int K Y] t)) K t (some ⟨g, 0, none⟩) 2 [x, y] := by
  subst hx; subst hy; subst hg
  refine ⟨rfl, fun _ => ⟨_, _, rfl, heap_new w _ rfl, fun j hj => ?_⟩⟩
  match j, hj with
  | 0, _ => rfl
  | 1, _ => rfl
theorem limb0 (m : Nat) : (m : Int) % 4294967296 = ((m % B32 : Nat) : Int) := by unfold B32; omega
theorem limb1 {m : Nat} (h : m ≤ 9223372036854775808) : (m : Int) / 4294967296 % 4294967296 = ((m / B32 : Nat) : Int) := by unfold B32; omega
theorem limb1' (m : Nat) : (m : Int) / 4294967296 = ((m / B32 : Nat) : Int) := by unfold B32; omega
theorem digs_limbs {m : Nat} (h : m ≤ 9223372036854775808) : Digs B32 [m % B32, m / B32] := by
  intro d hd
  unfold B32 at *
  simp at hd
  omega
theorem val_two {b x y : Nat} : val b [x, y] = x + b * y := by simp [val]
theorem val_limbs (m : Nat) : val B32 [m % B32, m / B32] = m := by rw [val_two, Nat.mod_add_div]
end Go.Proofs.YtklblmbacnnoeaaGreatDoor

namespace Go.Proofs.YtklblmbacnnoeaaGreatDoor
open Go.RowKit Limb

/-- A right decimal. -/
def decB (u p : Int) : Bool := decide (-1000000000000000 ≤ u ∧ u ≤ 1000000000000000 ∧ 0 ≤ p ∧ p ≤ 9)
theorem decB_mk {u p : Int} (h : -1000000000000000 ≤ u ∧ u ≤ 1000000000000000 ∧ 0 ≤ p ∧ p ≤ 9) : decB u p = true := decide_eq_true h
theorem decB_out {u p : Int} (h : decB u p = true) : -1000000000000000 ≤ u ∧ u ≤ 1000000000000000 ∧ 0 ≤ p ∧ p ≤ 9 := of_decide_eq_true h
/-- The units of a decimal with more places. -/
def scaled (u p : Int) (q : Nat) : Int := u * ((10 ^ (q - p.toNat) : Nat) : Int)

theorem scaled_bound {u p : Int} {q : Nat} (hu : -1000000000000000 ≤ u ∧ u ≤ 1000000000000000) (hq : q ≤ 9) : -1000000000000000000000000 ≤ scaled u p q ∧ scaled u p q ≤ 1000000000000000000000000 := by
  unfold scaled
  have h1 : 10 ^ (q - p.toNat) ≤ 10 ^ 9 := Nat.pow_le_pow_right (by omega) (by omega)
  have h0 : 0 < 10 ^ (q - p.toNat) := Nat.pow_pos (by omega)
  generalize 10 ^ (q - p.toNat) = k at *
  have h2 : u * (k : Int) ≤ 1000000000000000 * k := Int.mul_le_mul_of_nonneg_right hu.2 (by omega)
  have h3 : -1000000000000000 * (k : Int) ≤ u * k := Int.mul_le_mul_of_nonneg_right hu.1 (by omega)
  omega

def dU (ds : List (Int × Int)) (j : Nat) : Int := (ds.getD j (0, 0)).1
def dP (ds : List (Int × Int)) (j : Nat) : Int := (ds.getD j (0, 0)).2

/-- A slice of decimals as it lies in memory. -/
def Decs (w : World) (A : Option Addr) (n : Nat) (ds : List (Int × Int)) : Prop :=
  ds.length = n ∧ (∀ d ∈ ds, (-9223372036854775808 ≤ d.1 ∧ d.1 ≤ 9223372036854775807) ∧ (-9223372036854775808 ≤ d.2 ∧ d.2 ≤ 9223372036854775807)) ∧
    (0 < n → ∃ b off, A = some ⟨b, off, none⟩ ∧ b < w.heap.size ∧ ∀ j, j < n → w.cell? ⟨b, off + j * 2, none⟩ = some (.int .i64 (dU ds j)) ∧ w.cell? ⟨b, off + j * 2 + 1, none⟩ = some (.int .i64 (dP ds j)))
theorem Decs.below {w w' : World} {A : Option Addr} {n : Nat} {ds : List (Int × Int)} (h : Decs w A n ds) (hb : Below w.heap.size w w') : Decs w' A n ds :=
  ⟨h.1, h.2.1, fun hn => by
    obtain ⟨b, off, e, hl, hc⟩ := h.2.2 hn
    exact ⟨b, off, e, Nat.lt_of_lt_of_le hl hb.size, fun j hj => ⟨(hb.cell (p := ⟨b, off + j * 2, none⟩) hl).trans (hc j hj).1, (hb.cell (p := ⟨b, off + j * 2 + 1, none⟩) hl).trans (hc j hj).2⟩⟩⟩
theorem Decs.alloc {w : World} {A : Option Addr} {n : Nat} {ds : List (Int × Int)} (h : Decs w A n ds) (o : Obj) : Decs (w.alloc o) A n ds := h.below ((Below.refl _ _).alloc (Nat.le_refl _) o)
/-- The decimal with so many units and places: units, places, fault. -/
def made (z p : Int) : Int × Int × Int := if z.natAbs ≤ 1000000000000000 then (z, p, 0) else (0, 0, 1)
/-- What a function that returns a decimal and a fault comes to. -/
def RetD (r : Int × Int × Int) (w : World) (e : Ending) (w' : World) : Prop :=
  e = .returned (.tuple #[.agg #[.int .i64 r.1, .int .i64 r.2.1], .int .i64 r.2.2]) ∧ Below w.heap.size w w'

end Go.Proofs.YtklblmbacnnoeaaGreatDoor

namespace Go.Proofs.YtklblmbacnnoeaaGreatDoor
open Go.RowKit
set_option linter.unusedVariables false
set_option linter.unusedSimpArgs false

/-! ### Rows of bytes in order -/
theorem cb_self : ∀ a : List UInt8, Lib.compareBytes a a = 0
  | [] => rfl
  | x :: a => by
    unfold Lib.compareBytes
    rw [if_neg (UInt8.lt_irrefl x), if_neg (UInt8.lt_irrefl x)]
    exact cb_self a
theorem cb_trans : ∀ {a b c : List UInt8}, Lib.compareBytes a b < 0 → Lib.compareBytes b c < 0 → Lib.compareBytes a c < 0
  | [], [], _, h, _ => by simp [Lib.compareBytes] at h
  | [], _ :: _, [], _, h => by simp [Lib.compareBytes] at h
  | [], _ :: _, _ :: _, _, _ => by simp [Lib.compareBytes]
  | _ :: _, [], _, h, _ => by simp [Lib.compareBytes] at h
  | _ :: _, _ :: _, [], _, h => by simp [Lib.compareBytes] at h
  | x :: a, y :: b, z :: c, h1, h2 => by
    unfold Lib.compareBytes at h1 h2 ⊢
    by_cases a1 : x < y
    · by_cases b1 : y < z
      · rw [if_pos (UInt8.lt_trans a1 b1)]; decide
      · rw [if_neg b1] at h2
        by_cases b2 : z < y
        · rw [if_pos b2] at h2; simp at h2
        · have e : y = z := UInt8.le_antisymm (UInt8.not_lt.1 b2) (UInt8.not_lt.1 b1)
          rw [← e, if_pos a1]; decide
    · rw [if_neg a1] at h1
      by_cases a2 : y < x
      · rw [if_pos a2] at h1; simp at h1
      · rw [if_neg a2] at h1
        have e : x = y := UInt8.le_antisymm (UInt8.not_lt.1 a2) (UInt8.not_lt.1 a1)
        rw [e]
        by_cases b1 : y < z
        · rw [if_pos b1]; decide
        · rw [if_neg b1] at h2 ⊢
          by_cases b2 : z < y
          · rw [if_pos b2] at h2; simp at h2
          · rw [if_neg b2] at h2 ⊢
            exact cb_trans h1 h2
/-! ### Units -/
structure Unt where
  name : ByteArray
  of : ByteArray
  num : Int
  den : Int
def u0 : Unt := ⟨⟨#[]⟩, ⟨#[]⟩, 0, 0⟩
def uA (us : List Unt) (j : Nat) : Unt := us.getD j u0
def nmU (us : List Unt) (j : Nat) : List UInt8 := (uA us j).name.data.toList
def lowB (c : UInt8) : Bool := decide (97 ≤ c.toNat ∧ c.toNat ≤ 122)
def nameC (c : UInt8) : Bool := lowB c || decide (48 ≤ c.toNat ∧ c.toNat ≤ 57) || c.toNat == 45
def nameB (l : List UInt8) : Bool := decide (1 ≤ l.length ∧ l.length ≤ 40) && lowB (l.headD 0) && l.all nameC

/-! ### Where a name stands -/
/-- Names in order. -/
def SortU (us : List Unt) : Prop := ∀ i j, i < j → j < us.length → Lib.compareBytes (nmU us i) (nmU us j) < 0
theorem SortU.inj {us : List Unt} (h : SortU us) {i j : Nat} (hi : i < us.length) (hj : j < us.length) (e : nmU us i = nmU us j) : i = j := by
  rcases Nat.lt_trichotomy i j with g | g | g
  · have := h i j g hj; rw [e, cb_self] at this; omega
  · exact g
  · have := h j i g hi; rw [e, cb_self] at this; omega
/-! ### Chains -/
def PathU (nx : Nat → Option Nat) : List Nat → Prop
  | [] => False
  | [_] => True
  | i :: j :: r => nx i = some j ∧ PathU nx (j :: r)
theorem PathU.snoc {nx : Nat → Option Nat} {i j : Nat} : ∀ {l : List Nat}, PathU nx (l ++ [i]) → nx i = some j → PathU nx (l ++ [i] ++ [j])
  | [], _, h => ⟨h, trivial⟩
  | [_], h, h2 => ⟨h.1, h2, trivial⟩
  | _ :: b :: l, h, h2 => ⟨h.1, PathU.snoc (l := b :: l) h.2 h2⟩
end Go.Proofs.YtklblmbacnnoeaaGreatDoor

namespace Go.Proofs.YtklblmbacnnoeaaGreatDoor
open Nmb
set_option linter.unusedVariables false

structure Col where
  name : ByteArray
  kind : Int
  width : Int
  places : Int
  form : Int
  right : Bool
  fill : Int
  need : Bool
  deriving DecidableEq
structure RKd where
  tag : ByteArray
  fields : List Col
  most : Int
  under : ByteArray
  deriving DecidableEq
structure Fmt where
  mark : Int
  quote : Int
  kinds : List RKd
  head : ByteArray
  tail : ByteArray
  count : ByteArray
  sum : ByteArray
  deriving DecidableEq

def col0 : Col := ⟨⟨#[]⟩, 0, 0, 0, 0, false, 0, false⟩
def kind0 : RKd := ⟨⟨#[]⟩, [], 0, ⟨#[]⟩⟩
def cA (cs : List Col) (j : Nat) : Col := cs.getD j col0
def kA (ks : List RKd) (j : Nat) : RKd := ks.getD j kind0
theorem cA_get {cs : List Col} {j : Nat} (h : j < cs.length) : cs[j] = cA cs j := by simp [cA, List.getD_eq_getElem?_getD, h]
theorem kA_get {ks : List RKd} {j : Nat} (h : j < ks.length) : ks[j] = kA ks j := by simp [kA, List.getD_eq_getElem?_getD, h]

/-- The place of the first that is so; -1: there is none. -/
def ixF {α : Type} (q : α → Bool) : List α → Int
  | [] => -1
  | x :: l => if q x = true then 0 else if ixF q l < 0 then -1 else ixF q l + 1
theorem ixF_lo {α : Type} (q : α → Bool) : ∀ l : List α, -1 ≤ ixF q l
  | [] => by unfold ixF; omega
  | x :: l => by
    have := ixF_lo q l
    unfold ixF
    split
    · omega
    · split <;> omega
theorem ixF_hit {α : Type} {q : α → Bool} : ∀ {l : List α} {k : Nat} (hk : k < l.length), q l[k] = true → (∀ j (hj : j < l.length), j < k → q l[j] = false) → ixF q l = k
  | x :: l, 0, _, h, _ => by
    unfold ixF
    rw [if_pos (by simpa using h)]
    rfl
  | x :: l, k + 1, hk, h, hn => by
    have h0 := hn 0 (by simp) (by omega)
    have ih := ixF_hit (l := l) (k := k) (by simpa using hk) h (fun j hj hjk => hn (j + 1) (by simpa using hj) (by omega))
    unfold ixF
    rw [if_neg (by simp only [List.getElem_cons_zero] at h0; rw [h0]; decide), ih, if_neg (by omega)]
    omega
theorem ixF_no {α : Type} {q : α → Bool} : ∀ {l : List α}, (∀ j (hj : j < l.length), q l[j] = false) → ixF q l = -1
  | [], _ => rfl
  | x :: l, h => by
    have h0 := h 0 (by simp)
    have ih := ixF_no (l := l) (fun j hj => h (j + 1) (by simpa using hj))
    unfold ixF
    rw [if_neg (by simp only [List.getElem_cons_zero] at h0; rw [h0]; decide), ih, if_pos (by omega)]
theorem ixF_spec {α : Type} (q : α → Bool) : ∀ l : List α, (ixF q l = -1 ∧ ∀ j (hj : j < l.length), q l[j] = false) ∨ ∃ k, ∃ hk : k < l.length, ixF q l = (k : Int) ∧ q l[k] = true ∧ ∀ j (hj : j < l.length), j < k → q l[j] = false
  | [] => .inl ⟨rfl, fun j hj => by simp at hj⟩
  | x :: l => by
    cases hx : q x with
    | true => exact .inr ⟨0, by simp, ixF_hit (by simp) hx (fun j _ h => absurd h (Nat.not_lt_zero _)), hx, fun j _ h => absurd h (Nat.not_lt_zero _)⟩
    | false =>
      rcases ixF_spec q l with ⟨h1, h2⟩ | ⟨k, hk, h1, h2, h3⟩
      · have hn : ∀ j (hj : j < (x :: l).length), q (x :: l)[j] = false := fun j hj => by
          cases j with
          | zero => exact hx
          | succ j => exact h2 j (by simpa using hj)
        exact .inl ⟨ixF_no hn, hn⟩
      · have hn : ∀ j (hj : j < (x :: l).length), j < k + 1 → q (x :: l)[j] = false := fun j hj hjk => by
          cases j with
          | zero => exact hx
          | succ j => exact h3 j (by simpa using hj) (by omega)
        exact .inr ⟨k + 1, by simpa using hk, ixF_hit (by simpa using hk) h2 hn, h2, hn⟩
theorem ixF_any {α : Type} (q : α → Bool) (l : List α) : decide (0 ≤ ixF q l) = l.any q := by
  rcases ixF_spec q l with ⟨h1, h2⟩ | ⟨k, hk, h1, h2, _⟩
  · rw [h1, show l.any q = false from by
      rw [Bool.eq_false_iff]
      intro h
      obtain ⟨x, hx, h3⟩ := List.any_eq_true.1 h
      obtain ⟨j, hj, rfl⟩ := List.getElem_of_mem hx
      rw [h2 j hj] at h3
      cases h3]
    rfl
  · rw [h1, show l.any q = true from List.any_eq_true.2 ⟨l[k], List.getElem_mem hk, h2⟩]
    exact decide_eq_true (by omega)
/-- The first is at a place just if none before the place is so, where it is so. -/
theorem ixF_take {α : Type} {q : α → Bool} {l : List α} {k : Nat} (hk : k < l.length) (h : q l[k] = true) : (ixF q l = k) ↔ (l.take k).any q = false := by
  constructor
  · intro e
    rw [Bool.eq_false_iff]
    intro h2
    obtain ⟨x, hx, h3⟩ := List.any_eq_true.1 h2
    obtain ⟨j, hj, rfl⟩ := List.getElem_of_mem hx
    rw [List.length_take] at hj
    rw [List.getElem_take] at h3
    rcases ixF_spec q l with ⟨h4, h5⟩ | ⟨k', hk', h4, h5, h6⟩
    · rw [h5 k hk] at h; cases h
    · have : k' = k := by omega
      subst this
      rw [h6 j (by omega) (by omega)] at h3
      cases h3
  · intro e
    refine ixF_hit hk h (fun j hj hjk => ?_)
    rw [Bool.eq_false_iff]
    intro h3
    have : (l.take k).any q = true := List.any_eq_true.2 ⟨l[j], by rw [List.mem_iff_getElem]; exact ⟨j, by rw [List.length_take]; omega, by rw [List.getElem_take]⟩, h3⟩
    rw [this] at e
    cases e

/-! ### What is wrong with a format -/
/-- A byte that cannot be between fields. -/
def markF (b : Int) : Bool := decide (b < 32) || decide (126 < b) || tagC b || decide (97 ≤ b ∧ b ≤ 122) || decide (b = 45) || decide (b = 46)
def formW (form : Int) : Int := if form = 1 ∨ form = 3 then 8 else if form = 4 then 10 else if form = 5 then 7 else 0
def idleB (mark : Int) (c : Col) : Bool :=
  (decide (c.kind = 2) || decide (c.places = 0)) && (decide (c.kind = 3) || decide (c.form = 0)) && (!decide (c.kind = 3) && decide (mark = 0) || !c.right && decide (c.fill = 0))
def tagIs (t : ByteArray) (k : RKd) : Bool := decide (k.tag = t)
def nameIs (t : ByteArray) (c : Col) : Bool := decide (c.name = t)
def colF (mark : Int) (c : Col) (before : List Col) : Int :=
  if nameB c.name.data.toList = false then 5
  else if before.any (nameIs c.name) = true then 7
  else if ¬ (1 ≤ c.kind ∧ c.kind ≤ 3) then 4
  else if ¬ (1 ≤ c.width ∧ c.width ≤ 100) then 1
  else if c.kind = 2 ∧ ¬ (0 ≤ c.places ∧ c.places ≤ 9) then 1
  else if c.kind = 3 ∧ formW c.form = 0 then 4
  else if idleB mark c = false then 3
  else if mark ≠ 0 then 0
  else if c.kind ≠ 3 ∧ c.fill ≠ 32 ∧ ¬ (c.kind = 2 ∧ c.fill = 48 ∧ c.right = true) then 3
  else if c.kind = 3 ∧ c.width ≠ formW c.form then 12
  else 0
/-- The first fault of n; 0: there is none. -/
def fstF (f : Nat → Int) : Nat → Int
  | 0 => 0
  | n + 1 => if fstF f n = 0 then f n else fstF f n
theorem fstF_no {f : Nat → Int} : ∀ {n : Nat}, (∀ j, j < n → f j = 0) → fstF f n = 0
  | 0, _ => rfl
  | n + 1, h => by
    unfold fstF
    rw [fstF_no (fun j hj => h j (by omega)), if_pos rfl, h n (by omega)]
theorem fstF_hit {f : Nat → Int} : ∀ {n k : Nat}, k < n → (∀ j, j < k → f j = 0) → f k ≠ 0 → fstF f n = f k
  | n + 1, k, hk, h0, h1 => by
    unfold fstF
    rcases Nat.lt_or_ge k n with h | h
    · rw [fstF_hit h h0 h1, if_neg h1]
    · obtain rfl : k = n := by omega
      rw [fstF_no h0, if_pos rfl]
theorem fstF_zero {f : Nat → Int} : ∀ {n : Nat}, fstF f n = 0 → ∀ j, j < n → f j = 0
  | 0, _, j, hj => absurd hj (Nat.not_lt_zero _)
  | n + 1, h, j, hj => by
    unfold fstF at h
    split at h
    · rename_i h2
      rcases Nat.lt_or_ge j n with h3 | h3
      · exact fstF_zero h2 j h3
      · obtain rfl : j = n := by omega
        exact h
    · rename_i h2; exact absurd h h2
def colsF (mark : Int) (cs : List Col) : Int := fstF (fun i => colF mark (cA cs i) (cs.take i)) cs.length
def kindF (mark : Int) (ks : List RKd) (i : Nat) : Int :=
  if ¬ (1 ≤ (kA ks i).tag.size ∧ (kA ks i).tag.size ≤ 6) ∨ tagL (kA ks i).tag.data.toList = false then 3
  else if (ks.take i).any (tagIs (kA ks i).tag) = true then 7
  else if mark = 0 ∧ (kA ks i).tag.size ≠ (kA ks 0).tag.size then 3
  else if 50 < (kA ks i).fields.length then 2
  else if colsF mark (kA ks i).fields ≠ 0 then colsF mark (kA ks i).fields
  else if ¬ (0 ≤ (kA ks i).most ∧ (kA ks i).most ≤ 2000) then 1
  else if (kA ks i).under ≠ ⟨#[]⟩ ∧ (ks.take i).any (tagIs (kA ks i).under) = false then 5
  else 0
/-- The kind with a tag; the zero kind: there is none. -/
def kndF (ks : List RKd) (t : ByteArray) : RKd := if ixF (tagIs t) ks < 0 then kind0 else kA ks (ixF (tagIs t) ks).toNat
/-- Whether a column of the tail does not serve. -/
def colN (k : RKd) (name : ByteArray) : Col := cA k.fields (ixF (nameIs name) k.fields).toNat
def tailF (ks : List RKd) (tail name : ByteArray) (places : Bool) : Bool :=
  decide (ixF (nameIs name) (kndF ks tail).fields < 0) || (decide ((colN (kndF ks tail) name).kind ≠ 2) || !places && decide ((colN (kndF ks tail) name).places ≠ 0))
def endsF (f : Fmt) : Int :=
  if f.head ≠ ⟨#[]⟩ ∧ ixF (tagIs f.head) f.kinds < 0 then 5
  else if f.tail ≠ ⟨#[]⟩ ∧ ixF (tagIs f.tail) f.kinds < 0 then 5
  else if f.head = f.tail ∧ f.head ≠ ⟨#[]⟩ then 12
  else if f.tail = ⟨#[]⟩ ∧ (f.count ≠ ⟨#[]⟩ ∨ f.sum ≠ ⟨#[]⟩) then 3
  else if f.count ≠ ⟨#[]⟩ ∧ tailF f.kinds f.tail f.count false = true then 5
  else if f.sum ≠ ⟨#[]⟩ ∧ tailF f.kinds f.tail f.sum true = true then 5
  else if f.count = f.sum ∧ f.count ≠ ⟨#[]⟩ then 12
  else 0
def marksF (mark quote : Int) : Int :=
  if mark ≠ 0 ∧ (markF mark = true ∨ quote ≠ 0 ∧ markF quote = true ∨ mark = quote) then 12
  else if mark = 0 ∧ quote ≠ 0 then 3
  else 0
def checkF (f : Fmt) : Int :=
  if marksF f.mark f.quote ≠ 0 then marksF f.mark f.quote
  else if f.kinds.length = 0 then 9
  else if 30 < f.kinds.length then 2
  else if fstF (kindF f.mark f.kinds) f.kinds.length ≠ 0 then fstF (kindF f.mark f.kinds) f.kinds.length
  else endsF f
end Go.Proofs.YtklblmbacnnoeaaGreatDoor
