
/- Words for memory: a slice that reads as digits, and the two kinds of large numbers. No program in sight. -/
import Derived.WalkKit
import Derived.Lib.Hide
import Derived.Test.YtbnjejenejoibaaGreatDoorM0
namespace Go.Proofs.YtbnjejenejoibaaGreatDoor
open Go.RowKit Limb
def dg (l : List Nat) (k : Nat) : Nat := l.getD k 0
theorem dg_lt {b : Nat} {l : List Nat} (h : Digs b l) (hb : 0 < b) (k : Nat) : dg l k < b := h.getD hb k
theorem dg_out {l : List Nat} {k : Nat} (h : l.length <= k) : dg l k = 0 := by
 unfold dg; rw [List.getD_eq_getElem?_getD, List.getElem?_eq_none h]; rfl
theorem dg_get {l : List Nat} {k : Nat} (h : k < l.length) : l[k]? = some (dg l k) := by
 unfold dg; rw [List.getD_eq_getElem?_getD, List.getElem?_eq_getElem h]; rfl
def digV (K : IntKind) (l : List Nat) : List Value := l.map fun d => .int K ((d : Nat) : Int)
theorem digV_length (K : IntKind) (l : List Nat) : (digV K l).length = l.length := by simp [digV]
theorem digV_snoc (K : IntKind) (l : List Nat) (d : Nat) : digV K (l ++ [d]) = digV K l ++ [.int K ((d : Nat) : Int)] := by simp [digV]
theorem digV_get (K : IntKind) {l : List Nat} {k : Nat} (h : k < l.length) : (digV K l)[k]? = some (.int K ((dg l k : Nat) : Int)) := by
 simp [digV, dg_get h]
theorem digV_set (K : IntKind) (l : List Nat) (k d : Nat) : digV K (l.set k d) = (digV K l).set k (.int K ((d : Nat) : Int)) := by simp [digV, List.map_set]
theorem digV_one (K : IntKind) (l : List Nat) : ∀ u ∈ digV K l, u.oneCell' = true := by
 intro u hu
 simp only [digV, List.mem_map] at hu
 obtain ⟨d, _, rfl⟩ := hu
 rfl
def Dig (w : World) (K : IntKind) (E : TypeId) (A : Option Addr) (n : Nat) (l : List Nat) : Prop :=
 l.length = n /\ (0 < n -> ∃ (g : Nat) (cs : Array Value), A = some ⟨g, 0, none⟩ /\ w.heap[g]? = some (.cells cs E (0, 0)) /\ ∀ j, j < n -> cs[j]? = some (.int K ((dg l j : Nat) : Int)))
theorem lt_heap {w : World} {g : Nat} {o : Obj} (h : w.heap[g]? = some o) : g < w.heap.size := by
 rcases Nat.lt_or_ge g w.heap.size with hlt | hge
 ·exact hlt
 ·rw [Array.getElem?_eq_none hge] at h; cases h
theorem heap_ne {w : World} {g g' : Nat} {cs cs' : Array Value} {T T' : TypeId} {f f' : Nat × Nat} (h : w.heap[g]? = some (.cells cs T f)) (h' : w.heap[g']? = some (.cells cs' T' f')) (hne : T ≠ T') : g ≠ g' := by
 rintro rfl
 rw [h] at h'
 injection h' with h'
 injection h' with _ ht
 exact hne ht
theorem heap_set {w : World} {g : Nat} {cs : Array Value} {T : TypeId} (h : w.heap[g]? = some (.cells cs T (0, 0))) (i : Nat) (u : Value) : (w.setCell ⟨g, i, none⟩ u).heap[g]? = some (.cells (cs.setIfInBounds i u) T (0, 0)) := by
 simp [World.setCell, Array.getElem?_modify, h]
theorem heap_far {w : World} {g : Nat} {o : Obj} (h : w.heap[g]? = some o) {p : Addr} (hp : g ≠ p.block) (u : Value) : (w.setCell p u).heap[g]? = some o := (Below.heap_setCell w p u g hp).trans h
theorem heap_old {w : World} {g : Nat} {o : Obj} (h : w.heap[g]? = some o) (o' : Obj) : (w.alloc o').heap[g]? = some o := (Below.heap_alloc w o' g (lt_heap h)).trans h
theorem heap_new (w : World) (o : Obj) {g : Nat} (hg : g = w.heap.size) : (w.alloc o).heap[g]? = some o := by subst hg; exact heap_alloc_new w o
theorem heap_below {w w' : World} {g : Nat} {o : Obj} (h : w.heap[g]? = some o) (hb : Below w.heap.size w w') : w'.heap[g]? = some o := (hb.block g (lt_heap h)).trans h
theorem box2 {w : World} {g : Nat} {x y : Value} {T : TypeId} (h : w.heap[g]? = some (.cells #[x, y] T (0, 0))) :
  w.cell? ⟨g, 0, none⟩ = some x /\ w.cell? ⟨g, 1, none⟩ = some y /\ w.frozen? ⟨g, 0, none⟩ = false /\ w.frozen? ⟨g, 1, none⟩ = false /\ g < w.heap.size :=
 ⟨cell_of_row w g 0 _ _ _ h, cell_of_row w g 1 _ _ _ h, by simp [World.frozen?, h], by simp [World.frozen?, h], lt_heap h⟩
theorem cell_past2 {w : World} {g h i : Nat} {x u v : Value} (hc : w.cell? ⟨g, i, none⟩ = some x) (hne : g ≠ h) : ((w.setCell ⟨h, 0, none⟩ u).setCell ⟨h, 1, none⟩ v).cell? ⟨g, i, none⟩ = some x := by
 rw [World.cell?_setCell_other _ _ _ _ (by intro e; injection e; omega), World.cell?_setCell_other _ _ _ _ (by intro e; injection e; omega)]
 exact hc
theorem boxes3 (w : World) (x0 x1 y0 y1 z0 z1 : Value) (T U V : TypeId) : ∀ w3, ((w.alloc (.cells #[x0, x1] T)).alloc (.cells #[y0, y1] U)).alloc (.cells #[z0, z1] V) = w3 ->
  w3.heap[w.heap.size]? = some (.cells #[x0, x1] T (0, 0)) /\ w3.heap[w.heap.size + 1]? = some (.cells #[y0, y1] U (0, 0)) /\ w3.heap[w.heap.size + 1 + 1]? = some (.cells #[z0, z1] V (0, 0)) /\ Below w.heap.size w w3 := by
 intro w3 hw
 subst hw
 exact ⟨heap_old (heap_old (heap_new _ _ rfl) _) _, heap_old (heap_new _ _ (by simp)) _, heap_new _ _ (by simp), (((Below.refl _ _).alloc (Nat.le_refl _) _).alloc (by simp) _).alloc (by simp; omega) _⟩
theorem boxes2 (w : World) (x0 x1 z0 z1 : Value) (T V : TypeId) : ∀ w3, (w.alloc (.cells #[x0, x1] T)).alloc (.cells #[z0, z1] V) = w3 ->
  w3.heap[w.heap.size]? = some (.cells #[x0, x1] T (0, 0)) /\ w3.heap[w.heap.size + 1]? = some (.cells #[z0, z1] V (0, 0)) /\ Below w.heap.size w w3 := by
 intro w3 hw
 subst hw
 exact ⟨heap_old (heap_new _ _ rfl) _, heap_new _ _ (by simp), ((Below.refl _ _).alloc (Nat.le_refl _) _).alloc (by simp) _⟩
section
variable {w w' : World} {K : IntKind} {E : TypeId} {A : Option Addr} {n : Nat} {l : List Nat}
theorem Dig.len (h : Dig w K E A n l) : l.length = n := h.1
theorem Dig.keep (h : Dig w K E A n l) (hk : ∀ (g : Nat) (cs : Array Value), w.heap[g]? = some (.cells cs E (0, 0)) -> w'.heap[g]? = some (.cells cs E (0, 0))) : Dig w' K E A n l :=
 ⟨h.1, fun hn => by
  obtain ⟨g, cs, e, hg, hc⟩ := h.2 hn
  exact ⟨g, cs, e, hk g cs hg, hc⟩⟩
theorem Dig.below (h : Dig w K E A n l) (hb : Below w.heap.size w w') : Dig w' K E A n l := h.keep fun _ _ hg => heap_below hg hb
theorem Dig.alloc (h : Dig w K E A n l) (o : Obj) : Dig (w.alloc o) K E A n l := h.keep fun _ _ hg => heap_old hg o
theorem Dig.drew (h : Dig w K E A n l) : Dig w.drew K E A n l := h
theorem Dig.far (h : Dig w K E A n l) {g i : Nat} {cs : Array Value} {T : TypeId} {f : Nat × Nat} (hB : w.heap[g]? = some (.cells cs T f)) (hne : E ≠ T) (u : Value) : Dig (w.setCell ⟨g, i, none⟩ u) K E A n l :=
 h.keep fun _ _ hg => heap_far hg (heap_ne hg hB hne) u
theorem Dig.at_ (h : Dig w K E A n l) (hn : 0 < n) : ∃ g, A = some ⟨g, 0, none⟩ /\ g < w.heap.size /\ ∀ j, j < n -> w.cell? ⟨g, j, none⟩ = some (.int K ((dg l j : Nat) : Int)) := by
 obtain ⟨g, cs, e, hg, hc⟩ := h.2 hn
 exact ⟨g, e, lt_heap hg, fun j hj => (cell_of_row w g j cs E (0, 0) hg).trans (hc j hj)⟩
theorem Dig.take {k : Nat} (h : Dig w K E A n l) (hk : k <= n) : Dig w K E A k (l.take k) := by
 refine ⟨by rw [List.length_take, h.1]; omega, fun h0 => ?_⟩
 obtain ⟨g, cs, e, hg, hc⟩ := h.2 (by omega)
 refine ⟨g, cs, e, hg, fun j hj => ?_⟩
 have e2 : dg (l.take k) j = dg l j := by
  unfold dg
  rw [List.getD_eq_getElem?_getD, List.getD_eq_getElem?_getD, List.getElem?_take, if_pos hj]
 rw [e2]
 exact hc j (by omega)
theorem Dig.of_own {base : Nat} {c : Nat} {A : Option Addr} (h : w.ownsRow base E 1 (.slice A n c) n (digV K l)) : Dig w K E A n l := by
 have hl : l.length = n := by have := h.1; rw [digV_length] at this; omega
 refine ⟨hl, fun h0 => ?_⟩
 rcases h.2 with ⟨hv, hn⟩ | ⟨g, cap, cur, hv, _, hh, _, _, _, ht⟩
 ·omega
 ·injection hv with hA _ hcap
  subst hA
  refine ⟨g, cur, rfl, hh, fun j hj => ?_⟩
  have := digV_get K (l := l) (k := j) (by omega)
  rw [<- ht, List.getElem?_take, if_pos (by omega)] at this
  simpa using this
theorem own_cap {base : Nat} {e : TypeId} {size c : Nat} {A : Option Addr} {xs : List Value} (h : w.ownsRow base e size (.slice A n c) n xs) : n <= c /\ c <= maxLen := by
 rcases h.2 with ⟨hv, hn⟩ | ⟨g, cap, cur, hv, _, _, h1, h2, _⟩
 ·injection hv with _ _ hc
  subst hc; subst hn
  exact ⟨Nat.le_refl _, by unfold maxLen; omega⟩
 ·injection hv with _ _ hc
  subst hc
  exact ⟨h1, h2⟩
theorem own_slice {base : Nat} {e : TypeId} {size : Nat} {v : Value} {xs : List Value} (h : w.ownsRow base e size v n xs) : ∃ A c, v = .slice A n c := by
 rcases h.2 with ⟨hv, hn⟩ | ⟨g, cap, cur, hv, _⟩
 ·subst hn; exact ⟨_, _, hv⟩
 ·exact ⟨_, _, hv⟩
end
def B32 : Nat := 4294967296
def sg (neg : Bool) (n : Nat) : Int := if neg then -(n : Int) else n
def Big (K : IntKind) (E : TypeId) (b : Nat) (w : World) (s : Bool) (A : Option Addr) (n c : Nat) (z : Int) : Prop :=
 ∃ l, Dig w K E A n l /\ n <= c /\ c <= maxLen /\ Digs b l /\ Norm l /\ (s = true -> l ≠ []) /\ z = sg s (val b l)
section
variable {K : IntKind} {E : TypeId} {b : Nat} {w w' : World} {s : Bool} {A : Option Addr} {n c : Nat} {z : Int}
theorem Big.below (h : Big K E b w s A n c z) (hb : Below w.heap.size w w') : Big K E b w' s A n c z := by
 obtain ⟨l, hd, r⟩ := h
 exact ⟨l, hd.below hb, r⟩
theorem Big.drew (h : Big K E b w s A n c z) : Big K E b w.drew s A n c z := h
theorem Big.alloc (h : Big K E b w s A n c z) (o : Obj) : Big K E b (w.alloc o) s A n c z := by
 obtain ⟨l, hd, r⟩ := h
 exact ⟨l, hd.alloc o, r⟩
theorem Big.far (h : Big K E b w s A n c z) {g i : Nat} {cs : Array Value} {T : TypeId} {f : Nat × Nat} (hB : w.heap[g]? = some (.cells cs T f)) (hne : E ≠ T) (u : Value) : Big K E b (w.setCell ⟨g, i, none⟩ u) s A n c z := by
 obtain ⟨l, hd, r⟩ := h
 exact ⟨l, hd.far hB hne u, r⟩
theorem Big.box2 (h : Big K E b w s A n c z) {g : Nat} {cs : Array Value} {T : TypeId} (hB : w.heap[g]? = some (.cells cs T (0, 0))) (hne : E ≠ T) (u v : Value) :
  Big K E b ((w.setCell ⟨g, 0, none⟩ u).setCell ⟨g, 1, none⟩ v) s A n c z := (h.far hB hne u).far (heap_set hB 0 u) hne v
end
def Makes (K : IntKind) (E : TypeId) (b : Nat) (w : World) (z : Int) (e : Ending) (w' : World) : Prop :=
 ∃ s A n c, e = .returned (.agg #[.bool s, .slice A n c]) /\ Big K E b w' s A n c z /\ Below w.heap.size w w'
theorem below_then {B : Nat} {w W w1 : World} (hb : Below W.heap.size W w1) (h : Below B w W) (hB : B <= W.heap.size) : Below B w w1 := h.trans (hb.mono hB)
theorem bcell {W w1 : World} (hb : Below W.heap.size W w1) : (∀ b o, b < W.heap.size -> w1.cell? ⟨b, o, none⟩ = W.cell? ⟨b, o, none⟩) /\ (∀ b o, b < W.heap.size -> w1.frozen? ⟨b, o, none⟩ = W.frozen? ⟨b, o, none⟩) :=
 ⟨fun b o h => hb.cell (p := ⟨b, o, none⟩) h, fun b o h => hb.frozen (p := ⟨b, o, none⟩) h⟩
theorem sg_natAbs (neg : Bool) (n : Nat) : (sg neg n).natAbs = n := by unfold sg; split <;> omega
theorem len_of_lt {b : Nat} {l : List Nat} {neg : Bool} {K : Nat} (hb : 1 < b) (hn : Norm l) (h : (sg neg (val b l)).natAbs < b ^ K) : l.length <= K := by
 rw [sg_natAbs] at h
 exact len_le hb hn h
def Small (z : Int) : Prop := z.natAbs < 10 ^ 200
theorem small_len32 {l : List Nat} {neg : Bool} (hn : Norm l) (h : Small (sg neg (val B32 l))) : l.length <= 200 :=
 len_of_lt (K := 200) (by decide) hn (Nat.lt_of_lt_of_le h (Nat.pow_le_pow_left (by decide) _))
theorem own_take {w : World} {base : Nat} {E : TypeId} {K : IntKind} {A : Option Addr} {n c k : Nat} {l : List Nat} (h : w.ownsRow base E 1 (.slice A n c) n (digV K l)) (hk : k <= n) : w.ownsRow base E 1 (.slice A k c) k (digV K (l.take k)) := by
 unfold digV at *
 have hl := h.1
 rw [List.length_map] at hl
 refine ⟨by rw [List.length_map, List.length_take]; omega, ?_⟩
 rcases h.2 with ⟨hv, hn⟩ | ⟨g, cap, cur, hv, hb, hh, h1, h2, h3, h4⟩
 ·injection hv with a1 a2 a3
  subst a1; subst a3
  exact .inl ⟨by rw [show k = 0 by omega], by omega⟩
 ·injection hv with a1 a2 a3
  subst a1; subst a3
  refine .inr ⟨g, c, cur, rfl, hb, hh, by omega, h2, h3, ?_⟩
  rw [List.map_take, <- h4, List.take_take]
  congr 1
  omega
theorem own_mono {w : World} {base base' : Nat} {E : TypeId} {size n : Nat} {v : Value} {xs : List Value} (h : w.ownsRow base E size v n xs) (hb : base' <= base) : w.ownsRow base' E size v n xs := by
 refine ⟨h.1, ?_⟩
 rcases h.2 with hn | ⟨g, cap, cur, hv, hg, r⟩
 ·exact .inl hn
 ·exact .inr ⟨g, cap, cur, hv, Nat.le_trans hb hg, r⟩
theorem own_below {w w' : World} {base : Nat} {E : TypeId} {size n : Nat} {v : Value} {xs : List Value} (h : w.ownsRow base E size v n xs) (hb : Below w.heap.size w w') : w'.ownsRow base E size v n xs := by
 refine ⟨h.1, ?_⟩
 rcases h.2 with hn | ⟨g, cap, cur, hv, hg, hh, r⟩
 ·exact .inl hn
 ·exact .inr ⟨g, cap, cur, hv, hg, heap_below hh hb, r⟩
theorem grown_alloc {w w' : World} {o : Obj} {row : Option Nat} (h : (w.alloc o).grownBy w' row) : w.grownBy w' row :=
 ⟨h.os, h.tape, h.output, Nat.le_trans (by simp) h.size, fun k hk hne => (h.block k (by simp; omega) hne).trans (Below.heap_alloc w o k hk)⟩
theorem one_cell (w : World) (u : Value) (t : TypeId) : ∀ j x, [u][j]? = some x -> (w.alloc (.cells #[u] t)).cell? ((⟨w.heap.size, 0, none⟩ : Addr).add j) = some x := by
 intro j x hj
 match j, hj with
 | 0, hj => simp at hj; subst hj; simp [Addr.add]
theorem wpList_push_fits {P : Program} {w : World} {ops : Array Oper} {rest : List Oper} {o : Oper} {a : Act} {Q : Exit -> Act -> World -> Prop}
  (hg : o.guard = none) (s x : Operand) (t : TypeId) (hop : o.op = Op.call { callee := Callee.builtin Builtin.append, args := #[s, x], argTypes := #[t, t] })
  (base : Nat) (e : TypeId) (i : TypeInfo) (h1 : P.underlying t = some (.slice e)) (h2 : P.info? e = some i) (h4 : i.size = 1)
  (g k cap : Nat) (xs : List Value) (hs : a.eval s = .slice (some ⟨g, 0, none⟩) k cap) (hown : w.ownsRow base e 1 (.slice (some ⟨g, 0, none⟩) k cap) k xs) (u : Value) (hx : a.eval x = .slice (some ⟨w.heap.size, 0, none⟩) 1 1)
  (h1c : u.oneCell' = true) (b1 : k + 1 <= cap)
  (hK : ∀ w', w'.ownsRow base e 1 (.slice (some ⟨g, 0, none⟩) (k + 1) cap) (k + 1) (xs ++ [u]) -> w.grownBy w' (some g) -> wpList P ops Q rest (a.put o.dst (.slice (some ⟨g, 0, none⟩) (k + 1) cap)) w') :
  wpList P ops Q (o :: rest) a (w.alloc (.cells #[u] e)) :=
 wpList_append_fits _ hg s x t hop base e i 1 h1 h2 h4 g k cap xs hs (hown.alloc _) ⟨w.heap.size, 0, none⟩ 1 1 [u] hx rfl (one_cell w u e) (by intro v hv; simp at hv; subst hv; exact h1c) b1 fun w' r1 r2 => hK w' r1 (grown_alloc r2)
theorem wpList_push_own {P : Program} {w : World} {ops : Array Oper} {rest : List Oper} {o : Oper} {a : Act} {Q : Exit -> Act -> World -> Prop}
  (hg : o.guard = none) (s x : Operand) (t : TypeId) (hop : o.op = Op.call { callee := Callee.builtin Builtin.append, args := #[s, x], argTypes := #[t, t] })
  (base : Nat) (e : TypeId) (i : TypeInfo) (z : Value) (bytes : Nat) (h1 : P.underlying t = some (.slice e)) (h2 : P.info? e = some i) (hz : i.zero = some z) (h4 : i.size = 1) (hby : i.bytes = bytes) (hzs : z.cells.size = 1)
  (v : Value) (n : Nat) (xs : List Value) (hs : a.eval s = v) (hown : w.ownsRow base e 1 v n xs) (u : Value) (hx : a.eval x = .slice (some ⟨w.heap.size, 0, none⟩) 1 1)
  (h1c : u.oneCell' = true) (b1 : n + 1 <= maxLen) (b2 : (n + 1) * bytes <= 140737488355328) (hbase : base <= w.heap.size)
  (hK : ∀ A c w', w'.ownsRow base e 1 (.slice A (n + 1) c) (n + 1) (xs ++ [u]) -> w.grownBy w' v.ownBlock -> wpList P ops Q rest (a.put o.dst (.slice A (n + 1) c)) w') :
  wpList P ops Q (o :: rest) a (w.alloc (.cells #[u] e)) :=
 wpList_append_own _ hg s x t hop base e i z 1 bytes h1 h2 hz h4 hby hzs (by omega) v n xs hs (hown.alloc _) ⟨w.heap.size, 0, none⟩ 1 1 [u] hx rfl (one_cell w u e) (by intro v hv; simp at hv; subst hv; exact h1c) b1 b2 (by simp; omega) fun v' w' r1 r2 _ => by
  obtain ⟨A, c, rfl⟩ := own_slice r1
  exact hK A c w' r1 (grown_alloc r2)
theorem dig_two (w : World) {K : IntKind} {X Y : Int} {x y : Nat} {g : Nat} (t : TypeId) (hg : g = w.heap.size) (hx : X = (x : Int)) (hy : Y = (y : Int)) :
  Dig (w.alloc (.cells #[.int K X, .int K Y] t)) K t (some ⟨g, 0, none⟩) 2 [x, y] := by
 subst hx; subst hy; subst hg
 refine ⟨rfl, fun _ => ⟨_, _, rfl, heap_new w _ rfl, fun j hj => ?_⟩⟩
 match j, hj with
 | 0, _ => rfl
 | 1, _ => rfl
theorem limb0 (m : Nat) : (m : Int) % 4294967296 = ((m % B32 : Nat) : Int) := by unfold B32; omega
theorem limb1 {m : Nat} (h : m <= 9223372036854775808) : (m : Int) / 4294967296 % 4294967296 = ((m / B32 : Nat) : Int) := by unfold B32; omega
theorem limb1' (m : Nat) : (m : Int) / 4294967296 = ((m / B32 : Nat) : Int) := by unfold B32; omega
theorem digs_limbs {m : Nat} (h : m <= 9223372036854775808) : Digs B32 [m % B32, m / B32] := by
 intro d hd
 unfold B32 at *
 simp at hd
 omega
theorem val_two {b x y : Nat} : val b [x, y] = x + b * y := by simp [val]
theorem val_limbs (m : Nat) : val B32 [m % B32, m / B32] = m := by rw [val_two, Nat.mod_add_div]
end Go.Proofs.YtbnjejenejoibaaGreatDoor
