/- What is lost between two formats, plain. The walks of what is lost: the width of a shape, texts, days. An element of k cells is appended to a row of the call's own; a slice of such elements is appended. The walk of shapes: the list of all shapes of numbers. -/
import Derived.Test.YtlabejjgnnlalaaGreatDoorM2
import Derived.Test.YtlabejjgnnlalaaGreatDoorK5
import Derived.Test.YtlabejjgnnlalaaGreatDoorFE
import Derived.Deep.AppendSrc
-- merged: Z0 Z2 ZP Z3
namespace Go.Proofs.YtlabejjgnnlalaaGreatDoor
open Limb Nmb Work
set_option linter.unusedVariables false
set_option linter.unusedSimpArgs false
structure Shp where
  neg : Int
  before : Int
  places : Int
  first : Int
  deriving DecidableEq
structure Loss where
  tag : ByteArray
  name : ByteArray
  kind : Int
  deriving DecidableEq
end Go.Proofs.YtlabejjgnnlalaaGreatDoor
namespace Go.Proofs.YtlabejjgnnlalaaGreatDoor
open Go.RowKit Limb Nmb Work
set_option linter.unusedVariables false
set_option linter.unusedSimpArgs false
theorem zk_cells (w : World) (us : List Value) (t : TypeId) : ∀ j x, us[j]? = some x → (w.alloc (.cells us.toArray t)).cell? ((⟨w.heap.size, 0, none⟩ : Addr).add j) = some x := by
  intro j x hj
  rw [Addr.add_lit, cell_of_row _ _ _ _ _ _ (heap_alloc_new w _)]
  simpa using hj
theorem wpList_zpush {P : Program} {w : World} {ops : Array Oper} {rest : List Oper} {o : Oper} {a : Act} {Q : Exit → Act → World → Prop}
    (hg : o.guard = none) (s x : Operand) (t : TypeId) (hop : o.op = Op.call { callee := Callee.builtin Builtin.append, args := #[s, x], argTypes := #[t, t] })
    (base : Nat) (e : TypeId) (i : TypeInfo) (z : Value) (size bytes : Nat) (h1 : P.underlying t = some (.slice e)) (h2 : P.info? e = some i) (hz : i.zero = some z) (h4 : i.size = size) (hby : i.bytes = bytes) (hzs : z.cells.size = size) (hsz : 0 < size)
    (v : Value) (n : Nat) (xs : List Value) (hs : a.eval s = v) (hown : w.ownsRow base e size v n xs) (us : List Value) (hus : us.length = size) (hx : a.eval x = .slice (some ⟨w.heap.size, 0, none⟩) 1 1)
    (h1c : ∀ u ∈ us, u.oneCell' = true) (b1 : n + 1 ≤ maxLen) (b2 : (n + 1) * bytes ≤ 140737488355328) (hbase : base ≤ w.heap.size)
    (hK : ∀ A c w', w'.ownsRow base e size (.slice A (n + 1) c) (n + 1) (xs ++ us) → w.grownBy w' v.ownBlock → wpList P ops Q rest (a.put o.dst (.slice A (n + 1) c)) w') :
    wpList P ops Q (o :: rest) a (w.alloc (.cells us.toArray e)) :=
  wpList_append_own _ hg s x t hop base e i z size bytes h1 h2 hz h4 hby hzs hsz v n xs hs (hown.alloc _) ⟨w.heap.size, 0, none⟩ 1 1 us hx (by omega) (zk_cells w us e) h1c b1 b2 (by simp; omega) fun v' w' r1 r2 _ => by
    obtain ⟨A, c, rfl⟩ := own_slice r1
    exact hK A c w' r1 (grown_alloc r2)
theorem run_append_nilZ {P : Program} {w : World} {base : Nat} {t ty e : TypeId} {i : TypeInfo} {size n c c' : Nat} {A : Option Addr} {xs : List Value} (ht : P.underlying t = some (.slice e)) (hi : P.info? e = some i) (hs : i.size = size) (hown : w.ownsRow base e size (.slice A n c) n xs) :
    (Builtin.append_ #[t, t] ty #[.slice A n c, .slice none 0 c']).run P w = .ok (.slice A n c) w := by
  have hc := own_cap hown
  cases A with
  | some a =>
    obtain ⟨-, h | ⟨g, cap, cur, hv, -⟩⟩ := hown
    · cases h.1
    · cases hv
      have := run_append_room_src (P := P) w t t ty e i ht hi g 0 n c (.slice none 0 c') 0 [] (Src.ofNil w ht c') (by omega) (fun j hj => by simp at hj) (fun j hj => by simp at hj)
      simpa [World.setCells] using this
  | none =>
    obtain ⟨-, h | ⟨g, cap, cur, hv, -⟩⟩ := hown
    · obtain ⟨h1, h2⟩ := h
      subst h2
      have hn : 0 + 0 ≤ c := Nat.zero_le _
      simp [Builtin.append_, run_underlying ht, sizeOf, typeInfo, hi, (Src.ofNil (P := P) w ht c' : Src P i.size t _ 0 [] w).len, (Src.ofNil (P := P) w ht c' : Src P i.size t _ 0 [] w).cells]
    · cases hv
theorem wpList_zapp {P : Program} {w : World} {ops : Array Oper} {rest : List Oper} {o : Oper} {a : Act} {Q : Exit → Act → World → Prop}
    (hg : o.guard = none) (s x : Operand) (t : TypeId) (hop : o.op = Op.call { callee := Callee.builtin Builtin.append, args := #[s, x], argTypes := #[t, t] })
    (base : Nat) (e : TypeId) (i : TypeInfo) (z : Value) (size bytes : Nat) (h1 : P.underlying t = some (.slice e)) (h2 : P.info? e = some i) (hz : i.zero = some z) (h4 : i.size = size) (hby : i.bytes = bytes) (hzs : z.cells.size = size) (hsz : 0 < size)
    (A : Option Addr) (n c : Nat) (xs : List Value) (hs : a.eval s = .slice A n c) (hown : w.ownsRow base e size (.slice A n c) n xs) (X : Option Addr) (m d : Nat) (news : List Value) (hl : news.length = m * size) (hx : a.eval x = .slice X m d)
    (hsrc : 0 < m → ∃ b off, X = some ⟨b, off, none⟩ ∧ ∀ j u, news[j]? = some u → w.cell? ⟨b, off + j, none⟩ = some u)
    (h1c : ∀ u ∈ news, u.oneCell' = true) (b1 : n + m ≤ maxLen) (b2 : (n + m) * bytes ≤ 140737488355328) (hbase : base ≤ w.heap.size)
    (hK : ∀ A' c' w', w'.ownsRow base e size (.slice A' (n + m) c') (n + m) (xs ++ news) → w.grownBy w' (Value.slice A n c).ownBlock → wpList P ops Q rest (a.put o.dst (.slice A' (n + m) c')) w') :
    wpList P ops Q (o :: rest) a w := by
  cases X with
  | some ad =>
    refine wpList_append_own _ hg s x t hop base e i z size bytes h1 h2 hz h4 hby hzs hsz (.slice A n c) n xs hs hown ad m d news hx hl ?_ h1c b1 b2 hbase fun v' w' r1 r2 _ => ?_
    · rcases Nat.eq_zero_or_pos m with h0 | h0
      · subst h0
        have : news = [] := List.eq_nil_of_length_eq_zero (by omega)
        subst this
        intro j u h; simp at h
      · obtain ⟨b, off, e1, hc⟩ := hsrc h0
        cases e1
        intro j u hj
        rw [Addr.add_lit]
        exact hc j u hj
    · obtain ⟨A', c', rfl⟩ := own_slice r1
      exact hK A' c' w' r1 r2
  | none =>
    have h0 : m = 0 := by
      rcases Nat.eq_zero_or_pos m with h0 | h0
      · exact h0
      · obtain ⟨b, off, e1, -⟩ := hsrc h0
        cases e1
    subst h0
    have hn : news = [] := List.eq_nil_of_length_eq_zero (by omega)
    subst hn
    refine wpList_plain hg fun K hKK => ?_
    have hr := run_append_nilZ (P := P) (w := w) (t := t) (ty := o.type) (c' := d) h1 h2 h4 hown
    unfold Oper.wp execOp
    simp only [hop, resolve, invoke, builtin, Sem.run_bind, Sem.run_pure, Result.andThen_ok, List.map_toArray, List.map_cons, List.map_nil, hs, hx, hr]
    refine hKK _ _ (hK A c w (by simpa using hown) (World.grownBy.refl _ _))
def shpL (s : Shp) : List Value := [.int .i64 s.neg, .int .i64 s.before, .int .i64 s.places, .int .i64 s.first]
def shpC (l : List Shp) : List Value := l.flatMap shpL
theorem shpC_snoc (l : List Shp) (s : Shp) : shpC l ++ shpL s = shpC (l ++ [s]) := by simp [shpC]
def ShpO (w0 wr : World) (A : Option Addr) (n c : Nat) (l : List Shp) : Prop := l.length = n ∧ wr.ownsRow w0.heap.size 182 4 (.slice A n c) n (shpC l) ∧ Below w0.heap.size w0 wr
theorem ShpO.push {w0 wr w' : World} {A A' : Option Addr} {n c c' : Nat} {l l' : List Shp} {s : Shp} (h : ShpO w0 wr A n c l) (ho : w'.ownsRow w0.heap.size 182 4 (.slice A' (n + 1) c') (n + 1) (shpC l ++ shpL s)) (hg : wr.grownBy w' (Value.slice A n c).ownBlock) (hl : l ++ [s] = l') : ShpO w0 w' A' (n + 1) c' l' := by
  subst hl
  refine ⟨by rw [List.length_append, h.1]; rfl, by rw [← shpC_snoc]; exact ho, h.2.2.grown hg h.2.2.size (fun j hj => (h.2.1.lt j hj).1)⟩
def shp0 : Shp := ⟨0, 0, 0, 0⟩
def sA (l : List Shp) (j : Nat) : Shp := l.getD j shp0
def shpV (l : List Shp) (j i : Nat) : Value :=
  match i with
  | 0 => .int .i64 (sA l j).neg
  | 1 => .int .i64 (sA l j).before
  | 2 => .int .i64 (sA l j).places
  | _ => .int .i64 (sA l j).first
def Shps (w : World) (A : Option Addr) (l : List Shp) : Prop := Rws w A 4 l.length (shpV l)
theorem Shps.below {w w' : World} {A : Option Addr} {l : List Shp} (h : Shps w A l) (hb : Below w.heap.size w w') : Shps w' A l := Rws.below h hb
end Go.Proofs.YtlabejjgnnlalaaGreatDoor
