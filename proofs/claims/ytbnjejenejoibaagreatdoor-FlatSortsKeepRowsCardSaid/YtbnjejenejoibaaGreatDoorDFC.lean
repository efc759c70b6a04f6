/- Plain: keys of a tag and a key, in order. Maps by a tag with a key: what such a key reads as; a map that holds values as they are. -/
import Derived.Test.YtbnjejenejoibaaGreatDoorS1
import Derived.Sort.LotA
import Derived.Maps.OwnSet
import Derived.Maps.Range
import Derived.Maps.RangeWalk
import Derived.DeepKeys5
-- merged: DF0 DFB DFC
namespace Go.Proofs.YtbnjejenejoibaaGreatDoor
open Go.RowKit
set_option linter.unusedVariables false
set_option linter.unusedSimpArgs false
structure KeyP where
 tag : ByteArray
 key : ByteArray
deriving DecidableEq
instance : Inhabited KeyP := ⟨⟨⟨#[]⟩, ⟨#[]⟩⟩⟩
theorem KeyP.eq_of {x y : KeyP} (h1 : x.tag.data.toList = y.tag.data.toList) (h2 : x.key.data.toList = y.key.data.toList) : x = y := by
 obtain ⟨⟨⟨a⟩⟩, ⟨⟨b⟩⟩⟩ := x
 obtain ⟨⟨⟨c⟩⟩, ⟨⟨d⟩⟩⟩ := y
 simp at h1 h2
 subst h1 h2
 rfl
def cfK (x y : KeyP) : Int := if Lib.compareBytes x.tag.data.toList y.tag.data.toList ≠ 0 then Lib.compareBytes x.tag.data.toList y.tag.data.toList else Lib.compareBytes x.key.data.toList y.key.data.toList
def ltK (x y : KeyP) : Bool := decide (cfK x y < 0)
theorem cfK_neg (x y : KeyP) : cfK x y = - cfK y x := by
 unfold cfK
 have h1 := cb_neg (a := x.tag.data.toList) (b := y.tag.data.toList)
 have h2 := cb_neg (a := x.key.data.toList) (b := y.key.data.toList)
 by_cases h : Lib.compareBytes x.tag.data.toList y.tag.data.toList = 0
 ·rw [if_neg (fun k => k h), if_neg (fun k => k (by omega))]
  exact h2
 ·rw [if_pos h, if_pos (by omega)]
  exact h1
theorem cfK_zero {x y : KeyP} (h : cfK x y = 0) : x = y := by
 unfold cfK at h
 split at h
 ·rename_i h1; exact absurd h h1
 ·rename_i h1
  exact KeyP.eq_of (cb_eq (Classical.byContradiction h1)) (cb_eq h)
theorem cfK_self (x : KeyP) : cfK x x = 0 := by
 have := cfK_neg x x
 omega
theorem cfK_trans {x y z : KeyP} (h1 : cfK x y < 0) (h2 : cfK y z < 0) : cfK x z < 0 := by
 have tr {a b c : List UInt8} := cb_trans (a := a) (b := b) (c := c)
 unfold cfK at h1 h2 ⊢
 by_cases a : Lib.compareBytes x.tag.data.toList y.tag.data.toList = 0
 ·rw [if_neg (fun k => k a)] at h1
  have e := cb_eq a
  rw [e]
  by_cases b : Lib.compareBytes y.tag.data.toList z.tag.data.toList = 0
  ·rw [if_neg (fun k => k b)] at h2 ⊢
   exact tr h1 h2
  ·rw [if_pos b] at h2 ⊢
   exact h2
 ·rw [if_pos a] at h1
  by_cases b : Lib.compareBytes y.tag.data.toList z.tag.data.toList = 0
  ·rw [<- cb_eq b, if_pos a]
   exact h1
  ·rw [if_pos b] at h2
   have h3 := tr h1 h2
   rw [if_pos (by omega)]
   exact h3
theorem ltK_irr (x : KeyP) : ltK x x = false := decide_eq_false (by rw [cfK_self]; decide)
theorem ltK_tr (x y z : KeyP) (h1 : ltK x y = true) (h2 : ltK y z = true) : ltK x z = true := decide_eq_true (cfK_trans (of_decide_eq_true h1) (of_decide_eq_true h2))
theorem ltK_anti {x y : KeyP} (h1 : ltK x y = false) (h2 : ltK y x = false) : x = y := by
 have h3 := of_decide_eq_false h1
 have h4 := of_decide_eq_false h2
 have h5 := cfK_neg x y
 exact cfK_zero (by omega)
theorem ltK_ntr (x y z : KeyP) (h1 : ltK x y = false) (h2 : ltK y z = false) : ltK x z = false := by
 cases h3 : ltK x z with
 | false => rfl
 | true =>
  cases h4 : ltK y x with
  | true => exact absurd (ltK_tr y x z h4 h3) (by rw [h2]; decide)
  | false =>
   have := ltK_anti h1 h4
   subst this
   rw [h2] at h3; cases h3
def srtK (l : List KeyP) : List KeyP := l.mergeSort fun x y => !ltK y x
theorem srtK_perm {l l' : List KeyP} (h : l.Perm l') : srtK l = srtK l' := by
 have tr : ∀ a b c : KeyP, (!ltK b a) = true -> (!ltK c b) = true -> (!ltK c a) = true := fun a b c h1 h2 => by
  simp only [Bool.not_eq_true'] at *
  exact ltK_ntr c b a h2 h1
 have tot : ∀ a b : KeyP, ((!ltK b a) || (!ltK a b)) = true := fun a b => by
  cases h1 : ltK b a with
  | false => rfl
  | true =>
   cases h2 : ltK a b with
   | false => rfl
   | true =>
    have := ltK_tr a b a h2 h1
    rw [ltK_irr] at this
    cases this
 refine List.Perm.eq_of_pairwise (le := fun a b => (!ltK b a) = true) (fun a b _ _ h1 h2 => ?_) (List.pairwise_mergeSort tr tot l) (List.pairwise_mergeSort tr tot l') (((List.mergeSort_perm l _).trans h).trans (List.mergeSort_perm l' _).symm)
 simp only [Bool.not_eq_true'] at h1 h2
 exact ltK_anti h2 h1
end Go.Proofs.YtbnjejenejoibaaGreatDoor
namespace Go.Proofs.YtbnjejenejoibaaGreatDoor
open Go.RowKit Go.Maps
set_option linter.unusedVariables false
set_option linter.unusedSimpArgs false
def keyV (k : KeyP) : Value := .agg #[.string k.tag, .string k.key]
def litK (k : KeyP) : Lit := .string (keyBytes [.string k.tag.data.toList, .string k.key.data.toList])
def KeyZ (k : KeyP) : Prop := k.tag.size <= maxLen /\ k.key.size <= maxLen
theorem keyV_inj {x y : KeyP} (h : keyV x = keyV y) : x = y := by
 unfold keyV at h
 obtain ⟨a, b⟩ := x
 obtain ⟨c, d⟩ := y
 simp at h
 obtain ⟨rfl, rfl⟩ := h
 rfl
theorem keyOf_kk {P : Program} {T : TypeId} {f0 f1 : Field} (ht : P.underlying T = some (.struct #[f0, f1])) (hk : P.keyType T = true) (hz : 0 < P.types.size) (hc : P.cellsOf T = 2) (h0 : P.underlying f0.type = some .string) (h1 : P.underlying f1.type = some .string)
  (c0 : P.cellsOf f0.type = 1) (c1 : P.cellsOf f1.type = 1) (o0 : f0.offset = 0) (o1 : f1.offset = 1) (n0 : (f0.name != "_") = true) (n1 : (f1.name != "_") = true) {v : Value} {l : Lit} :
  keyOf P T v = some l ↔ ∃ k : KeyP, v = keyV k /\ KeyZ k /\ l = litK k := by
 obtain ⟨d, hd⟩ : ∃ d, P.types.size = d + 1 := ⟨P.types.size - 1, by omega⟩
 have key : ∀ a b : Value, P.keyLits (d + 1 + 1) T [a, b] = (match a, b with | .string s, .string t => if s.size <= maxLen then (if t.size <= maxLen then some [.string s.data.toList, .string t.data.toList] else none) else none | _, _ => none) := by
  intro a b
  unfold Program.keyLits
  rw [ht]
  simp only [List.length_cons, List.length_nil, hc]
  have e0 : ∀ x : Value, P.keyLits (d + 1) f0.type [x] = (match x with | .string s => if s.size <= maxLen then some [.string s.data.toList] else none | _ => none) := fun x => by
   unfold Program.keyLits
   rw [h0]
   cases x <;> rfl
  have e1 : ∀ x : Value, P.keyLits (d + 1) f1.type [x] = (match x with | .string s => if s.size <= maxLen then some [.string s.data.toList] else none | _ => none) := fun x => by
   unfold Program.keyLits
   rw [h1]
   cases x <;> rfl
  have hn : (#[f0, f1].all (·.name != "_")) = true := by simp [n0, n1] <;> simp_all
  rw [if_pos (by first | exact ⟨rfl, hn⟩ | exact ⟨trivial, hn⟩ | simpa using hn)]
  simp only [List.mapM_cons, List.mapM_nil, o0, o1, c0, c1, List.drop_zero, List.take_succ_cons, List.take_zero, List.drop_succ_cons, e0, e1]
  cases a <;> cases b <;> simp <;> split <;> simp <;> split <;> simp
 unfold keyOf
 rw [ht]
 simp only [hk, Bool.true_and]
 constructor
 ·intro h
  cases v with
  | agg cs =>
   split at h
   ·rename_i hf
    unfold Value.formed at hf
    rw [ht, hc] at hf
    have h2 : cs.toList.length = 2 := by simpa using hf
    obtain ⟨L⟩ := cs
    match L, h2 with
    | [a, b], _ =>
     rw [hd] at h
     simp only [Value.cells] at h
     rw [key] at h
     cases a <;> cases b <;> simp at h
     obtain ⟨x, ⟨q1, q2, rfl⟩, rfl⟩ := h
     exact ⟨⟨_, _⟩, rfl, ⟨q1, q2⟩, rfl⟩
   ·cases h
  | _ => simp [Value.formed, ht] at h
 ·rintro ⟨k, rfl, ⟨z0, z1⟩, rfl⟩
  have hf : (keyV k).formed P T = true := by
   unfold keyV Value.formed
   rw [ht, hc]
   rfl
  rw [if_pos hf, hd]
  show (P.keyLits (d + 1 + 1) T [.string k.tag, .string k.key]).map _ = _
  rw [key]
  simp only [z0, z1, if_true]
  rfl
def rowE (r : ByteArray × Option Addr × Nat × Nat) : Value := .agg #[.string r.1, .slice r.2.1 r.2.2.1 r.2.2.2]
open Classical in
noncomputable def heldE (v : Value) : Option (DataW Value × List MemPlace) := if ∃ r, v = rowE r then some (.held v, []) else none
theorem heldE_mk (r : ByteArray × Option Addr × Nat × Nat) : heldE (rowE r) = some (.held (rowE r), []) := if_pos ⟨r, rfl⟩
theorem heldE_out {v : Value} {y : DataW Value × List MemPlace} (h : heldE v = some y) : y = (.held v, []) /\ ∃ r, v = rowE r := by
 unfold heldE at h
 split at h
 ·rename_i k
  cases h
  exact ⟨rfl, k⟩
 ·cases h
def lookV (m : List (KeyP × Value)) (k : KeyP) : Option Value := (m.find? fun x => decide (x.1 = k)).map (·.2)
theorem lookV_app {m : List (KeyP × Value)} {k x : KeyP} {v : Value} (h : lookV m k = none) : lookV (m ++ [(k, v)]) x = if x = k then some v else lookV m x := by
 unfold lookV at h ⊢
 rw [List.find?_append]
 by_cases e : x = k
 ·subst e
  rw [if_pos rfl]
  rw [Option.map_eq_none_iff] at h
  rw [h]
  simp
 ·rw [if_neg e]
  cases hx : m.find? (fun y => decide (y.1 = x)) with
  | some y => rfl
  | none =>
   have : ¬ k = x := fun k' => e k'.symm
   simp [this]
theorem lookV_none {m : List (KeyP × Value)} {k : KeyP} : lookV m k = none ↔ k ∉ m.map (·.1) := by
 unfold lookV
 rw [Option.map_eq_none_iff, List.find?_eq_none]
 constructor
 ·intro h hm
  obtain ⟨x, hx, e⟩ := List.mem_map.1 hm
  exact h x hx (decide_eq_true e)
 ·intro h x hx e
  exact h (List.mem_map.2 ⟨x, hx, of_decide_eq_true e⟩)
def KeysK (P : Program) (T : TypeId) : Prop := Keyed P T /\ ∀ (v : Value) (l : Lit), keyOf P T v = some l ↔ ∃ k : KeyP, v = keyV k /\ KeyZ k /\ l = litK k
theorem KeysK.of {P : Program} {T : TypeId} (h : KeysK P T) {k : KeyP} (hk : KeyZ k) : keyOf P T (keyV k) = some (litK k) := (h.2 _ _).2 ⟨k, rfl, hk, rfl⟩
theorem KeysK.inj {P : Program} {T : TypeId} (h : KeysK P T) {x y : KeyP} (hx : KeyZ x) (hy : KeyZ y) (e : litK x = litK y) : x = y := keyV_inj (h.1.inj (h.of hx) (by rw [e]; exact h.of hy))
theorem KeysK.lit {P : Program} {T : TypeId} (h : KeysK P T) {k : KeyP} (hk : KeyZ k) : WideAt.IsKeyLit (litK k) := h.1.key (h.of hk)
def HoldsL (D : DataW Value) (m : List (KeyP × Value)) : Prop :=
 (∀ k, KeyZ k -> ∀ z, D.atKey (litK k) z = match lookV m k with | some v => .held v | none => z) /\ (∀ l, has D l = true -> ∃ k, k ∈ m.map (·.1) /\ KeyZ k /\ l = litK k) /\ ∀ k ∈ m.map (·.1), KeyZ k
theorem HoldsL.nil : HoldsL (.map []) [] := ⟨fun k _ z => rfl, (fun l h => by cases h), (fun k h => by cases h)⟩
theorem HoldsL.has {D : DataW Value} {m : List (KeyP × Value)} (h : HoldsL D m) {k : KeyP} (hk : KeyZ k) : has D (litK k) = (lookV m k).isSome := by
 have h1 := h.1 k hk
 cases hm : lookV m k with
 | none =>
  rw [hm] at h1
  exact has_false_of_atKey h1
 | some v =>
  rw [hm] at h1
  exact has_true_of_atKey h1
theorem HoldsL.put {P : Program} {T : TypeId} (K : KeysK P T) {D : DataW Value} {m : List (KeyP × Value)} (h : HoldsL D m) (hD : IsMap D) {k : KeyP} (hk : KeyZ k) (hn : lookV m k = none) (v : Value) : HoldsL (D.put (litK k) (.held v)) (m ++ [(k, v)]) := by
 refine ⟨fun x hx z => ?_, fun l hl => ?_, fun x hx => ?_⟩
 ·rw [lookV_app hn]
  by_cases e : x = k
  ·subst e
   rw [if_pos rfl]
   exact atKey_put_same hD (K.lit hk) _ _
  ·rw [if_neg e, atKey_put_other (fun q => e (K.inj hx hk q))]
   exact h.1 x hx z
 ·by_cases e : l = litK k
  ·exact ⟨k, by simp, hk, e⟩
  ·rw [has_put_other e] at hl
   obtain ⟨x, hx, hz, e2⟩ := h.2.1 l hl
   exact ⟨x, by rw [List.map_append]; exact List.mem_append_left _ hx, hz, e2⟩
 ·rw [List.map_append, List.mem_append] at hx
  rcases hx with hx | hx
  ·exact h.2.2 x hx
  ·simp at hx
   subst hx
   exact hk
def MapK (P : Program) (T : TypeId) (w : World) (b n : Nat) (m : List (KeyP × Value)) : Prop := ∃ D, w.ownsMap P T heldE b n D /\ HoldsL D m
theorem MapK.made (P : Program) (T : TypeId) (w : World) : MapK P T (w.alloc (.map #[] 0)) w.heap.size 0 [] := ⟨_, World.ownsMap_made w P T heldE, HoldsL.nil⟩
theorem MapK.kept {P : Program} {T : TypeId} {w w' : World} {b n : Nat} {m : List (KeyP × Value)} {row : Option Nat} (h : MapK P T w b n m) (hg : w.grownBy w' row) (hne : some b ≠ row) : MapK P T w' b n m := by
 obtain ⟨D, h1, h2⟩ := h
 exact ⟨D, h1.kept hg hne, h2⟩
theorem MapK.lt {P : Program} {T : TypeId} {w : World} {b n : Nat} {m : List (KeyP × Value)} (h : MapK P T w b n m) : b < w.heap.size := by
 obtain ⟨D, h1, -⟩ := h
 exact h1.lt
theorem MapK.look {P : Program} {T t e : TypeId} {w : World} {b n : Nat} {m : List (KeyP × Value)} (h : MapK P T w b n m) (K : KeysK P T) (ht : P.underlying t = some (.map T e)) {z : ByteArray × Option Addr × Nat × Nat} (hz : (zeroValue e).run P w = .ok (rowE z) w) {k : KeyP} (hk : KeyZ k) :
  (Instr.lookup t (.map (some b)) (keyV k) true).run P w = .ok (.tuple #[(lookV m k).getD (rowE z), .bool (lookV m k).isSome]) w := by
 obtain ⟨D, h1, h2⟩ := h
 obtain ⟨v, ps, hr, hv⟩ := h1.look_ok K.1 ht hz (zd := .held (rowE z)) (zp := []) (heldE_mk z) (K.of hk)
 rw [hr, h2.has hk]
 have h3 := congrArg Prod.fst (heldE_out hv).1
 simp only at h3
 rw [h2.1 k hk] at h3
 cases hm : lookV m k with
 | none =>
  rw [hm] at h3
  simp at h3
  rw [h3]
  rfl
 | some y =>
  rw [hm] at h3
  simp at h3
  rw [h3]
  rfl
theorem MapK.store {P : Program} {T t e : TypeId} {w : World} {b n : Nat} {m : List (KeyP × Value)} (h : MapK P T w b n m) (K : KeysK P T) (ht : P.underlying t = some (.map T e)) (hn : n < maxLen) {k : KeyP} (hk : KeyZ k) (hm : lookV m k = none) (v : ByteArray × Option Addr × Nat × Nat) :
  ∃ w', (Instr.mapUpdate t (.map (some b)) (keyV k) (rowE v)).run P w = .ok () w' /\ MapK P T w' b (n + 1) (m ++ [(k, rowE v)]) /\ w.mapTurned w' b := by
 obtain ⟨D, h1, h2⟩ := h
 obtain ⟨w', hr, ho, hg⟩ := h1.store K.1 ht hn (val := rowE v) (d := .held (rowE v)) (ps := []) (K.of hk) (heldE_mk v)
 exact ⟨w', hr, ⟨_, ho, h2.put K h1.isMap hk hm _⟩, hg⟩
end Go.Proofs.YtbnjejenejoibaaGreatDoor
