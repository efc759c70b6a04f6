
/- Plain: how rows with keys differ; the one way is the other way's mirror. -/
import Derived.Test.YthjlleifpnpfgaaGreatDoorY1
import Derived.Test.YthjlleifpnpfgaaGreatDoorDFC
namespace Go.Proofs.YthjlleifpnpfgaaGreatDoor
open Go.RowKit Limb Nmb Work
set_option linter.unusedVariables false
set_option linter.unusedSimpArgs false
def idR (f : Fmt) (name : ByteArray) (r : RowP) : Option KeyP :=
 if ixF (nameIs name) (katK f r.tag).fields < 0 ∨ wd r.vals (ixF (nameIs name) (katK f r.tag).fields).toNat = ⟨#[]⟩ then none
 else some ⟨r.tag, wd r.vals (ixF (nameIs name) (katK f r.tag).fields).toNat⟩
def idsF (f : Fmt) (name : ByteArray) (l : List RowP) : List (KeyP × RowP) := l.filterMap fun r => (idR f name r).map fun k => (k, r)
def keysL (m : List (KeyP × RowP)) : List KeyP := m.map (·.1)
def oneB (m : List (KeyP × RowP)) : Bool := decide (keysL m).Nodup
def lookK (m : List (KeyP × RowP)) (k : KeyP) : Option RowP := (m.find? fun x => decide (x.1 = k)).map (·.2)
def bothK (a b : List (KeyP × RowP)) : List KeyP := keysL a ++ (keysL b).filter fun k => decide (k ∉ keysL a)
theorem both_mem {a b : List (KeyP × RowP)} {k : KeyP} : k ∈ bothK a b ↔ k ∈ keysL a ∨ k ∈ keysL b := by
 unfold bothK
 rw [List.mem_append, List.mem_filter, decide_eq_true_eq]
 by_cases h : k ∈ keysL a <;> simp [h]
theorem both_nodup {a b : List (KeyP × RowP)} (ha : oneB a = true) (hb : oneB b = true) : (bothK a b).Nodup := by
 unfold bothK
 rw [List.nodup_append]
 refine ⟨of_decide_eq_true ha, (of_decide_eq_true hb).filter _, fun x hx y hy e => ?_⟩
 subst e
 rw [List.mem_filter, decide_eq_true_eq] at hy
 exact hy.2 hx
theorem both_comm {a b : List (KeyP × RowP)} (ha : oneB a = true) (hb : oneB b = true) : srtK (bothK a b) = srtK (bothK b a) :=
 srtK_perm ((List.perm_ext_iff_of_nodup (both_nodup ha hb) (both_nodup hb ha)).2 fun k => by rw [both_mem, both_mem, or_comm])
structure ChgP where
 tag : ByteArray
 key : ByteArray
 kind : Int
 col : ByteArray
deriving DecidableEq
def othL (k : KeyP) (cs : List Col) (r s : List ByteArray) : Nat -> List ChgP
 | 0 => []
 | i + 1 => othL k cs r s i ++ (if wd r i = wd s i then [] else [⟨k.tag, k.key, 3, (cA cs i).name⟩])
def chgK (f : Fmt) (a b : List (KeyP × RowP)) (k : KeyP) : List ChgP :=
 match lookK a k, lookK b k with
 | _, none => [⟨k.tag, k.key, 1, ⟨#[]⟩⟩]
 | none, some _ => [⟨k.tag, k.key, 2, ⟨#[]⟩⟩]
 | some r, some s => othL k (katK f k.tag).fields r.vals s.vals (katK f k.tag).fields.length
noncomputable def diffE (f : Fmt) (a b : List RowP) (name : ByteArray) : Int :=
 if checkF f ≠ 0 then checkF f
 else if 2000 < a.length ∨ 2000 < b.length then 2
 else if (rowsF f a).2 ≠ 0 then (rowsF f a).2
 else if (rowsF f b).2 ≠ 0 then (rowsF f b).2
 else if (f.kinds.any fun k => decide (0 <= ixF (nameIs name) k.fields)) = false then 5
 else if oneB (idsF f name a) = false ∨ oneB (idsF f name b) = false then 7
 else 0
noncomputable def diffL (f : Fmt) (a b : List RowP) (name : ByteArray) : List ChgP :=
 if diffE f a b name ≠ 0 then [] else (srtK (bothK (idsF f name a) (idsF f name b))).flatMap (chgK f (idsF f name a) (idsF f name b))
def flipC (x : ChgP) : ChgP := ⟨x.tag, x.key, if x.kind = 1 then 2 else if x.kind = 2 then 1 else x.kind, x.col⟩
theorem diffE_comm (f : Fmt) (a b : List RowP) (name : ByteArray) : diffE f a b name = 0 ↔ diffE f b a name = 0 := by
 unfold diffE
 by_cases h1 : checkF f = 0 <;> by_cases h2 : 2000 < a.length <;> by_cases h3 : 2000 < b.length <;> by_cases h4 : (rowsF f a).2 = 0 <;> by_cases h5 : (rowsF f b).2 = 0 <;>
  cases h6 : (f.kinds.any fun k => decide (0 <= ixF (nameIs name) k.fields)) <;> cases h7 : oneB (idsF f name a) <;> cases h8 : oneB (idsF f name b) <;> simp [h1, h2, h3, h4, h5]
theorem diffE_ok {f : Fmt} {a b : List RowP} {name : ByteArray} (h : diffE f a b name = 0) : oneB (idsF f name a) = true /\ oneB (idsF f name b) = true := by
 unfold diffE at h
 split at h; · rename_i k; exact absurd h k
 split at h; · cases h
 split at h; · rename_i k; exact absurd h k
 split at h; · rename_i k; exact absurd h k
 split at h; · cases h
 split at h; · cases h
 rename_i k
 cases ha : oneB (idsF f name a) <;> cases hb : oneB (idsF f name b) <;> simp_all
theorem oth_flip (k : KeyP) (cs : List Col) (r s : List ByteArray) : ∀ i, (othL k cs r s i).map flipC = othL k cs s r i
 | 0 => rfl
 | i + 1 => by
  unfold othL
  rw [List.map_append, oth_flip k cs r s i]
  congr 1
  by_cases h : wd r i = wd s i
  ·rw [if_pos h, if_pos h.symm]; rfl
  ·rw [if_neg h, if_neg (fun e => h e.symm)]; rfl
theorem look_none {m : List (KeyP × RowP)} {k : KeyP} : lookK m k = none ↔ k ∉ keysL m := by
 unfold lookK keysL
 rw [Option.map_eq_none_iff, List.find?_eq_none]
 constructor
 ·intro h hm
  obtain ⟨x, hx, e⟩ := List.mem_map.1 hm
  exact h x hx (decide_eq_true e)
 ·intro h x hx e
  exact h (List.mem_map.2 ⟨x, hx, of_decide_eq_true e⟩)
theorem chg_flip (f : Fmt) (a b : List (KeyP × RowP)) {k : KeyP} (hk : k ∈ keysL a ∨ k ∈ keysL b) : (chgK f a b k).map flipC = chgK f b a k := by
 unfold chgK
 cases ha : lookK a k with
 | none =>
  cases hb : lookK b k with
  | none => rcases hk with h | h
            · exact absurd h (look_none.1 ha)
            · exact absurd h (look_none.1 hb)
  | some s => rfl
 | some r =>
  cases hb : lookK b k with
  | none => rfl
  | some s => exact oth_flip _ _ _ _ _
theorem flatMap_congr_mem {α β : Type} {l : List α} {g h : α -> List β} (e : ∀ x ∈ l, g x = h x) : l.flatMap g = l.flatMap h := by
 induction l with
 | nil => rfl
 | cons x l ih =>
  rw [List.flatMap_cons, List.flatMap_cons, e x (.head _), ih fun y hy => e y (.tail _ hy)]
theorem diff_flip (f : Fmt) (a b : List RowP) (name : ByteArray) : (diffL f a b name).map flipC = diffL f b a name := by
 unfold diffL
 by_cases h : diffE f a b name = 0
 ·rw [if_neg (fun k => k h), if_neg (fun k => k ((diffE_comm f a b name).1 h))]
  obtain ⟨ha, hb⟩ := diffE_ok h
  rw [List.map_flatMap, both_comm ha hb]
  refine flatMap_congr_mem fun k hk => chg_flip f _ _ ?_
  have h1 : k ∈ bothK (idsF f name b) (idsF f name a) := (List.mergeSort_perm _ _).mem_iff.1 hk
  exact (both_mem.1 h1).symm
 ·rw [if_pos h, if_pos (fun k => h ((diffE_comm f a b name).2 k))]
  rfl
end Go.Proofs.YthjlleifpnpfgaaGreatDoor
