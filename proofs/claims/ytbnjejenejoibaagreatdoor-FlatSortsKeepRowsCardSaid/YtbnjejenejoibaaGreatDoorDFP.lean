/- Plain: how rows with keys differ; the one way is the other way's mirror. Plain: rows by tag and key, with their places. -/
import Derived.Test.YtbnjejenejoibaaGreatDoorSQU
import Derived.Test.YtbnjejenejoibaaGreatDoorDFC
import Derived.Test.YtbnjejenejoibaaGreatDoorT3
import Derived.Test.YtbnjejenejoibaaGreatDoorZ4
-- merged: DFA DFK DFP
namespace Go.Proofs.YtbnjejenejoibaaGreatDoor
open Go.RowKit Limb Nmb Work
set_option linter.unusedVariables false
set_option linter.unusedSimpArgs false
def idR (f : Fmt) (name : ByteArray) (r : RowP) : Option KeyP :=
 if ixF (nameIs name) (katK f r.tag).fields < 0 ∨ wd r.vals (ixF (nameIs name) (katK f r.tag).fields).toNat = ⟨#[]⟩ then none
 else some ⟨r.tag, wd r.vals (ixF (nameIs name) (katK f r.tag).fields).toNat⟩
def idsF (f : Fmt) (name : ByteArray) (l : List RowP) : List (KeyP × RowP) := l.filterMap fun r => (idR f name r).map fun k => (k, r)
def keysL (m : List (KeyP × RowP)) : List KeyP := m.map (·.1)
def oneB (m : List (KeyP × RowP)) : Bool := decide (keysL m).Nodup
def lookK (m : List (KeyP × RowP)) (k : KeyP) : Option RowP := (m.find? fun x => decide (x.1 = k)).map (·.2)
def bothK (a b : List (KeyP × RowP)) : List KeyP := keysL a ++ (keysL b).filter fun k => decide (k ∉ keysL a)
theorem both_mem {a b : List (KeyP × RowP)} {k : KeyP} : k ∈ bothK a b ↔ k ∈ keysL a ∨ k ∈ keysL b := by
 unfold bothK
 rw [List.mem_append, List.mem_filter, decide_eq_true_eq]
 by_cases h : k ∈ keysL a <;> simp [h]
theorem both_nodup {a b : List (KeyP × RowP)} (ha : oneB a = true) (hb : oneB b = true) : (bothK a b).Nodup := by
 unfold bothK
 rw [List.nodup_append]
 refine ⟨of_decide_eq_true ha, (of_decide_eq_true hb).filter _, fun x hx y hy e => ?_⟩
 subst e
 rw [List.mem_filter, decide_eq_true_eq] at hy
 exact hy.2 hx
structure ChgP where
 tag : ByteArray
 key : ByteArray
 kind : Int
 col : ByteArray
deriving DecidableEq
def othL (k : KeyP) (cs : List Col) (r s : List ByteArray) : Nat -> List ChgP
 | 0 => []
 | i + 1 => othL k cs r s i ++ (if wd r i = wd s i then [] else [⟨k.tag, k.key, 3, (cA cs i).name⟩])
def chgK (f : Fmt) (a b : List (KeyP × RowP)) (k : KeyP) : List ChgP :=
 match lookK a k, lookK b k with
 | _, none => [⟨k.tag, k.key, 1, ⟨#[]⟩⟩]
 | none, some _ => [⟨k.tag, k.key, 2, ⟨#[]⟩⟩]
 | some r, some s => othL k (katK f k.tag).fields r.vals s.vals (katK f k.tag).fields.length
noncomputable def diffE (f : Fmt) (a b : List RowP) (name : ByteArray) : Int :=
 if checkF f ≠ 0 then checkF f
 else if 2000 < a.length ∨ 2000 < b.length then 2
 else if (rowsF f a).2 ≠ 0 then (rowsF f a).2
 else if (rowsF f b).2 ≠ 0 then (rowsF f b).2
 else if (f.kinds.any fun k => decide (0 <= ixF (nameIs name) k.fields)) = false then 5
 else if oneB (idsF f name a) = false ∨ oneB (idsF f name b) = false then 7
 else 0
noncomputable def diffL (f : Fmt) (a b : List RowP) (name : ByteArray) : List ChgP :=
 if diffE f a b name ≠ 0 then [] else (srtK (bothK (idsF f name a) (idsF f name b))).flatMap (chgK f (idsF f name a) (idsF f name b))
theorem diffE_ok {f : Fmt} {a b : List RowP} {name : ByteArray} (h : diffE f a b name = 0) : oneB (idsF f name a) = true /\ oneB (idsF f name b) = true := by
 unfold diffE at h
 split at h; · rename_i k; exact absurd h k
 split at h; · cases h
 split at h; · rename_i k; exact absurd h k
 split at h; · rename_i k; exact absurd h k
 split at h; · cases h
 split at h; · cases h
 rename_i k
 cases ha : oneB (idsF f name a) <;> cases hb : oneB (idsF f name b) <;> simp_all
def idxI (f : Fmt) (name : ByteArray) (rs : List RowP) : Nat -> List (KeyP × Nat)
 | 0 => []
 | j + 1 => idxI f name rs j ++ (match idR f name (rA rs j) with | none => [] | some k => [(k, j)])
theorem idxI_none {f : Fmt} {name : ByteArray} {rs : List RowP} {j : Nat} (h : idR f name (rA rs j) = none) : idxI f name rs (j + 1) = idxI f name rs j := by
 show idxI f name rs j ++ _ = _
 rw [h]; exact List.append_nil _
theorem idxI_some {f : Fmt} {name : ByteArray} {rs : List RowP} {j : Nat} {k : KeyP} (h : idR f name (rA rs j) = some k) : idxI f name rs (j + 1) = idxI f name rs j ++ [(k, j)] := by
 show idxI f name rs j ++ _ = _
 rw [h]
theorem idxI_len (f : Fmt) (name : ByteArray) (rs : List RowP) : ∀ j, (idxI f name rs j).length <= j
 | 0 => Nat.le_refl _
 | j + 1 => by
  have := idxI_len f name rs j
  cases h : idR f name (rA rs j) with
  | none => rw [idxI_none h]; omega
  | some k => rw [idxI_some h, List.length_append]; simp; omega
theorem idxI_lt (f : Fmt) (name : ByteArray) (rs : List RowP) : ∀ j, ∀ x ∈ idxI f name rs j, x.2 < j /\ idR f name (rA rs x.2) = some x.1
 | 0, x, h => by cases h
 | j + 1, x, h => by
  cases hk : idR f name (rA rs j) with
  | none =>
   rw [idxI_none hk] at h
   have := idxI_lt f name rs j x h
   exact ⟨by omega, this.2⟩
  | some k =>
   rw [idxI_some hk] at h
   rcases List.mem_append.1 h with h | h
   ·have := idxI_lt f name rs j x h
    exact ⟨by omega, this.2⟩
   ·simp at h
    subst h
    exact ⟨Nat.lt_succ_self _, hk⟩
theorem idxI_ids (f : Fmt) (name : ByteArray) (rs : List RowP) : ∀ j, j <= rs.length -> (idxI f name rs j).map (fun x => (x.1, rA rs x.2)) = idsF f name (rs.take j)
 | 0, _ => rfl
 | j + 1, h => by
  have hj : j < rs.length := h
  have ih := idxI_ids f name rs j (by omega)
  unfold idsF at ih ⊢
  rw [List.take_add_one, List.getElem?_eq_getElem hj, rA_get hj, List.filterMap_append, <- ih]
  cases hk : idR f name (rA rs j) with
  | none => rw [idxI_none hk]; simp [hk]
  | some k => rw [idxI_some hk]; simp [hk]
theorem idxI_all (f : Fmt) (name : ByteArray) (rs : List RowP) : (idxI f name rs rs.length).map (fun x => (x.1, rA rs x.2)) = idsF f name rs := by
 rw [idxI_ids f name rs rs.length (Nat.le_refl _), List.take_length]
theorem idxI_keys (f : Fmt) (name : ByteArray) (rs : List RowP) : (idxI f name rs rs.length).map (·.1) = keysL (idsF f name rs) := by
 rw [<- idxI_all]
 unfold keysL
 rw [List.map_map]
 rfl
theorem idxI_pre (f : Fmt) (name : ByteArray) (rs : List RowP) (j : Nat) : ∀ d, ∃ t, idxI f name rs (j + d) = idxI f name rs j ++ t
 | 0 => ⟨[], (List.append_nil _).symm⟩
 | d + 1 => by
  obtain ⟨t, ht⟩ := idxI_pre f name rs j d
  exact ⟨_, by show idxI f name rs (j + d) ++ _ = _; rw [ht, List.append_assoc]⟩
theorem idxI_twice {f : Fmt} {name : ByteArray} {rs : List RowP} {j : Nat} {k : KeyP} (hj : j < rs.length) (h : idR f name (rA rs j) = some k) (hm : k ∈ (idxI f name rs j).map (·.1)) : oneB (idsF f name rs) = false := by
 unfold oneB
 rw [decide_eq_false_iff_not, <- idxI_keys]
 intro hn
 obtain ⟨t, ht⟩ := idxI_pre f name rs (j + 1) (rs.length - (j + 1))
 rw [show j + 1 + (rs.length - (j + 1)) = rs.length by omega, idxI_some h] at ht
 rw [ht, List.map_append, List.map_append, List.nodup_append] at hn
 have h1 := (List.nodup_append.1 hn.1).2.2 k hm k (by simp)
 exact h1 rfl
theorem idxI_once {f : Fmt} {name : ByteArray} {rs : List RowP} (h : ((idxI f name rs rs.length).map (·.1)).Nodup) : oneB (idsF f name rs) = true := by
 unfold oneB
 rw [<- idxI_keys]
 exact decide_eq_true h
theorem nodup_push {l : List (KeyP × Nat)} {k : KeyP} {j : Nat} (h : (l.map (·.1)).Nodup) (hk : k ∉ l.map (·.1)) : ((l ++ [(k, j)]).map (·.1)).Nodup := by
 rw [List.map_append, List.nodup_append]
 refine ⟨h, by simp, fun a ha b hb => ?_⟩
 simp at hb
 subst hb
 exact fun e => hk (e ▸ ha)
def rowT (rs : List RowP) (RA : Nat -> Option Addr) (RC : Nat -> Nat) (j : Nat) : ByteArray × Option Addr × Nat × Nat := ((rA rs j).tag, RA j, (rA rs j).vals.length, RC j)
def mapI (rs : List RowP) (RA : Nat -> Option Addr) (RC : Nat -> Nat) (l : List (KeyP × Nat)) : List (KeyP × Value) := l.map fun x => (x.1, rowE (rowT rs RA RC x.2))
theorem mapI_app (rs : List RowP) (RA : Nat -> Option Addr) (RC : Nat -> Nat) (l m : List (KeyP × Nat)) : mapI rs RA RC (l ++ m) = mapI rs RA RC l ++ mapI rs RA RC m := List.map_append
theorem mapI_keys (rs : List RowP) (RA : Nat -> Option Addr) (RC : Nat -> Nat) (l : List (KeyP × Nat)) : (mapI rs RA RC l).map (·.1) = l.map (·.1) := by
 unfold mapI
 rw [List.map_map]
 rfl
def lookI (l : List (KeyP × Nat)) (k : KeyP) : Option Nat := (l.find? fun x => decide (x.1 = k)).map (·.2)
theorem lookV_mapI (rs : List RowP) (RA : Nat -> Option Addr) (RC : Nat -> Nat) (l : List (KeyP × Nat)) (k : KeyP) : lookV (mapI rs RA RC l) k = (lookI l k).map fun j => rowE (rowT rs RA RC j) := by
 unfold lookV mapI lookI
 rw [List.find?_map]
 simp [Function.comp_def]
theorem lookK_mapI (rs : List RowP) (l : List (KeyP × Nat)) (k : KeyP) : lookK (l.map fun x => (x.1, rA rs x.2)) k = (lookI l k).map fun j => rA rs j := by
 unfold lookK lookI
 rw [List.find?_map]
 simp [Function.comp_def]
theorem lookI_mem {l : List (KeyP × Nat)} {k : KeyP} {j : Nat} (h : lookI l k = some j) : (k, j) ∈ l := by
 unfold lookI at h
 rw [Option.map_eq_some_iff] at h
 obtain ⟨x, hx, rfl⟩ := h
 have h1 := List.mem_of_find?_eq_some hx
 have h2 := List.find?_some hx
 obtain ⟨a, b⟩ := x
 have h3 : a = k := of_decide_eq_true h2
 subst h3
 exact h1
theorem lookI_none {l : List (KeyP × Nat)} {k : KeyP} : lookI l k = none ↔ k ∉ l.map (·.1) := by
 unfold lookI
 rw [Option.map_eq_none_iff, List.find?_eq_none]
 constructor
 ·intro h hm
  obtain ⟨x, hx, e⟩ := List.mem_map.1 hm
  exact h x hx (decide_eq_true e)
 ·intro h x hx e
  exact h (List.mem_map.2 ⟨x, hx, of_decide_eq_true e⟩)
theorem lookK_ids (f : Fmt) (name : ByteArray) (rs : List RowP) (k : KeyP) : lookK (idsF f name rs) k = (lookI (idxI f name rs rs.length) k).map fun j => rA rs j := by
 rw [<- idxI_all, lookK_mapI]
def chg0 : ChgP := ⟨⟨#[]⟩, ⟨#[]⟩, 0, ⟨#[]⟩⟩
def chA (l : List ChgP) (j : Nat) : ChgP := l.getD j chg0
def chgE (x : ChgP) : List Value := [.string x.tag, .string x.key, .int .i64 x.kind, .string x.col]
def chgC (l : List ChgP) : List Value := l.flatMap chgE
theorem chgC_snoc (l : List ChgP) (x : ChgP) : chgC l ++ chgE x = chgC (l ++ [x]) := by simp [chgC]
def chgV (l : List ChgP) (j i : Nat) : Value :=
 match i with
 | 0 => .string (chA l j).tag
 | 1 => .string (chA l j).key
 | 2 => .int .i64 (chA l j).kind
 | _ => .string (chA l j).col
theorem chgC_at : ∀ {r : List ChgP} {j : Nat}, j < r.length -> ∀ i, i < 4 -> (chgC r)[j * 4 + i]? = some (chgV r j i)
 | [], j, h, i, hi => by simp at h
 | s :: r, 0, h, i, hi => by
  match i, hi with
  | 0, _ => rfl
  | 1, _ => rfl
  | 2, _ => rfl
  | 3, _ => rfl
 | s :: r, j + 1, h, i, hi => by
  have ih := chgC_at (r := r) (j := j) (by simpa using h) i hi
  have e : (chgC (s :: r))[(j + 1) * 4 + i]? = (chgC r)[j * 4 + i]? := by
   show (chgE s ++ chgC r)[(j + 1) * 4 + i]? = _
   rw [List.getElem?_append_right (by simp [chgE]; omega)]
   congr 1
   simp [chgE]
   omega
  rw [e, ih]
  unfold chgV
  have : chA (s :: r) (j + 1) = chA r j := by simp [chA]
  rw [this]
def Chgs (w : World) (A : Option Addr) (l : List ChgP) : Prop := Rws w A 4 l.length (chgV l)
theorem Chgs.below {w w' : World} {A : Option Addr} {l : List ChgP} (h : Chgs w A l) (hb : Below w.heap.size w w') : Chgs w' A l := Rws.below h hb
theorem own_chgs {w : World} {B n c : Nat} {A : Option Addr} {l : List ChgP} (h : w.ownsRow B 39 4 (.slice A n c) n (chgC l)) (hn : l.length = n) : Chgs w A l := by
 subst hn
 exact own_rwsZ h fun j hj i hi => chgC_at hj i hi
theorem Chgs.cells {w : World} {A : Option Addr} {l : List ChgP} (h : Chgs w A l) {j : Nat} (hj : j < l.length) :
  ∃ b off, A = some ⟨b, off, none⟩ /\ b < w.heap.size /\ w.cell? ⟨b, off + j * 4, none⟩ = some (.string (chA l j).tag) /\ w.cell? ⟨b, off + j * 4 + 1, none⟩ = some (.string (chA l j).key) /\ w.cell? ⟨b, off + j * 4 + 2, none⟩ = some (.int .i64 (chA l j).kind) /\ w.cell? ⟨b, off + j * 4 + 3, none⟩ = some (.string (chA l j).col) := by
 obtain ⟨b, off, e, hb, hc⟩ := Rws.get h hj
 exact ⟨b, off, e, hb, hc 0 (by decide), hc 1 (by decide), hc 2 (by decide), hc 3 (by decide)⟩
theorem Tryz.infoChg : (Tryz.prog.info? 39).map (fun i => (i.zero, i.size, i.bytes)) = some (some (.agg #[.string ⟨#[]⟩, .string ⟨#[]⟩, .int .i64 0, .string ⟨#[]⟩]), 4, 56) := by kernel_rfl
set_option maxHeartbeats 1000000 in
set_option maxRecDepth 100000 in
theorem has1_c (k : RKd) (A : Option Addr) (C b : Nat) (name : ByteArray) (w : World) (ho : Cols w A k.fields) (hb : w.heap[b]? = some (.cells #[.string name] 9 (0, 0))) :
  Calls Tryz.prog 29 #[kindG k A C, .pointer (some ⟨b, 0, none⟩)] w fun e w' => e = .returned (.bool (decide (0 <= ixF (nameIs name) k.fields))) /\ Below w.heap.size w w' := by
 have HCA := Lib.hid (fun w h => colat_c k A C name w h)
 have HO := Lib.hid ho
 obtain ⟨kt, fs, km, ku⟩ := k
 unfold kindG at HCA ⊢
 simp only at HCA HO ⊢
 obtain ⟨nf, hnf⟩ : ∃ x, fs.length = x := ⟨_, rfl⟩
 rw [hnf] at HCA ⊢
 generalize ixF (nameIs name) fs = I at HCA ⊢
 clear hnf ho
 have HK := Lib.hid (heap_new w (.cells #[.string kt, .slice A nf C, .int .i64 km, .string ku] 46) rfl)
 have HN := Lib.hid (heap_old hb (.cells #[.string kt, .slice A nf C, .int .i64 km, .string ku] 46))
 have HB : Hid (Below w.heap.size w (w.alloc (.cells #[.string kt, .slice A nf C, .int .i64 km, .string ku] 46))) := Lib.hid (by go_grown)
 clear hb
 go_enter Tryz.func29, Tryz.ntmps29
 go_upto_region 1 with fail
 generalize w.alloc (.cells #[.string kt, .slice A nf C, .int .i64 km, .string ku] 46) = w1 at HK HN HB ⊢
 obtain ⟨⟨y0, y1, y2, y3⟩, -, -⟩ := obox4 HK.out
 have n0 := cell_of_row _ _ 0 _ _ _ HN.out
 go_wp2_with fail
 refine (HCA.out _ (HO.out.below HB.out)).mono ?_
 rintro _ w2 ⟨rfl, hb2⟩
 have hB2 := below_then hb2 HB.out HB.out.size
 go_wp2
 go_ret
 exact ⟨rfl, hB2⟩
theorem anyhas_c (b : Nat) (name : ByteArray) (A : Option Addr) (c : Nat) (ks : List RKd) (FA : Nat -> Option Addr) (FC : Nat -> Nat) (w : World) (ho : Kinds w A ks FA FC) (hb : w.heap[b]? = some (.cells #[.string name] 9 (0, 0))) :
  Calls Tryz.prog 28 #[.slice A ks.length c, .func (.func 29) #[] #[.pointer (some ⟨b, 0, none⟩)]] w
   fun e w' => e = .returned (.bool (ks.any fun k => decide (0 <= ixF (nameIs name) k.fields))) /\ Below w.heap.size w w' := by
 have h := ixk_c 29 (.pointer (some ⟨b, 0, none⟩)) (fun k => decide (0 <= ixF (nameIs name) k.fields)) A c ks.length ks FA FC w (Nat.le_refl _) ho (fun _ _ => by kernel_rfl)
  (fun j hj wr hbl => has1_c (kA ks j) (FA j) (FC j) b name wr ((ho.below hbl).2.2 j hj).1 (heap_below hb hbl))
 rw [List.take_length] at h
 exact anyk_of _ _ _ _ w w (ixF_any _ _) (Below.refl _ _) h
end Go.Proofs.YtbnjejenejoibaaGreatDoor
