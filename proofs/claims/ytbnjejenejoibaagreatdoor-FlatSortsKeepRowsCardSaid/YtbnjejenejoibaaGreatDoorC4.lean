/- Plain: rows in the order of a column. The walk of overOf. -/
import Derived.Test.YtbnjejenejoibaaGreatDoorC6
import Derived.Test.YtbnjejenejoibaaGreatDoorS1
-- merged: SQN C4
namespace Go.Proofs.YtbnjejenejoibaaGreatDoor
open Go.RowKit Limb Nmb Work
set_option linter.unusedVariables false
set_option linter.unusedSimpArgs false
noncomputable def sortE (f : Fmt) (rs : List RowP) (name : ByteArray) : Int := if (ordF f rs).2 ≠ 0 then (ordF f rs).2 else (sortF f name).2
def toN (f : Fmt) (n : Nat) : Nat := if f.tail = ⟨#[]⟩ then n else n - 1
def hdN (f : Fmt) (n : Nat) : Nat := if f.head ≠ ⟨#[]⟩ /\ 0 < toN f n then 1 else 0
def fromN (f : Fmt) (rs : List RowP) : Nat := hdN f rs.length + (((rs.take (toN f rs.length)).drop (hdN f rs.length)).takeWhile (undR f)).length
theorem toN_le (f : Fmt) (n : Nat) : toN f n <= n := by unfold toN; split <;> omega
theorem hdN_le (f : Fmt) (n : Nat) : hdN f n <= toN f n := by unfold hdN; split <;> omega
theorem tw_len {p : RowP -> Bool} : ∀ {l : List RowP} {j : Nat}, j <= l.length -> (∀ k, k < j -> p (rA l k) = true) -> (j = l.length ∨ p (rA l j) = false) -> (l.takeWhile p).length = j
 | [], j, h, _, _ => by simp at h; subst h; rfl
 | x :: l, 0, _, _, h => by
  rcases h with h | h
  ·simp at h
  ·have h' : p x = false := h
   rw [List.takeWhile_cons, h']
   rfl
 | x :: l, j + 1, h, hp, hq => by
  have h0 : p x = true := hp 0 (by omega)
  rw [List.takeWhile_cons, h0]
  have ih := tw_len (p := p) (l := l) (j := j) (by simpa using h) (fun k hk => hp (k + 1) (by omega)) (by
   rcases hq with hq | hq
   ·exact .inl (by simpa using hq)
   ·exact .inr hq)
  simp [ih]
theorem rA_drop (rs : List RowP) (n j : Nat) : rA (rs.drop n) j = rA rs (n + j) := by
 unfold rA
 rw [List.getD_eq_getElem?_getD, List.getD_eq_getElem?_getD, List.getElem?_drop]
theorem fromN_at {f : Fmt} {rs : List RowP} {j : Nat} (h1 : hdN f rs.length <= j) (h2 : j <= toN f rs.length) (h3 : ∀ k, hdN f rs.length <= k -> k < j -> undR f (rA rs k) = true) (h4 : j = toN f rs.length ∨ undR f (rA rs j) = false) : fromN f rs = j := by
 have ht := toN_le f rs.length
 unfold fromN
 have hl : ((rs.take (toN f rs.length)).drop (hdN f rs.length)).length = toN f rs.length - hdN f rs.length := by rw [List.length_drop, List.length_take]; omega
 rw [tw_len (j := j - hdN f rs.length) (by rw [hl]; omega) (fun k hk => by rw [rA_drop, rA_take (by omega)]; exact h3 _ (by omega) (by omega)) (by
  rw [hl]
  rcases Nat.lt_or_ge j (toN f rs.length) with h5 | h5
  ·rcases h4 with h4 | h4
   ·omega
   ·exact .inr (by rw [rA_drop, rA_take (by omega), show hdN f rs.length + (j - hdN f rs.length) = j by omega]; exact h4)
  ·exact .inl (by omega))]
 omega
theorem upSp_flat {sp : List SpanP} {r : RowP} (h : 0 < sp.length) : (upSp sp r).flatMap (·.rows) = sp.flatMap (·.rows) ++ [r] := by
 rcases List.eq_nil_or_concat sp with rfl | ⟨a, b, rfl⟩
 ·cases h
 ·rw [List.concat_eq_append]
  unfold upSp
  have e : (a ++ [b]).length - 1 = a.length := by simp
  have e2 : spA (a ++ [b]) a.length = b := by rw [spA_snoc, if_pos rfl]
  rw [e, e2, List.set_append_right _ _ (Nat.le_refl _)]
  simp
theorem spanSt_flat (f : Fmt) (name : ByteArray) (sp : List SpanP) (r : RowP) : (spanSt f name sp r).flatMap (·.rows) = sp.flatMap (·.rows) ++ [r] := by
 unfold spanSt
 split
 ·rename_i h; exact upSp_flat h.2
 ·simp
theorem spans_from (f : Fmt) (name : ByteArray) : ∀ (l : List RowP) (sp : List SpanP), (l.foldl (spanSt f name) sp).flatMap (·.rows) = sp.flatMap (·.rows) ++ l
 | [], sp => by simp
 | r :: l, sp => by
  rw [List.foldl_cons, spans_from f name l, spanSt_flat, List.append_assoc]
  rfl
theorem spansL_flat (f : Fmt) (name : ByteArray) (l : List RowP) : (spansL f name l).flatMap (·.rows) = l := spans_from f name l []
theorem spA_le {sp : List SpanP} {j : Nat} (h : j < sp.length) : (spA sp j).rows.length <= (sp.flatMap (·.rows)).length := by
 have hm : spA sp j ∈ sp := by rw [<- spA_get h]; exact List.getElem_mem h
 obtain ⟨a, b, e⟩ := List.append_of_mem hm
 have e2 : (sp.flatMap (·.rows)).length = ((a ++ spA sp j :: b).flatMap (·.rows)).length := by rw [<- e]
 rw [e2, List.flatMap_append, List.length_append, List.flatMap_cons, List.length_append]
 omega
theorem spansL_le {f : Fmt} {name : ByteArray} {l : List RowP} {j : Nat} (h : j < (spansL f name l).length) : (spA (spansL f name l) j).rows.length <= l.length := by
 have h1 := spA_le h
 rwa [spansL_flat] at h1
def midL (f : Fmt) (rs : List RowP) : List RowP := (rs.take (toN f rs.length)).drop (fromN f rs)
def spL (f : Fmt) (name : ByteArray) (rs : List RowP) : List SpanP := spansL f name (midL f rs)
def ordI (r : Nat -> Nat) (n : Nat) : List Nat := (List.range n).mergeSort fun x y => !decide (r x < r y ∨ (r y = r x /\ y < x))
def spV (sp : List SpanP) (j : Nat) : ByteArray := (spA sp j).val
def sortM (nb : Bool) (sp : List SpanP) : List RowP := (ordI (rankV nb (spV sp) sp.length) sp.length).flatMap fun j => (spA sp j).rows
noncomputable def sortL (f : Fmt) (rs : List RowP) (name : ByteArray) : List RowP :=
 if sortE f rs name ≠ 0 then [] else rs.take (fromN f rs) ++ sortM (sortF f name).1 (spL f name rs) ++ rs.drop (toN f rs.length)
theorem ordI_of {r g : Nat -> Nat} {n : Nat} (hb : ∃ k : Nat -> Nat, ∀ x, x < n -> g x < n /\ k x < n /\ g (k x) = x /\ k (g x) = x) (hs : Stab.Srt r g 0 n) : ordI r n = (List.range n).map g := by
 obtain ⟨k, hk⟩ := hb
 have hlt : ∀ a b : Nat, (!decide (r a < r b ∨ (r b = r a /\ b < a))) = true ↔ ¬ (r a < r b ∨ (r b = r a /\ b < a)) := fun a b => by simp only [Bool.not_eq_true', decide_eq_false_iff_not]
 have tr : ∀ a b c : Nat, (!decide (r a < r b ∨ (r b = r a /\ b < a))) = true -> (!decide (r b < r c ∨ (r c = r b /\ c < b))) = true -> (!decide (r a < r c ∨ (r c = r a /\ c < a))) = true := fun a b c h1 h2 => by
  rw [hlt] at *
  omega
 have tot : ∀ a b : Nat, ((!decide (r a < r b ∨ (r b = r a /\ b < a))) || (!decide (r b < r a ∨ (r a = r b /\ a < b)))) = true := fun a b => by
  rw [Bool.or_eq_true, hlt, hlt]
  omega
 have hperm : ((List.range n).map g).Perm (List.range n) := by
  refine (List.perm_ext_iff_of_nodup ?_ List.nodup_range).2 fun x => ?_
  ·unfold List.Nodup
   rw [List.pairwise_map]
   refine List.Pairwise.imp_of_mem (R := fun a b => a < b) (fun {x y} hx hy hxy e => ?_) List.pairwise_lt_range
   have h1 := (hk x (List.mem_range.1 hx)).2.2.2
   have h2 := (hk y (List.mem_range.1 hy)).2.2.2
   rw [e, h2] at h1
   omega
  ·rw [List.mem_map, List.mem_range]
   constructor
   ·rintro ⟨a, ha, rfl⟩
    exact (hk a (List.mem_range.1 ha)).1
   ·intro hx
    exact ⟨k x, List.mem_range.2 (hk x hx).2.1, (hk x hx).2.2.1⟩
 refine List.Perm.eq_of_pairwise (le := fun a b => (!decide (r a < r b ∨ (r b = r a /\ b < a))) = true) (fun a b _ _ h1 h2 => ?_) (List.pairwise_mergeSort tr tot _) ?_ ((List.mergeSort_perm _ _).trans hperm.symm)
 ·rw [hlt] at h1 h2
  omega
 ·rw [List.pairwise_map]
  refine List.Pairwise.imp_of_mem (R := fun a b => a < b) (fun {a b} ha hb hab => ?_) List.pairwise_lt_range
  rw [hlt]
  rcases hs a b (Nat.zero_le _) hab (List.mem_range.1 hb) with h | h <;> omega
theorem overI_lt (f : Fmt) (rs : List RowP) (tag : ByteArray) : ∀ i : Nat, -1 <= overI f rs tag i /\ overI f rs tag i < (i : Int)
 | 0 => ⟨Int.le_refl _, by show (-1 : Int) < 0; decide⟩
 | k + 1 => by
  have := overI_lt f rs tag k
  unfold overI
  split
  ·omega
  ·split <;> omega
set_option maxHeartbeats 4000000 in
set_option maxRecDepth 100000 in
theorem overof_c (f : Fmt) (A : Option Addr) (cp : Nat) (FA : Nat -> Option Addr) (FC : Nat -> Nat) (L : Option Addr) (LC : Nat) (rs : List RowP) (RA : Nat -> Option Addr) (RC : Nat -> Nat) (i : Nat) (tag : ByteArray) (w : World) (ho : Kinds w A f.kinds FA FC) (hf : checkF f = 0) (hl : RowsM w L rs RA RC) (hi : i <= rs.length) :
  Calls Tryz.prog 106 #[fmtG f A cp, .slice L rs.length LC, .int .i64 (i : Int), .string tag] w (RetI (overI f rs tag i) w) := by
 have HIU := Lib.hid (fun t w h => isunder_c f A cp FA FC t tag w h hf)
 have HKI := Lib.hid ho; have HLM := Lib.hid hl
 have hnr := hl.len
 have HOS := Lib.hid (show ∀ k : Nat, overI f rs tag (k + 1) = if (rA rs k).tag = tag then (k : Int) else if undB f (rA rs k).tag tag = false then -1 else overI f rs tag k from fun _ => rfl)
 have HO0 := Lib.hid (show overI f rs tag 0 = -1 from rfl)
 obtain ⟨R, hR⟩ : ∃ x, overI f rs tag i = x := ⟨_, rfl⟩
 have HR := Lib.hid hR
 rw [hR]
 unfold RetI
 clear ho hf hl hR
 generalize overI f rs tag = OV at HOS HO0 HR
 unfold RetB at HIU
 have HUB := Lib.hid (show ∀ t, ∃ b, undB f t tag = b from fun t => ⟨_, rfl⟩)
 obtain ⟨UD, hUD⟩ : ∃ x : ByteArray -> Bool, (fun t => undB f t tag) = x := ⟨_, rfl⟩
 have hUDa : ∀ t, undB f t tag = UD t := fun t => by rw [<- hUD]
 have HIU2 : Hid (∀ t w, Kinds w A f.kinds FA FC -> Calls Tryz.prog 147 #[fmtG f A cp, .string t, .string tag] w fun e w' => e = .returned (.bool (UD t)) /\ Below w.heap.size w w') := Lib.hid (fun t w h => by rw [<- hUDa]; exact HIU.out t w h)
 have HOS2 := Lib.hid (show ∀ k : Nat, OV (k + 1) = if (rA rs k).tag = tag then (k : Int) else if UD (rA rs k).tag = false then -1 else OV k from fun k => by rw [<- hUDa]; exact HOS.out k)
 clear hUD hUDa HIU HOS HUB
 obtain ⟨m, q, ks, hd, tl, ct, sm⟩ := f
 unfold fmtG at HIU2 ⊢
 simp only at HIU2 HKI ⊢
 obtain ⟨nk, hnk⟩ : ∃ x, ks.length = x := ⟨_, rfl⟩
 rw [hnk] at HIU2 ⊢
 clear hnk
 obtain ⟨nr, hnr2⟩ : ∃ x, rs.length = x := ⟨_, rfl⟩
 have HNR := Lib.hid hnr2
 rw [hnr2] at hnr hi ⊢
 clear hnr2
 have hP := heap_new w (.cells #[.int .u8 m, .int .u8 q, .slice A nk cp, .string hd, .string tl, .string ct, .string sm] 24) rfl
 have hB1 : Below w.heap.size w (w.alloc (.cells #[.int .u8 m, .int .u8 q, .slice A nk cp, .string hd, .string tl, .string ct, .string sm] 24)) := by go_grown
 go_enter Tryz.func106, Tryz.ntmps106
 go_upto_region 1 with fail
 generalize w.alloc (.cells #[.int .u8 m, .int .u8 q, .slice A nk cp, .string hd, .string tl, .string ct, .string sm] 24) = w1 at hP hB1 ⊢
 have HW := Lib.hid (show ∀ wx, Below w1.heap.size w1 wx -> wx.heap[w.heap.size]? = some (.cells #[.int .u8 m, .int .u8 q, .slice A nk cp, .string hd, .string tl, .string ct, .string sm] 24 (0, 0)) /\ Kinds wx A ks FA FC /\ RowsM wx L rs RA RC /\ Below w.heap.size w wx from fun wx h => by
  have h2 := below_then h hB1 hB1.size
  exact ⟨heap_below hP h, HKI.out.below h2, HLM.out.below h2, h2⟩)
 clear hP hB1
 go_wp2_with fail
 go_loopw [9] (fun x wr => ∃ (j : Nat) (v : Int), x = .int .i64 v /\ v = (j : Int) - 1 /\ j <= i /\ Hid (OV j = R) /\ Hid (Below w1.heap.size w1 wr)) (fun x _ => (intOf x + 1).toNat)
 case atStart => exact ⟨i, (i : Int) - 1, by first | rfl | (congr 1; go_num) | go_num, rfl, Nat.le_refl _, HR, Lib.hid (Below.refl _ _)⟩
 case round =>
  obtain ⟨j, v, rfl, hv, hj, HO, HB⟩ := hrel
  obtain ⟨q1, qk, ql, qb⟩ := HW.out _ HB.out
  cases j with
  | zero =>
   have HE := Lib.hid (show R = -1 by rw [<- HO.out]; exact HO0.out)
   have hv2 : v = -1 := by omega
   subst hv2
   clear hv q1 qk ql
   go_wp2
   go_ret
   exact ⟨by rw [HE.out]; rfl, qb⟩
  | succ k =>
   have hv2 : v = (k : Int) := by omega
   subst hv2
   have hkl : k < rs.length := by rw [HNR.out]; omega
   obtain ⟨b, off, rfl, hbk, c0, c1⟩ := ql.cells hkl
   have HO2 := Lib.hid (show (if (rA rs k).tag = tag then (k : Int) else if UD (rA rs k).tag = false then -1 else OV k) = R by rw [<- HO.out]; exact (HOS2.out k).symm)
   obtain ⟨rt, hrt⟩ : ∃ x, (rA rs k).tag = x := ⟨_, rfl⟩
   rw [hrt] at c0 HO2
   have hkr : k < nr := by omega
   have hk0 : decide ((0 : Int) <= (k : Int)) = true := decide_eq_true (by omega)
   have e1 := bytes_dec rt tag
   clear hv hrt hkl ql HO c1
   by_cases h1 : rt = tag
   ·have HE := Lib.hid (show R = (k : Int) by rw [<- HO2.out, if_pos h1])
    rw [decide_eq_true h1] at e1
    clear h1 q1 qk
    go_wp2
    go_ret
    exact ⟨by rw [HE.out]; rfl, qb⟩
   rw [decide_eq_false h1] at e1
   have HO3 := Lib.hid (show (if UD rt = false then -1 else OV k) = R by rw [<- HO2.out, if_neg h1])
   have HQK := Lib.hid qk
   have HCI := Lib.hid (fun wx h => HIU2.out rt wx (qk.below h))
   have HP := Lib.hid q1
   have HC0 := Lib.hid c0
   have HBK := Lib.hid hbk
   have HSB := Lib.hid (show ∀ wx, Below wr.heap.size wr wx -> (fun w' : World => w'.cell? ⟨w.heap.size, 0, none⟩ = some (.int .u8 m) /\ w'.cell? ⟨w.heap.size, 1, none⟩ = some (.int .u8 q) /\ w'.cell? ⟨w.heap.size, 2, none⟩ = some (.slice A nk cp) /\ w'.cell? ⟨w.heap.size, 3, none⟩ = some (.string hd) /\ w'.cell? ⟨w.heap.size, 4, none⟩ = some (.string tl) /\ w'.cell? ⟨w.heap.size, 5, none⟩ = some (.string ct) /\ w'.cell? ⟨w.heap.size, 6, none⟩ = some (.string sm) /\ w'.cell? ⟨b, off + k * 2, none⟩ = some (.string rt)) wx from fun wx h => by
    obtain ⟨⟨f0, f1, f2, f3, f4, f5, f6⟩, f7⟩ := obox7 (heap_below HP.out h)
    exact ⟨f0, f1, f2, f3, f4, f5, f6, (h.cell (p := ⟨b, off + k * 2, none⟩) HBK.out).trans HC0.out⟩)
   have T1 : Below wr.heap.size wr wr := Below.refl _ _
   clear h1 HO2 q1 qk qb
   go_upto_region 6 with fail
   clear c0 hbk
   go_region_held3 (fun w' : World => w'.cell? ⟨w.heap.size, 0, none⟩ = some (.int .u8 m) /\ w'.cell? ⟨w.heap.size, 1, none⟩ = some (.int .u8 q) /\ w'.cell? ⟨w.heap.size, 2, none⟩ = some (.slice A nk cp) /\ w'.cell? ⟨w.heap.size, 3, none⟩ = some (.string hd) /\ w'.cell? ⟨w.heap.size, 4, none⟩ = some (.string tl) /\ w'.cell? ⟨w.heap.size, 5, none⟩ = some (.string ct) /\ w'.cell? ⟨w.heap.size, 6, none⟩ = some (.string sm) /\ w'.cell? ⟨b, off + k * 2, none⟩ = some (.string rt))
    (first | (with_reducible exact HSB.out _ T5) | (refine HSB.out _ ?_; go_grown))
    (first | (go_at_call 147; refine (HCI.out _ (by go_grown)).mono ?_; rintro e w5 ⟨rfl, hb5'⟩; (have T5 : Below wr.heap.size wr w5 := by exact ⟨hb5'.os, hb5'.tape, hb5'.output, hb5'.size, hb5'.block⟩)))
   have HB5 := Lib.hid (below_then T5 HB.out HB.out.size)
   obtain ⟨-, -, -, qb⟩ := HW.out _ HB5.out
   clear T5 HB e1
   cases hu : UD rt with
   | true =>
    have HO4 := Lib.hid (show OV k = R by rw [<- HO3.out, hu, if_neg (by decide)])
    clear hu
    go_wp2
    go_roundw
    case rel => exact ⟨k, (k : Int) - 1, by first | rfl | go_num, rfl, by omega, HO4, HB5⟩
    case measure => first | (simp [intOf]; done) | (simp [intOf]; omega)
   | false =>
    have HE := Lib.hid (show R = -1 by rw [<- HO3.out, hu, if_pos rfl])
    clear hu
    go_wp2
    go_ret
    exact ⟨by rw [HE.out]; rfl, qb⟩
end Go.Proofs.YtbnjejenejoibaaGreatDoor
