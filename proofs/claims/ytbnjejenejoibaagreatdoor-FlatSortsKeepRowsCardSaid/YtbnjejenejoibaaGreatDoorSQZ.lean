/- Plain: spans that are good, and the rows of spans read as spans again (for: sorting again changes nothing). -/
import Derived.Test.YtbnjejenejoibaaGreatDoorSQO
import Derived.Test.YtbnjejenejoibaaGreatDoorSQA
import Derived.Test.YtbnjejenejoibaaGreatDoorZ1
import Derived.Test.YtbnjejenejoibaaGreatDoorSQY
import Derived.Test.YtbnjejenejoibaaGreatDoorDFQ
import Derived.Test.YtbnjejenejoibaaGreatDoorSQU
-- merged: SQP SQR SQZ
namespace Go.Proofs.YtbnjejenejoibaaGreatDoor
open Go.RowKit Limb Nmb Work
set_option linter.unusedVariables false
set_option linter.unusedSimpArgs false
def GoodS (f : Fmt) (name : ByteArray) (s : SpanP) : Prop := ∃ r l, s = ⟨r :: l, valQ f name r⟩ /\ undR f r = false /\ ∀ q ∈ l, undR f q = true
theorem upSp_snoc (a : List SpanP) (b : SpanP) (r : RowP) : upSp (a ++ [b]) r = a ++ [⟨b.rows ++ [r], b.val⟩] := by
 unfold upSp
 have e : (a ++ [b]).length - 1 = a.length := by simp
 have e2 : spA (a ++ [b]) a.length = b := by rw [spA_snoc, if_pos rfl]
 rw [e, e2, List.set_append_right _ _ (Nat.le_refl _)]
 simp
theorem spanSt_under {f : Fmt} {name : ByteArray} (a : List SpanP) (b : SpanP) {r : RowP} (h : undR f r = true) : spanSt f name (a ++ [b]) r = a ++ [⟨b.rows ++ [r], b.val⟩] := by
 unfold spanSt
 rw [if_pos ⟨h, by simp⟩, upSp_snoc]
theorem spanSt_new {f : Fmt} {name : ByteArray} (a : List SpanP) {r : RowP} (h : undR f r = false) : spanSt f name a r = a ++ [⟨[r], valQ f name r⟩] := by
 unfold spanSt
 rw [if_neg (by rw [h]; simp)]
theorem fold_under {f : Fmt} {name : ByteArray} (a : List SpanP) (v : ByteArray) : ∀ (l m : List RowP), (∀ q ∈ l, undR f q = true) -> l.foldl (spanSt f name) (a ++ [⟨m, v⟩]) = a ++ [⟨m ++ l, v⟩]
 | [], m, _ => by simp
 | q :: l, m, h => by
  rw [List.foldl_cons, spanSt_under _ _ (h q (.head _)), fold_under a v l _ fun x hx => h x (.tail _ hx), List.append_assoc]
  rfl
theorem fold_good {f : Fmt} {name : ByteArray} (a : List SpanP) {s : SpanP} (h : GoodS f name s) : s.rows.foldl (spanSt f name) a = a ++ [s] := by
 obtain ⟨r, l, rfl, h1, h2⟩ := h
 show (r :: l).foldl _ _ = _
 rw [List.foldl_cons, spanSt_new _ h1, fold_under _ _ _ _ h2]
 rfl
theorem fold_goods {f : Fmt} {name : ByteArray} : ∀ (sp a : List SpanP), (∀ s ∈ sp, GoodS f name s) -> (sp.flatMap (·.rows)).foldl (spanSt f name) a = a ++ sp
 | [], a, _ => by simp
 | s :: sp, a, h => by
  rw [List.flatMap_cons, List.foldl_append, fold_good _ (h s (.head _)), fold_goods sp _ fun x hx => h x (.tail _ hx), List.append_assoc]
  rfl
theorem spansL_goods {f : Fmt} {name : ByteArray} {sp : List SpanP} (h : ∀ s ∈ sp, GoodS f name s) : spansL f name (sp.flatMap (·.rows)) = sp := by
 have := fold_goods sp [] h
 rw [List.nil_append] at this
 exact this
theorem fold_keeps {f : Fmt} {name : ByteArray} : ∀ (l : List RowP) (sp : List SpanP), (∀ s ∈ sp, GoodS f name s) -> (sp = [] -> ∀ r, l.head? = some r -> undR f r = false) -> ∀ s ∈ l.foldl (spanSt f name) sp, GoodS f name s
 | [], sp, h, _ => h
 | r :: l, sp, h, hh => by
  rw [List.foldl_cons]
  cases hu : undR f r with
  | false =>
   rw [spanSt_new _ hu]
   refine fold_keeps l _ (fun s hs => ?_) (fun e => by simp at e)
   rcases List.mem_append.1 hs with hs | hs
   ·exact h s hs
   ·simp at hs
    subst hs
    exact ⟨r, [], rfl, hu, fun q hq => by cases hq⟩
  | true =>
   rcases List.eq_nil_or_concat sp with rfl | ⟨a, b, rfl⟩
   ·have := hh rfl r rfl
    rw [hu] at this
    cases this
   ·rw [List.concat_eq_append] at h ⊢
    rw [spanSt_under _ _ hu]
    refine fold_keeps l _ (fun s hs => ?_) (fun e => by simp at e)
    rcases List.mem_append.1 hs with hs | hs
    ·exact h s (List.mem_append.2 (.inl hs))
    ·simp at hs
     subst hs
     obtain ⟨x, m, rfl, h1, h2⟩ := h b (by simp)
     refine ⟨x, m ++ [r], rfl, h1, fun q hq => ?_⟩
     rcases List.mem_append.1 hq with hq | hq
     ·exact h2 q hq
     ·simp at hq
      subst hq
      exact hu
theorem spansL_good {f : Fmt} {name : ByteArray} {l : List RowP} (h : ∀ r, l.head? = some r -> undR f r = false) : ∀ s ∈ spansL f name l, GoodS f name s :=
 fold_keeps l [] (fun s hs => by cases hs) fun _ => h
theorem midL_head {f : Fmt} {rs : List RowP} : ∀ r, (midL f rs).head? = some r -> undR f r = false := by
 intro r h
 unfold midL fromN at h
 rw [<- List.drop_drop, List.head?_drop] at h
 have key : ∀ (l : List RowP), l[(l.takeWhile (undR f)).length]? = some r -> undR f r = false := by
  intro l
  induction l with
  | nil => intro h; cases h
  | cons x l ih =>
   intro h
   cases hx : undR f x with
   | true =>
    rw [List.takeWhile_cons, hx] at h
    exact ih (by simpa using h)
   | false =>
    rw [List.takeWhile_cons, hx] at h
    simp at h
    rw [<- h]
    exact hx
 exact key _ h
theorem spL_good (f : Fmt) (name : ByteArray) (rs : List RowP) : ∀ s ∈ spL f name rs, GoodS f name s := spansL_good midL_head
theorem sortL_perm {f : Fmt} {rs : List RowP} {name : ByteArray} (h : sortE f rs name = 0) : (sortL f rs name).Perm rs := by
 have hft : fromN f rs <= toN f rs.length := by
  unfold fromN
  have h1 := (List.takeWhile_sublist (p := undR f) (l := (rs.take (toN f rs.length)).drop (hdN f rs.length))).length_le
  rw [List.length_drop, List.length_take] at h1
  have h2 := hdN_le f rs.length
  have h3 := toN_le f rs.length
  omega
 unfold sortL
 rw [if_neg (fun k => k h)]
 have h1 := sortM_perm (sortF f name).1 (spL f name rs)
 unfold spL at h1
 rw [spansL_flat] at h1
 refine ((h1.append_left _).append_right _).trans ?_
 unfold midL
 have e : rs.take (fromN f rs) ++ (rs.take (toN f rs.length)).drop (fromN f rs) ++ rs.drop (toN f rs.length) = rs := by
  have e1 : rs.take (fromN f rs) = (rs.take (toN f rs.length)).take (fromN f rs) := by rw [List.take_take, Nat.min_eq_left hft]
  rw [e1, List.take_append_drop, List.take_append_drop]
 rw [e]
theorem ordI_le (r : Nat -> Nat) (x y : Nat) : (!decide (r x < r y ∨ (r y = r x /\ y < x))) = true ↔ ¬ (r x < r y ∨ (r y = r x /\ y < x)) := by simp only [Bool.not_eq_true', decide_eq_false_iff_not]
theorem ordI_id {r : Nat -> Nat} {n : Nat} (h : ∀ i j, i < j -> j < n -> ¬ r i < r j) : ordI r n = List.range n := by
 unfold ordI
 refine List.mergeSort_of_pairwise ?_
 refine List.Pairwise.imp_of_mem (R := fun a b => a < b) (fun {x y} hx hy hxy => ?_) List.pairwise_lt_range
 have := h x y hxy (List.mem_range.1 hy)
 rw [ordI_le]
 omega
theorem ordI_perm (r : Nat -> Nat) (n : Nat) : (ordI r n).Perm (List.range n) := List.mergeSort_perm _ _
theorem ordI_len (r : Nat -> Nat) (n : Nat) : (ordI r n).length = n := by rw [(ordI_perm r n).length_eq, List.length_range]
theorem ordI_pair (r : Nat -> Nat) (n : Nat) : (ordI r n).Pairwise fun x y => ¬ r x < r y := by
 have h := List.pairwise_mergeSort (le := fun x y => !decide (r x < r y ∨ (r y = r x /\ y < x))) (fun a b c h1 h2 => by rw [ordI_le] at *; omega) (fun a b => by rw [Bool.or_eq_true, ordI_le, ordI_le]; omega) (List.range n)
 unfold ordI
 refine h.imp fun {a b} hab => ?_
 rw [ordI_le] at hab
 omega
def sortS (nb : Bool) (sp : List SpanP) : List SpanP := (ordI (rankV nb (spV sp) sp.length) sp.length).map (spA sp)
theorem sortS_len (nb : Bool) (sp : List SpanP) : (sortS nb sp).length = sp.length := by unfold sortS; rw [List.length_map, ordI_len]
theorem sortM_sortS (nb : Bool) (sp : List SpanP) : sortM nb sp = (sortS nb sp).flatMap (·.rows) := by
 unfold sortM sortS
 rw [List.flatMap_map]
theorem sortS_mem {nb : Bool} {sp : List SpanP} {s : SpanP} (h : s ∈ sortS nb sp) : s ∈ sp := by
 unfold sortS at h
 obtain ⟨j, hj, rfl⟩ := List.mem_map.1 h
 have := List.mem_range.1 ((ordI_perm _ _).mem_iff.1 hj)
 rw [<- spA_get this]
 exact List.getElem_mem _
theorem sortS_at {nb : Bool} {sp : List SpanP} {i : Nat} (h : i < sp.length) : ∃ h2 : i < (ordI (rankV nb (spV sp) sp.length) sp.length).length, spA (sortS nb sp) i = spA sp (ordI (rankV nb (spV sp) sp.length) sp.length)[i] := by
 refine ⟨by rw [ordI_len]; exact h, ?_⟩
 rw [<- spA_get (by rw [sortS_len]; exact h)]
 unfold sortS
 rw [List.getElem_map]
theorem sortM_again (nb : Bool) (sp : List SpanP) : sortM nb (sortS nb sp) = (sortS nb sp).flatMap (·.rows) := by
 have h : ordI (rankV nb (spV (sortS nb sp)) (sortS nb sp).length) (sortS nb sp).length = List.range (sortS nb sp).length := by
  refine ordI_id fun i j hij hj => ?_
  rw [<- rankV_lt hj (Nat.lt_trans hij hj)]
  rw [sortS_len] at hj
  obtain ⟨h1, e1⟩ := sortS_at (nb := nb) (sp := sp) (i := i) (by omega)
  obtain ⟨h2, e2⟩ := sortS_at (nb := nb) (sp := sp) (i := j) hj
  have hp := List.pairwise_iff_getElem.1 (ordI_pair (rankV nb (spV sp) sp.length) sp.length) i j h1 h2 hij
  have hm : ∀ k (hk : k < (ordI (rankV nb (spV sp) sp.length) sp.length).length), (ordI (rankV nb (spV sp) sp.length) sp.length)[k] < sp.length := fun k hk => List.mem_range.1 ((ordI_perm _ _).mem_iff.1 (List.getElem_mem hk))
  rw [<- rankV_lt (hm j h2) (hm i h1)] at hp
  unfold spV at hp ⊢
  rw [e1, e2]
  exact hp
 unfold sortM
 rw [h, range_flat]
theorem goods_head {f : Fmt} {name : ByteArray} {sp : List SpanP} (h : ∀ s ∈ sp, GoodS f name s) : ∀ r, (sp.flatMap (·.rows)).head? = some r -> undR f r = false := by
 intro r hr
 cases sp with
 | nil => cases hr
 | cons s sp =>
  obtain ⟨x, l, rfl, h1, -⟩ := h s (.head _)
  rw [List.flatMap_cons] at hr
  simp at hr
  rw [<- hr]
  exact h1
theorem tw_all {p : RowP -> Bool} : ∀ {l : List RowP} {k : Nat}, k < (l.takeWhile p).length -> p (rA l k) = true
 | [], k, h => by simp at h
 | x :: l, k, h => by
  rw [List.takeWhile_cons] at h
  cases hx : p x with
  | false => rw [hx] at h; simp at h
  | true =>
   rw [hx] at h
   cases k with
   | zero => exact hx
   | succ k => exact tw_all (l := l) (k := k) (by simpa using h)
theorem fromN_le (f : Fmt) (rs : List RowP) : fromN f rs <= toN f rs.length := by
 unfold fromN
 have h1 := (List.takeWhile_sublist (p := undR f) (l := (rs.take (toN f rs.length)).drop (hdN f rs.length))).length_le
 rw [List.length_drop, List.length_take] at h1
 have h2 := hdN_le f rs.length
 have h3 := toN_le f rs.length
 omega
theorem fromN_und {f : Fmt} {rs : List RowP} {k : Nat} (h1 : hdN f rs.length <= k) (h2 : k < fromN f rs) : undR f (rA rs k) = true := by
 have h3 := fromN_le f rs
 have h4 := h2
 unfold fromN at h2
 have h := tw_all (p := undR f) (l := (rs.take (toN f rs.length)).drop (hdN f rs.length)) (k := k - hdN f rs.length) (by omega)
 rw [rA_drop, rA_take (by omega), show hdN f rs.length + (k - hdN f rs.length) = k by omega] at h
 exact h
theorem sortL_eq {f : Fmt} {l : List RowP} {name : ByteArray} (h : sortE f l name = 0) : sortL f l name = l.take (fromN f l) ++ sortM (sortF f name).1 (spL f name l) ++ l.drop (toN f l.length) := by
 unfold sortL
 rw [if_neg (fun k => k h)]
theorem sortL_again {f : Fmt} {rs : List RowP} {name : ByteArray} (h : sortE f rs name = 0) (h2 : sortE f (sortL f rs name) name = 0) : sortL f (sortL f rs name) name = sortL f rs name := by
 have hln := (sortL_perm h).length_eq
 have hft := fromN_le f rs
 have htn := toN_le f rs.length
 obtain ⟨S, hS⟩ : ∃ S, sortM (sortF f name).1 (spL f name rs) = S := ⟨_, rfl⟩
 have hX : sortL f rs name = rs.take (fromN f rs) ++ S ++ rs.drop (toN f rs.length) := by unfold sortL; rw [if_neg (fun k => k h), hS]
 have hSS : S = (sortS (sortF f name).1 (spL f name rs)).flatMap (·.rows) := by rw [<- hS, sortM_sortS]
 have hgood : ∀ s ∈ sortS (sortF f name).1 (spL f name rs), GoodS f name s := fun s hs => spL_good f name rs s (sortS_mem hs)
 have hSl : S.length = toN f rs.length - fromN f rs := by
  have h3 := congrArg List.length hX
  rw [hln, List.length_append, List.length_append, List.length_take, List.length_drop] at h3
  omega
 have hH : (rs.take (fromN f rs)).length = fromN f rs := by rw [List.length_take]; omega
 have hfr : fromN f (sortL f rs name) = fromN f rs := by
  refine fromN_at (by rw [hln]; unfold fromN; omega) (by rw [hln]; exact hft) (fun k h3 h4 => ?_) ?_
  ·rw [hln] at h3
   rw [hX, List.append_assoc, rA_app, if_pos (by rw [hH]; exact h4), rA_take h4]
   exact fromN_und h3 h4
  ·rw [hln]
   rcases Nat.lt_or_ge (fromN f rs) (toN f rs.length) with h5 | h5
   ·right
    rw [hX, rA_app, if_pos (by rw [List.length_append, hH, hSl]; omega), rA_app, if_neg (by rw [hH]; omega), hH, Nat.sub_self]
    refine goods_head hgood _ ?_
    rw [<- hSS]
    cases S with
    | nil => simp at hSl; omega
    | cons x S => rfl
   ·exact .inl (by omega)
 have hmid : midL f (sortL f rs name) = S := by
  unfold midL
  rw [hfr, hln, hX]
  rw [List.take_append_of_le_length (by rw [List.length_append, hH, hSl]; omega), List.take_of_length_le (by rw [List.length_append, hH, hSl]; omega), List.drop_left' hH]
 have hsp : spL f name (sortL f rs name) = sortS (sortF f name).1 (spL f name rs) := by
  unfold spL at *
  rw [hmid, hSS, spansL_goods hgood]
 have e : sortL f (sortL f rs name) name = (sortL f rs name).take (fromN f rs) ++ S ++ (sortL f rs name).drop (toN f rs.length) := by
  have e := sortL_eq h2
  rw [hfr, hln, hsp, sortM_again, <- hSS] at e
  exact e
 rw [e, hX, List.append_assoc (rs.take _), List.take_left' hH, <- List.append_assoc, List.drop_left' (by rw [List.length_append, hH, hSl]; omega)]
theorem ordF_rows {f : Fmt} {rs : List RowP} (h : (ordF f rs).2 = 0) : checkF f = 0 /\ (rowsF f rs).2 = 0 := by
 unfold ordF at h
 split at h
 ·rename_i h1; exact absurd h h1
 rename_i h1
 unfold ordR at h
 split at h
 ·rename_i h2; exact absurd h h2
 rename_i h2
 exact ⟨Classical.byContradiction h1, Classical.byContradiction h2⟩
theorem sortE_parts {f : Fmt} {rs : List RowP} {name : ByteArray} (h : sortE f rs name = 0) : (ordF f rs).2 = 0 /\ (sortF f name).2 = 0 := by
 unfold sortE at h
 split at h
 ·rename_i h1; exact absurd h h1
 ·rename_i h1; exact ⟨Classical.byContradiction h1, h⟩
theorem sortE_both {f : Fmt} {rs : List RowP} {name : ByteArray} (h : (ordF f rs).2 = 0) (h2 : (sortF f name).2 = 0) : sortE f rs name = 0 := by
 unfold sortE
 rw [if_neg (fun k => k h), h2]
theorem sortL_bad {f : Fmt} {rs : List RowP} {name : ByteArray} (h : ¬ sortE f rs name = 0) : sortL f rs name = [] := by
 unfold sortL
 rw [if_pos h]
set_option maxHeartbeats 4000000 in
set_option maxRecDepth 100000 in
theorem law_keepA (f : Fmt) (A : Option Addr) (cp : Nat) (FA : Nat -> Option Addr) (FC : Nat -> Nat) (L : Option Addr) (LC : Nat) (rs : List RowP) (RA : Nat -> Option Addr) (RC : Nat -> Nat) (name key : ByteArray) (m0 : Int) (w : World) (ho : Kinds w A f.kinds FA FC) (hl : RowsM w L rs RA RC) (hLC : rs.length <= LC) (hLM : LC <= 9223372036854775807) (hLB : LC * 40 <= 140737488351232) (hcp : f.kinds.length <= cp) (hm : 0 <= f.mark /\ f.mark <= 255) (hq : 0 <= f.quote /\ f.quote <= 255) (ht : Tab w) (hm0 : w.cell? ⟨0, 0, none⟩ = some (.int .i64 m0)) (hE : ¬ sortE f rs name = 0) :
  Calls Tryz.prog 3 #[fmtG f A cp, .slice L rs.length LC, .string name, .string key] w fun e w' => e = .returned (.bool true) /\ Below w.heap.size w w' := by
 have HS1 := Lib.hid (fun w h h2 ht => Sorted_c f A cp FA FC L LC rs RA RC name w h h2 hLC hLM (by omega) hcp hm hq ht)
 have HK := Lib.hid ho; have HRM := Lib.hid hl; have HT := Lib.hid ht; have HM := Lib.hid hm0
 rw [sortL_bad hE] at HS1
 obtain ⟨E, hE1⟩ : ∃ x, sortE f rs name = x := ⟨_, rfl⟩
 rw [hE1] at HS1 hE
 unfold RetSo at HS1
 simp only [List.length_nil] at HS1
 clear hE1 ho hl ht hm0
 obtain ⟨m, q, ks, hd, tl, ct, sm⟩ := f
 unfold fmtG at HS1 ⊢
 simp only at HS1 hcp ⊢
 obtain ⟨nk, hnk⟩ : ∃ n, ks.length = n := ⟨_, rfl⟩
 obtain ⟨nr, hnr⟩ : ∃ x, rs.length = x := ⟨_, rfl⟩
 rw [hnk] at HS1 hcp ⊢
 rw [hnr] at HS1 hLC ⊢
 clear hnk hnr hm hq
 have q1 : (E == 0) = false := by simpa using hE
 have q2 : (E != 0) = true := by simpa using hE
 clear hE
 have HP := Lib.hid (heap_new w (.cells #[.int .u8 m, .int .u8 q, .slice A nk cp, .string hd, .string tl, .string ct, .string sm] 24) rfl)
 have HB1 : Hid (Below w.heap.size w (w.alloc (.cells #[.int .u8 m, .int .u8 q, .slice A nk cp, .string hd, .string tl, .string ct, .string sm] 24))) := Lib.hid (by go_grown)
 go_enter Tryz.func3, Tryz.ntmps3
 go_upto_region 1 with fail
 generalize w.alloc (.cells #[.int .u8 m, .int .u8 q, .slice A nk cp, .string hd, .string tl, .string ct, .string sm] 24) = w1 at HP HB1 ⊢
 obtain ⟨⟨f0, f1, f2, f3, f4, f5, f6⟩, f7⟩ := obox7 HP.out
 go_wp2_with fail
 refine (HS1.out _ (HK.out.below HB1.out) (HRM.out.below HB1.out) (HT.out.below HB1.out)).mono ?_
 rintro _ w2 ⟨X, c, YA, YC, rfl, -, -, hb2⟩
 have HB2 := Lib.hid (below_then hb2 HB1.out HB1.out.size)
 clear f0 f1 f2 f3 f4 f5 f6 f7 HP HB1 hb2
 have HM2 := Lib.hid ((HB2.out.cell (p := ⟨0, 0, none⟩) (World.block_lt_of_cell? _ _ HM.out)).trans HM.out)
 go_wp2_with fail
 refine (awake6_c m0 w2 HM2.out).mono ?_
 rintro _ w5 ⟨rfl, hb5⟩
 have hB5 := below_then hb5 HB2.out HB2.out.size
 go_wp2
 go_ret
 exact ⟨rfl, hB5⟩
set_option maxHeartbeats 4000000 in
set_option maxRecDepth 100000 in
theorem law_keepB (f : Fmt) (A : Option Addr) (cp : Nat) (FA : Nat -> Option Addr) (FC : Nat -> Nat) (L : Option Addr) (LC : Nat) (rs : List RowP) (RA : Nat -> Option Addr) (RC : Nat -> Nat) (name key : ByteArray) (m0 : Int) (w : World) (ho : Kinds w A f.kinds FA FC) (hl : RowsM w L rs RA RC) (hLC : rs.length <= LC) (hLM : LC <= 9223372036854775807) (hLB : LC * 40 <= 140737488351232) (hcp : f.kinds.length <= cp) (hm : 0 <= f.mark /\ f.mark <= 255) (hq : 0 <= f.quote /\ f.quote <= 255) (ht : Tab w) (hm0 : w.cell? ⟨0, 0, none⟩ = some (.int .i64 m0)) (hE : sortE f rs name = 0) (hO : ¬ (ordF f (sortL f rs name)).2 = 0) :
  Calls Tryz.prog 3 #[fmtG f A cp, .slice L rs.length LC, .string name, .string key] w fun e w' => e = .returned (.bool true) /\ Below w.heap.size w w' := by
 have HS1 := Lib.hid (fun w h h2 ht => Sorted_c f A cp FA FC L LC rs RA RC name w h h2 hLC hLM (by omega) hcp hm hq ht)
 have HK := Lib.hid ho; have HRM := Lib.hid hl; have HT := Lib.hid ht; have HM := Lib.hid hm0
 have hp := sortL_perm hE
 have hln := hp.length_eq
 rw [hE] at HS1
 obtain ⟨D, hD⟩ : ∃ x, sortL f rs name = x := ⟨_, rfl⟩
 rw [hD] at HS1 hO hp hln
 have HCO := Lib.hid (fun X c YA YC w h h2 h3 h4 ht => CheckOrder_c f A cp FA FC X c D YA YC w h h2 h3 h4 hcp hm hq ht)
 have HSR := Lib.hid (fun X c YA YC w h h2 => samerows_c X L c LC D rs YA RA YC RC w h h2 (by omega) hp.symm)
 obtain ⟨⟨o1, o2⟩, hO1⟩ : ∃ x, ordF f D = x := ⟨_, rfl⟩
 rw [hO1] at HCO hO
 unfold RetSo at HS1
 unfold RetNF at HCO
 simp only at HCO hO
 clear hO1 ho hl ht hm0 hD hE
 obtain ⟨m, q, ks, hd, tl, ct, sm⟩ := f
 unfold fmtG at HS1 HCO ⊢
 simp only at HS1 HCO hcp ⊢
 obtain ⟨nk, hnk⟩ : ∃ n, ks.length = n := ⟨_, rfl⟩
 obtain ⟨nr, hnr⟩ : ∃ x, rs.length = x := ⟨_, rfl⟩
 have hln2 := hln.trans hnr
 have HLN := Lib.hid hln2
 rw [hnk] at HS1 HCO hcp ⊢
 rw [hnr] at HSR HS1 hLC ⊢
 rw [hln2] at HSR HCO HS1
 clear hnk hnr hm hq hp hln hln2
 have q1 : (o2 == 0) = false := by simpa using hO
 have q2 : (o2 != 0) = true := by simpa using hO
 clear hO
 have HP := Lib.hid (heap_new w (.cells #[.int .u8 m, .int .u8 q, .slice A nk cp, .string hd, .string tl, .string ct, .string sm] 24) rfl)
 have HB1 : Hid (Below w.heap.size w (w.alloc (.cells #[.int .u8 m, .int .u8 q, .slice A nk cp, .string hd, .string tl, .string ct, .string sm] 24))) := Lib.hid (by go_grown)
 go_enter Tryz.func3, Tryz.ntmps3
 go_upto_region 1 with fail
 generalize w.alloc (.cells #[.int .u8 m, .int .u8 q, .slice A nk cp, .string hd, .string tl, .string ct, .string sm] 24) = w1 at HP HB1 ⊢
 obtain ⟨⟨f0, f1, f2, f3, f4, f5, f6⟩, f7⟩ := obox7 HP.out
 go_wp2_with fail
 refine (HS1.out _ (HK.out.below HB1.out) (HRM.out.below HB1.out) (HT.out.below HB1.out)).mono ?_
 rintro _ w2 ⟨X, c, YA, YC, rfl, hx, ⟨hxc, hxm⟩, hb2⟩
 have HP2 := Lib.hid (heap_below HP.out hb2); have HB2 := Lib.hid (below_then hb2 HB1.out HB1.out.size)
 have HX2 := Lib.hid hx
 clear f0 f1 f2 f3 f4 f5 f6 f7 HP HB1 hb2 hx
 obtain ⟨⟨f0, f1, f2, f3, f4, f5, f6⟩, f7⟩ := obox7 HP2.out
 go_wp2_with fail
 refine (HCO.out X c YA YC w2 (HK.out.below HB2.out) HX2.out hxc hxm (HT.out.below HB2.out)).mono ?_
 rintro _ w3 ⟨rfl, hb3⟩
 have HB3 := Lib.hid (below_then hb3 HB2.out HB2.out.size)
 have HX3 := Lib.hid (HX2.out.below hb3)
 clear f0 f1 f2 f3 f4 f5 f6 f7 HP2 HB2 hb3 HX2
 go_wp2_with fail
 refine (HSR.out X c YA YC w3 HX3.out (HRM.out.below HB3.out)).mono ?_
 rintro _ w4 ⟨rfl, hb4⟩
 have HB4 := Lib.hid (below_then hb4 HB3.out HB3.out.size)
 clear HB3 HX3 hb4
 have HM4 := Lib.hid ((HB4.out.cell (p := ⟨0, 0, none⟩) (World.block_lt_of_cell? _ _ HM.out)).trans HM.out)
 go_wp2_with fail
 refine (awake6_c m0 w4 HM4.out).mono ?_
 rintro _ w5 ⟨rfl, hb5⟩
 have hB5 := below_then hb5 HB4.out HB4.out.size
 go_wp2
 go_ret
 exact ⟨rfl, hB5⟩
set_option maxHeartbeats 4000000 in
set_option maxRecDepth 100000 in
theorem law_keepC (f : Fmt) (A : Option Addr) (cp : Nat) (FA : Nat -> Option Addr) (FC : Nat -> Nat) (L : Option Addr) (LC : Nat) (rs : List RowP) (RA : Nat -> Option Addr) (RC : Nat -> Nat) (name key : ByteArray) (m0 : Int) (w : World) (ho : Kinds w A f.kinds FA FC) (hl : RowsM w L rs RA RC) (hLC : rs.length <= LC) (hLM : LC <= 9223372036854775807) (hLB : LC * 40 <= 140737488351232) (hcp : f.kinds.length <= cp) (hm : 0 <= f.mark /\ f.mark <= 255) (hq : 0 <= f.quote /\ f.quote <= 255) (ht : Tab w) (hm0 : w.cell? ⟨0, 0, none⟩ = some (.int .i64 m0)) (hE : sortE f rs name = 0) (hO : (ordF f (sortL f rs name)).2 = 0) :
  Calls Tryz.prog 3 #[fmtG f A cp, .slice L rs.length LC, .string name, .string key] w fun e w' => e = .returned (.bool true) /\ Below w.heap.size w w' := by
 have HS1 := Lib.hid (fun w h h2 ht => Sorted_c f A cp FA FC L LC rs RA RC name w h h2 hLC hLM (by omega) hcp hm hq ht)
 have HK := Lib.hid ho; have HRM := Lib.hid hl; have HT := Lib.hid ht; have HM := Lib.hid hm0
 have hp := sortL_perm hE
 have hln := hp.length_eq
 have hE2 := sortE_both hO (sortE_parts hE).2
 have hD2 := sortL_again hE hE2
 have hc1 := ordF_rows hO
 have hc2 := ordF_rows (sortE_parts hE).1
 have hde := diff_err (name := key) hc1.1 hc1.2 hc2.2
 have hdl := diff_same (f := f) (name := key) hp
 rw [hE] at HS1
 obtain ⟨D, hD⟩ : ∃ x, sortL f rs name = x := ⟨_, rfl⟩
 rw [hD] at HS1 hO hp hln hE2 hD2 hde hdl
 have HCO := Lib.hid (fun X c YA YC w h h2 h3 h4 ht => CheckOrder_c f A cp FA FC X c D YA YC w h h2 h3 h4 hcp hm hq ht)
 have HSR := Lib.hid (fun X c YA YC w h h2 => samerows_c X L c LC D rs YA RA YC RC w h h2 (by omega) hp.symm)
 have HSA := Lib.hid (fun X X2 c c2 YA YA2 YC YC2 w h h2 => same_c X X2 c c2 D YA YA2 YC YC2 w h h2)
 have HS2 := Lib.hid (fun X c YA YC w h h2 h3 h4 ht => Sorted_c f A cp FA FC X c D YA YC name w h h2 h3 h4 (by omega) hcp hm hq ht)
 have HDF := Lib.hid (fun X c YA YC w h h2 h3 ht => diff_c f A cp FA FC X c D YA YC L LC rs RA RC key w h h2 h3 hcp hm hq ht)
 rw [hE2, hD2] at HS2
 rw [hdl] at HDF
 obtain ⟨⟨o1, o2⟩, hO1⟩ : ∃ x, ordF f D = x := ⟨_, rfl⟩
 rw [hO1] at HCO hO
 simp only at hO
 subst hO
 obtain ⟨g, hG⟩ : ∃ x, diffE f D rs key = x := ⟨_, rfl⟩
 rw [hG] at HDF hde
 have HDE := Lib.hid hde
 unfold RetSo at HS1 HS2
 unfold RetNF at HCO
 unfold RetDf at HDF
 unfold RetB at HSA
 simp only [List.length_nil] at HCO HDF
 clear hO1 ho hl ht hm0 hD hE hE2 hD2 hc1 hc2 hdl hG hde
 obtain ⟨m, q, ks, hd, tl, ct, sm⟩ := f
 unfold fmtG at HS1 HS2 HCO HDF ⊢
 simp only at HS1 HS2 HCO HDF hcp ⊢
 obtain ⟨nk, hnk⟩ : ∃ n, ks.length = n := ⟨_, rfl⟩
 obtain ⟨nr, hnr⟩ : ∃ x, rs.length = x := ⟨_, rfl⟩
 have hln2 := hln.trans hnr
 have HLN := Lib.hid hln2
 rw [hnk] at HS1 HS2 HCO HDF hcp ⊢
 rw [hnr] at HSR HS1 HDF hLC ⊢
 rw [hln2] at HSR HCO HS1 HS2 HDF HSA
 clear hnk hnr hm hq hp hln hln2
 have HP := Lib.hid (heap_new w (.cells #[.int .u8 m, .int .u8 q, .slice A nk cp, .string hd, .string tl, .string ct, .string sm] 24) rfl)
 have HB1 : Hid (Below w.heap.size w (w.alloc (.cells #[.int .u8 m, .int .u8 q, .slice A nk cp, .string hd, .string tl, .string ct, .string sm] 24))) := Lib.hid (by go_grown)
 go_enter Tryz.func3, Tryz.ntmps3
 go_upto_region 1 with fail
 generalize w.alloc (.cells #[.int .u8 m, .int .u8 q, .slice A nk cp, .string hd, .string tl, .string ct, .string sm] 24) = w1 at HP HB1 ⊢
 obtain ⟨⟨f0, f1, f2, f3, f4, f5, f6⟩, f7⟩ := obox7 HP.out
 go_wp2_with fail
 refine (HS1.out _ (HK.out.below HB1.out) (HRM.out.below HB1.out) (HT.out.below HB1.out)).mono ?_
 rintro _ w2 ⟨X, c, YA, YC, rfl, hx, ⟨hxc, hxm⟩, hb2⟩
 have HP2 := Lib.hid (heap_below HP.out hb2); have HB2 := Lib.hid (below_then hb2 HB1.out HB1.out.size)
 have HX2 := Lib.hid hx
 clear f0 f1 f2 f3 f4 f5 f6 f7 HP HB1 hb2 hx
 obtain ⟨⟨f0, f1, f2, f3, f4, f5, f6⟩, f7⟩ := obox7 HP2.out
 go_wp2_with fail
 refine (HCO.out X c YA YC w2 (HK.out.below HB2.out) HX2.out hxc hxm (HT.out.below HB2.out)).mono ?_
 rintro _ w3 ⟨rfl, hb3⟩
 have HP3 := Lib.hid (heap_below HP2.out hb3)
 have HB3 := Lib.hid (below_then hb3 HB2.out HB2.out.size)
 have HX3 := Lib.hid (HX2.out.below hb3)
 clear f0 f1 f2 f3 f4 f5 f6 f7 HP2 HB2 hb3 HX2
 obtain ⟨⟨f0, f1, f2, f3, f4, f5, f6⟩, f7⟩ := obox7 HP3.out
 go_wp2_with fail
 refine (HS2.out X c YA YC w3 (HK.out.below HB3.out) HX3.out hxc hxm (HT.out.below HB3.out)).mono ?_
 rintro _ w4 ⟨X2, c2, YA2, YC2, rfl, hx2, -, hb4⟩
 have HP4 := Lib.hid (heap_below HP3.out hb4)
 have HB4 := Lib.hid (below_then hb4 HB3.out HB3.out.size)
 have HX4 := Lib.hid (HX3.out.below hb4); have HY4 := Lib.hid hx2
 clear f0 f1 f2 f3 f4 f5 f6 f7 HP3 HB3 hb4 HX3 hx2
 go_wp2_with fail
 refine (HSA.out X X2 c c2 YA YA2 YC YC2 w4 HX4.out HY4.out).mono ?_
 rintro _ w5 ⟨rfl, hb5⟩
 have HP5 := Lib.hid (heap_below HP4.out hb5)
 have HB5 := Lib.hid (below_then hb5 HB4.out HB4.out.size)
 have HX5 := Lib.hid (HX4.out.below hb5)
 clear HP4 HB4 HX4 HY4 hb5
 go_wp2_with fail
 refine (HSR.out X c YA YC w5 HX5.out (HRM.out.below HB5.out)).mono ?_
 rintro _ w6 ⟨rfl, hb6⟩
 have HP6 := Lib.hid (heap_below HP5.out hb6)
 have HB6 := Lib.hid (below_then hb6 HB5.out HB5.out.size)
 have HX6 := Lib.hid (HX5.out.below hb6)
 clear HP5 HB5 HX5 hb6
 have HM6 := Lib.hid ((HB6.out.cell (p := ⟨0, 0, none⟩) (World.block_lt_of_cell? _ _ HM.out)).trans HM.out)
 go_wp2_with fail
 refine (awake6_c m0 w6 HM6.out).mono ?_
 rintro _ w7 ⟨rfl, hb7⟩
 have HP7 := Lib.hid (heap_below HP6.out hb7)
 have HB7 := Lib.hid (below_then hb7 HB6.out HB6.out.size)
 have HX7 := Lib.hid (HX6.out.below hb7)
 clear HP6 HB6 HX6 hb7 HM6
 obtain ⟨⟨f0, f1, f2, f3, f4, f5, f6⟩, f7⟩ := obox7 HP7.out
 go_wp2_with fail
 refine (HDF.out X c YA YC w7 (HK.out.below HB7.out) HX7.out (HRM.out.below HB7.out) (HT.out.below HB7.out)).mono ?_
 rintro _ w8 ⟨Z, d, rfl, -, -, -, hb8⟩
 have hB8 := below_then hb8 HB7.out HB7.out.size
 have HB8 := Lib.hid hB8
 clear f0 f1 f2 f3 f4 f5 f6 f7 HP7 HB7 HX7 hb8 hB8
 rcases HDE.out with rfl | rfl | rfl | rfl
 all_goals
  go_wp2
  go_ret
  exact ⟨rfl, HB8.out⟩
theorem law_keep (f : Fmt) (A : Option Addr) (cp : Nat) (FA : Nat -> Option Addr) (FC : Nat -> Nat) (L : Option Addr) (LC : Nat) (rs : List RowP) (RA : Nat -> Option Addr) (RC : Nat -> Nat) (name key : ByteArray) (m0 : Int) (w : World) (ho : Kinds w A f.kinds FA FC) (hl : RowsM w L rs RA RC) (hLC : rs.length <= LC) (hLM : LC <= 9223372036854775807) (hLB : LC * 40 <= 140737488351232) (hcp : f.kinds.length <= cp) (hm : 0 <= f.mark /\ f.mark <= 255) (hq : 0 <= f.quote /\ f.quote <= 255) (ht : Tab w) (hm0 : w.cell? ⟨0, 0, none⟩ = some (.int .i64 m0)) :
  Calls Tryz.prog 3 #[fmtG f A cp, .slice L rs.length LC, .string name, .string key] w fun e w' => e = .returned (.bool true) /\ Below w.heap.size w w' := by
 by_cases hE : sortE f rs name = 0
 ·by_cases hO : (ordF f (sortL f rs name)).2 = 0
  ·exact law_keepC f A cp FA FC L LC rs RA RC name key m0 w ho hl hLC hLM hLB hcp hm hq ht hm0 hE hO
  ·exact law_keepB f A cp FA FC L LC rs RA RC name key m0 w ho hl hLC hLM hLB hcp hm hq ht hm0 hE hO
 ·exact law_keepA f A cp FA FC L LC rs RA RC name key m0 w ho hl hLC hLM hLB hcp hm hq ht hm0 hE
theorem law_keep_i (f : Fmt) (A : Option Addr) (cp : Nat) (FA : Nat -> Option Addr) (FC : Nat -> Nat) (L : Option Addr) (LC : Nat) (rs : List RowP) (RA : Nat -> Option Addr) (RC : Nat -> Nat) (name key : ByteArray) (w : World) (ho : Kinds w A f.kinds FA FC) (hl : RowsM w L rs RA RC) (hLC : rs.length <= LC) (hLM : LC <= 9223372036854775807) (hLB : LC * 40 <= 140737488351232) (hcp : f.kinds.length <= cp) (hm : 0 <= f.mark /\ f.mark <= 255) (hq : 0 <= f.quote /\ f.quote <= 255) (ht : Tab w) (hm0 : ∃ m, w.cell? ⟨0, 0, none⟩ = some (.int .i64 m)) :
  Calls Tryz.prog 3 #[fmtG f A cp, .slice L rs.length LC, .string name, .string key] w fun e w' => e = .returned (.bool true) /\ Below w.heap.size w w' := by
 obtain ⟨m0, h⟩ := hm0
 exact law_keep f A cp FA FC L LC rs RA RC name key m0 w ho hl hLC hLM hLB hcp hm hq ht h
end Go.Proofs.YtbnjejenejoibaaGreatDoor
