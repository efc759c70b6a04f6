
/- The walk of Differences. -/
import Derived.Test.YtbnjejenejoibaaGreatDoorDFL
import Derived.Test.YtbnjejenejoibaaGreatDoorDFN
import Derived.Test.YtbnjejenejoibaaGreatDoorDFP
import Derived.Test.YtbnjejenejoibaaGreatDoorSQU
namespace Go.Proofs.YtbnjejenejoibaaGreatDoor
open Go.RowKit Limb Nmb Work Go.Maps
set_option linter.unusedVariables false
set_option linter.unusedSimpArgs false
theorem dbelow_grown {w w' : World} (h : Below w.heap.size w w') : w.grownBy w' none := ⟨h.os, h.tape, h.output, h.size, fun k hk _ => h.block k hk⟩
theorem dgrown_heap {w w' : World} {B E g n size : Nat} {cs : Array Value} {T : TypeId} {f : Nat × Nat} {v : Value} {xs : List Value} (h : w.heap[g]? = some (.cells cs T f)) (hown : w.ownsRow B E size v n xs) (hg : w.grownBy w' v.ownBlock) (hne : E ≠ T) : w'.heap[g]? = some (.cells cs T f) := by
 refine (hg.block g (lt_heap h) ?_).trans h
 rcases hown.2 with ⟨hv, _⟩ | ⟨g', cap, cur, hv, _, hh, _⟩
 ·subst hv; simp [Value.ownBlock]
 ·subst hv
  have := heap_ne hh h hne
  simp [Value.ownBlock]
  omega
theorem dbelow_dn {B : Nat} {a w : World} (h : Below B a w) (n : Nat) : Below B a (w.drewN n) := ⟨h.os, h.tape, h.output, h.size, h.block⟩
def RetDf (l : List ChgP) (e : Int) (w : World) (E : Ending) (w' : World) : Prop := ∃ A c, E = .returned (.tuple #[.slice A l.length c, .int .i64 e]) /\ Chgs w' A l /\ l.length <= c /\ c <= maxLen /\ Below w.heap.size w w'
theorem RetDf.bad {l : List ChgP} {e : Int} {w w' : World} (h : l = []) (hb : Below w.heap.size w w') : RetDf l e w (.returned (.tuple #[.slice none 0 0, .int .i64 e])) w' := by
 subst h
 exact ⟨none, 0, rfl, fun h => absurd h (Nat.lt_irrefl _), Nat.le_refl _, Nat.zero_le _, hb⟩
def OutSt (w1 wr : World) (X : Option Addr) (n c : Nat) (l : List ChgP) : Prop := l.length = n /\ wr.ownsRow w1.heap.size 39 4 (.slice X n c) n (chgC l) /\ Below w1.heap.size w1 wr
theorem OutSt.nil (w1 : World) : OutSt w1 w1 none 0 0 [] := ⟨rfl, World.ownsRow_nil _ _ _ _, Below.refl _ _⟩
theorem OutSt.below {w1 wr w' : World} {X : Option Addr} {n c : Nat} {l : List ChgP} (h : OutSt w1 wr X n c l) (hb : Below wr.heap.size wr w') : OutSt w1 w' X n c l :=
 ⟨h.1, own_below h.2.1 hb, below_then hb h.2.2 h.2.2.size⟩
theorem OutSt.push {w1 wr w' : World} {X X' : Option Addr} {n c c' : Nat} {l : List ChgP} {x : ChgP} (h : OutSt w1 wr X n c l)
  (ho : w'.ownsRow w1.heap.size 39 4 (.slice X' (n + 1) c') (n + 1) (chgC l ++ chgE x)) (hg : wr.grownBy w' (Value.slice X n c).ownBlock) : OutSt w1 w' X' (n + 1) c' (l ++ [x]) :=
 ⟨by rw [List.length_append, h.1]; rfl, by rw [<- chgC_snoc]; exact ho, h.2.2.grown hg h.2.2.size (fun j hj => (h.2.1.lt j hj).1)⟩
theorem OutSt.ret {w w1 wr : World} {X : Option Addr} {n c : Nat} {l : List ChgP} (h : OutSt w1 wr X n c l) (hb : Below w.heap.size w w1) (hs : w.heap.size <= w1.heap.size) : RetDf l 0 w (.returned (.tuple #[.slice X n c, .int .i64 0])) wr := by
 have hc := own_cap h.2.1
 exact ⟨X, c, by rw [h.1], own_chgs h.2.1 h.1, by rw [h.1]; exact hc.1, hc.2, below_then h.2.2 hb hs⟩
theorem idR_tag {f : Fmt} {name : ByteArray} {r : RowP} {k : KeyP} (h : idR f name r = some k) : k.tag = r.tag := by
 unfold idR at h
 split at h
 ·cases h
 ·cases h; rfl
theorem oth_len (k : KeyP) (cs : List Col) (r s : List ByteArray) : ∀ i, (othL k cs r s i).length <= i
 | 0 => Nat.le_refl _
 | i + 1 => by
  have := oth_len k cs r s i
  unfold othL
  rw [List.length_append]
  split <;> simp <;> omega
theorem chg_gone {f : Fmt} {name : ByteArray} {rs ss : List RowP} {k : KeyP} (h : lookI (idxI f name ss ss.length) k = none) : chgK f (idsF f name rs) (idsF f name ss) k = [⟨k.tag, k.key, 1, ⟨#[]⟩⟩] := by
 unfold chgK
 rw [lookK_ids f name ss, h]
 simp
theorem chg_new {f : Fmt} {name : ByteArray} {rs ss : List RowP} {k : KeyP} {j : Nat} (h1 : lookI (idxI f name rs rs.length) k = none) (h2 : lookI (idxI f name ss ss.length) k = some j) : chgK f (idsF f name rs) (idsF f name ss) k = [⟨k.tag, k.key, 2, ⟨#[]⟩⟩] := by
 unfold chgK
 rw [lookK_ids f name ss, lookK_ids f name rs, h1, h2]
 rfl
theorem chg_other {f : Fmt} {name : ByteArray} {rs ss : List RowP} {k : KeyP} {i j : Nat} (h1 : lookI (idxI f name rs rs.length) k = some i) (h2 : lookI (idxI f name ss ss.length) k = some j) :
  chgK f (idsF f name rs) (idsF f name ss) k = othL k (katK f k.tag).fields (rA rs i).vals (rA ss j).vals (katK f k.tag).fields.length := by
 unfold chgK
 rw [lookK_ids f name ss, lookK_ids f name rs, h1, h2]
 rfl
theorem look_row {f : Fmt} {name : ByteArray} {rs : List RowP} {k : KeyP} {i : Nat} (h : lookI (idxI f name rs rs.length) k = some i) : i < rs.length /\ (rA rs i).tag = k.tag := by
 obtain ⟨h1, h2⟩ := idxI_lt f name rs rs.length _ (lookI_mem h)
 exact ⟨h1, (idR_tag h2).symm⟩
theorem chg_len {f : Fmt} {name : ByteArray} {rs ss : List RowP} (h50 : ∀ t, (katK f t).fields.length <= 50) (k : KeyP) : (chgK f (idsF f name rs) (idsF f name ss) k).length <= 50 := by
 cases h2 : lookI (idxI f name ss ss.length) k with
 | none => rw [chg_gone h2]; simp
 | some j =>
  cases h1 : lookI (idxI f name rs rs.length) k with
  | none => rw [chg_new h1 h2]; simp
  | some i => rw [chg_other h1 h2]; exact Nat.le_trans (oth_len _ _ _ _ _) (h50 _)
theorem dflat_take {α : Type} {g : α -> List ChgP} {l : List α} {j : Nat} (h : j < l.length) : (l.take (j + 1)).flatMap g = (l.take j).flatMap g ++ g l[j] := by
 rw [List.take_succ_eq_append_getElem h, List.flatMap_append]
 simp
theorem kat_many {f : Fmt} (hf : checkF f = 0) (t : ByteArray) : (katK f t).fields.length <= 50 := by
 rcases kat_cases f (fun _ => none) (fun _ => 0) t with ⟨-, h, -, -⟩ | ⟨k, hk, -, h, -, -⟩
 ·rw [h]; exact Nat.zero_le _
 ·rw [h]; exact ((checkF_ok hf).kinds k hk).many
theorem keys_both {a b : List (KeyP × RowP)} (ha : oneB a = true) (hb : oneB b = true) {ss : List KeyP} (hn : ss.Nodup) (hS : ∀ x, KeyZ x -> (x ∈ ss ↔ x ∈ keysL a ∨ x ∈ keysL b)) (hz : ∀ x ∈ ss, KeyZ x) (hza : ∀ x ∈ keysL a, KeyZ x) (hzb : ∀ x ∈ keysL b, KeyZ x) : srtK ss = srtK (bothK a b) :=
 srtK_perm ((List.perm_ext_iff_of_nodup hn (both_nodup ha hb)).2 fun x => by
  rw [both_mem]
  constructor
  ·exact fun h => (hS x (hz x h)).1 h
  ·intro h
   refine (hS x ?_).2 h
   rcases h with h | h
   ·exact hza x h
   ·exact hzb x h)
theorem MapK.keyZ {P : Program} {T : TypeId} {w : World} {b n : Nat} {m : List (KeyP × Value)} (h : MapK P T w b n m) : ∀ k ∈ m.map (·.1), KeyZ k := by
 obtain ⟨D, h1, h2⟩ := h
 exact h2.2.2
theorem zeroRow (w : World) : (zeroValue 51).run Tryz.prog w = .ok (rowE (⟨#[]⟩, none, 0, 0)) w := by kernel_rfl
theorem look_cases {w : World} {b n : Nat} {rs : List RowP} {RA : Nat -> Option Addr} {RC : Nat -> Nat} {l : List (KeyP × Nat)} (h : MapK Tryz.prog 73 w b n (mapI rs RA RC l)) {k : KeyP} (hk : KeyZ k) :
  ∃ (t : ByteArray) (a : Option Addr) (y z : Nat) (B : Bool), (Instr.lookup 68 (.map (some b)) (.agg #[.string k.tag, .string k.key]) true).run Tryz.prog w = .ok (.tuple #[.agg #[.string t, .slice a y z], .bool B]) w /\
   ((lookI l k = none /\ B = false) ∨ ∃ i, lookI l k = some i /\ B = true /\ t = (rA rs i).tag /\ a = RA i /\ y = (rA rs i).vals.length /\ z = RC i) := by
 have hlk := h.look keysK Tryz.underlying68 (z := (⟨#[]⟩, none, 0, 0)) (zeroRow w) hk
 rw [lookV_mapI] at hlk
 cases hq : lookI l k with
 | none =>
  rw [hq] at hlk
  exact ⟨_, _, _, _, _, hlk, .inl ⟨rfl, rfl⟩⟩
 | some i =>
  rw [hq] at hlk
  exact ⟨_, _, _, _, _, hlk, .inr ⟨i, rfl, rfl, rfl, rfl, rfl, rfl⟩⟩
set_option maxHeartbeats 8000000 in
set_option maxRecDepth 100000 in
theorem diff_c (f : Fmt) (A : Option Addr) (cp : Nat) (FA : Nat -> Option Addr) (FC : Nat -> Nat) (L : Option Addr) (LC : Nat) (rs : List RowP) (RA : Nat -> Option Addr) (RC : Nat -> Nat) (M : Option Addr) (MC : Nat) (ss : List RowP) (SA : Nat -> Option Addr) (SC : Nat -> Nat) (name : ByteArray) (w : World) (ho : Kinds w A f.kinds FA FC) (hl : RowsM w L rs RA RC) (hl2 : RowsM w M ss SA SC) (hcp : f.kinds.length <= cp) (hm : 0 <= f.mark /\ f.mark <= 255) (hq : 0 <= f.quote /\ f.quote <= 255) (ht : Tab w) :
  Calls Tryz.prog 10 #[fmtG f A cp, .slice L rs.length LC, .slice M ss.length MC, .string name] w (RetDf (diffL f rs ss name) (diffE f rs ss name) w) := by
 obtain ⟨i0, hi, hz0, hz1, hz2⟩ := info_parts Tryz.infoChg
 have HKA := Lib.hid (fun t w h => kindat_c f A cp FA FC t w h)
 have HCC := Lib.hid (fun t => kat_cases f FA FC t)
 have HCH := Lib.hid (fun w h => check_c f A cp FA FC w h hcp hm hq)
 have HCR := Lib.hid (fun hf w h h2 ht => chkrows_c f A cp FA FC L LC rs RA RC w h h2 hcp hf hm ht)
 have HCS := Lib.hid (fun hf w h h2 ht => chkrows_c f A cp FA FC M MC ss SA SC w h h2 hcp hf hm ht)
 have HAN := Lib.hid (fun b w h hb => anyhas_c b name A cp f.kinds FA FC w h hb)
 have HBX := Lib.hid (fun w h h2 hk hn => bykey_c f A cp FA FC L LC rs RA RC name w h h2 hk hn)
 have HBY := Lib.hid (fun w h h2 hk hn => bykey_c f A cp FA FC M MC ss SA SC name w h h2 hk hn)
 have HRX := Lib.hid (fun (h : (rowsF f rs).2 = 0) j (hj : j < rs.length) => rowF_ok (frF_zero (g := fun j => (rowF f (rA rs j)).2) h j hj))
 have HRY := Lib.hid (fun (h : (rowsF f ss).2 = 0) j (hj : j < ss.length) => rowF_ok (frF_zero (g := fun j => (rowF f (rA ss j)).2) h j hj))
 have H50 := Lib.hid (fun (h : checkF f = 0) k => chg_len (f := f) (name := name) (rs := rs) (ss := ss) (kat_many h) k)
 have H50K := Lib.hid (fun (h : checkF f = 0) t => kat_many h t)
 have HC1 := Lib.hid (fun k h => chg_gone (f := f) (name := name) (rs := rs) (ss := ss) (k := k) h)
 have HC2 := Lib.hid (fun k j h h2 => chg_new (f := f) (name := name) (rs := rs) (ss := ss) (k := k) (j := j) h h2)
 have HC3 := Lib.hid (fun k i j h h2 => chg_other (f := f) (name := name) (rs := rs) (ss := ss) (k := k) (i := i) (j := j) h h2)
 have HLX := Lib.hid (fun k i h => look_row (f := f) (name := name) (rs := rs) (k := k) (i := i) h)
 have HLY := Lib.hid (fun k i h => look_row (f := f) (name := name) (rs := ss) (k := k) (i := i) h)
 have HKX := Lib.hid (idxI_keys f name rs)
 have HKY := Lib.hid (idxI_keys f name ss)
 have HKB := Lib.hid (fun (h1 : oneB (idsF f name rs) = true) (h2 : oneB (idsF f name ss) = true) tt hn hS hz hza hzb => keys_both (ss := tt) h1 h2 hn hS hz hza hzb)
 have HKI := Lib.hid ho; have HLM := Lib.hid hl; have HLS := Lib.hid hl2; have HTB := Lib.hid ht
 obtain ⟨R, hR⟩ : ∃ x, diffE f rs ss name = x := ⟨_, rfl⟩
 obtain ⟨DL, hDL⟩ : ∃ x, diffL f rs ss name = x := ⟨_, rfl⟩
 have HR := Lib.hid (show (if checkF f ≠ 0 then checkF f else if 2000 < rs.length ∨ 2000 < ss.length then 2 else if (rowsF f rs).2 ≠ 0 then (rowsF f rs).2 else if (rowsF f ss).2 ≠ 0 then (rowsF f ss).2 else if (f.kinds.any fun k => decide (0 <= ixF (nameIs name) k.fields)) = false then 5 else if oneB (idsF f name rs) = false ∨ oneB (idsF f name ss) = false then 7 else 0) = R from hR)
 have HDE := Lib.hid (fun (h : R ≠ 0) => show DL = [] by rw [<- hDL]; unfold diffL; rw [hR, if_pos h])
 have HDO := Lib.hid (fun (h : R = 0) => show DL = (srtK (bothK (idsF f name rs) (idsF f name ss))).flatMap (chgK f (idsF f name rs) (idsF f name ss)) by rw [<- hDL]; unfold diffL; rw [hR, if_neg (fun k => k h)])
 rw [hR, hDL]
 obtain ⟨X, hX⟩ : ∃ x, checkF f = x := ⟨_, rfl⟩
 obtain ⟨Y1, hY1⟩ : ∃ x, rowsF f rs = x := ⟨_, rfl⟩
 obtain ⟨Y2, hY2⟩ : ∃ x, rowsF f ss = x := ⟨_, rfl⟩
 obtain ⟨HAS, hHAS⟩ : ∃ x, (f.kinds.any fun k => decide (0 <= ixF (nameIs name) k.fields)) = x := ⟨_, rfl⟩
 obtain ⟨CH, hCH⟩ : ∃ x, chgK f (idsF f name rs) (idsF f name ss) = x := ⟨_, rfl⟩
 unfold RetBy at HBX HBY
 obtain ⟨I1, hI1⟩ : ∃ x, idsF f name rs = x := ⟨_, rfl⟩
 obtain ⟨I2, hI2⟩ : ∃ x, idsF f name ss = x := ⟨_, rfl⟩
 obtain ⟨IX, hIX⟩ : ∃ x, idxI f name rs rs.length = x := ⟨_, rfl⟩
 obtain ⟨IY, hIY⟩ : ∃ x, idxI f name ss ss.length = x := ⟨_, rfl⟩
 rw [hX] at HCH HCR HCS HR H50 H50K
 rw [hY1] at HCR HR HRX
 rw [hY2] at HCS HR HRY
 rw [hHAS] at HAN HR
 rw [hCH] at HDO H50
 rw [hI1] at HR HDO HBX HKX HKB
 rw [hI2] at HR HDO HBY HKY HKB
 rw [hIX] at HBX HKX
 rw [hIY] at HBY HKY
 simp only [hCH, hIX, hIY] at HC1 HC2 HC3 HLX HLY
 unfold RetNF at HCR HCS
 unfold RetI at HCH
 have hnr := hl.len
 have hns := hl2.len
 clear ho hl hl2 ht hR hDL hX hY1 hY2 hHAS hCH hI1 hI2 hIX hIY hq
 obtain ⟨m, q, ks, hd, tl, ct, sm⟩ := f
 unfold fmtG at HKA HCH HCR HCS HBX HBY ⊢
 simp only at HKA HCC HCH HCR HCS HAN HBX HBY HRX HRY HC3 H50K HKI hcp hm ⊢
 obtain ⟨n, hn⟩ : ∃ x, ks.length = x := ⟨_, rfl⟩
 rw [hn] at HKA HCH HCR HCS HAN HBX HBY hcp ⊢
 clear hn
 obtain ⟨nr, hnr2⟩ : ∃ x, rs.length = x := ⟨_, rfl⟩
 obtain ⟨ns, hns2⟩ : ∃ x, ss.length = x := ⟨_, rfl⟩
 have HNR := Lib.hid hnr2; have HNS := Lib.hid hns2
 rw [hnr2] at HCR HR HBX HRX HLX hnr ⊢
 rw [hns2] at HCS HR HBY HRY HLY hns ⊢
 clear hnr2 hns2
 obtain ⟨x1, e1⟩ := Y1
 obtain ⟨x2, e2⟩ := Y2
 simp only at HCR HCS HR HRX HRY
 have hF0 := heap_old (heap_new w (.cells #[.int .u8 m, .int .u8 q, .slice A n cp, .string hd, .string tl, .string ct, .string sm] 24) rfl) (.cells #[.string name] 9)
 have hN0 := heap_new (w.alloc (.cells #[.int .u8 m, .int .u8 q, .slice A n cp, .string hd, .string tl, .string ct, .string sm] 24)) (.cells #[.string name] 9) (g := w.heap.size + 1) (by simp)
 have hB0 : Below w.heap.size w ((w.alloc (.cells #[.int .u8 m, .int .u8 q, .slice A n cp, .string hd, .string tl, .string ct, .string sm] 24)).alloc (.cells #[.string name] 9)) := by go_grown
 go_enter Tryz.func10, Tryz.ntmps10
 go_upto_region 1 with fail
 generalize (w.alloc (.cells #[.int .u8 m, .int .u8 q, .slice A n cp, .string hd, .string tl, .string ct, .string sm] 24)).alloc (.cells #[.string name] 9) = w1 at hF0 hN0 hB0 ⊢
 have HW := Lib.hid (show ∀ wx, Below w1.heap.size w1 wx -> wx.heap[w.heap.size]? = some (.cells #[.int .u8 m, .int .u8 q, .slice A n cp, .string hd, .string tl, .string ct, .string sm] 24 (0, 0)) /\ wx.heap[w.heap.size + 1]? = some (.cells #[.string name] 9 (0, 0)) /\ Kinds wx A ks FA FC /\ RowsM wx L rs RA RC /\ RowsM wx M ss SA SC /\ Tab wx /\ Below w.heap.size w wx from fun wx h => by
  have h2 := below_then h hB0 hB0.size
  exact ⟨heap_below hF0 h, heap_below hN0 h, HKI.out.below h2, HLM.out.below h2, HLS.out.below h2, HTB.out.below h2, h2⟩)
 obtain ⟨⟨f0, f1, f2, f3, f4, f5, f6⟩, f7⟩ := obox7 hF0
 clear hF0 hN0 hB0
 go_wp2_with fail
 refine (HCH.out _ (HW.out _ (Below.refl _ _)).2.2.1).mono ?_
 rintro _ w2 ⟨rfl, hb2⟩
 have HB2 := Lib.hid hb2
 clear f0 f1 f2 f3 f4 f5 f6 f7 hb2
 by_cases h0 : X = 0
 case neg =>
  have HE := Lib.hid (show R = X by rw [<- HR.out, if_pos h0])
  have HD := Lib.hid (HDE.out (by rw [HE.out]; exact h0))
  have h0a : (X != 0) = true := by simpa using h0
  clear h0
  go_wp2
  go_ret2
  rw [HE.out]
  exact RetDf.bad HD.out (HW.out _ HB2.out).2.2.2.2.2.2
 subst h0
 have HLR1 := Lib.hid (show (if 2000 < nr ∨ 2000 < ns then 2 else if e1 ≠ 0 then e1 else if e2 ≠ 0 then e2 else if HAS = false then 5 else if oneB I1 = false ∨ oneB I2 = false then 7 else 0) = R by have h := HR.out; rw [if_neg (fun k => k rfl)] at h; exact h)
 clear HR
 by_cases a1 : 2000 < nr
 ·have HE := Lib.hid (show R = 2 by rw [<- HLR1.out, if_pos (.inl a1)])
  have HD := Lib.hid (HDE.out (by rw [HE.out]; decide))
  have a1a : (2000 : Int) < (nr : Int) := by omega
  clear a1
  go_wp2
  go_ret2
  rw [HE.out]
  exact RetDf.bad HD.out (HW.out _ HB2.out).2.2.2.2.2.2
 by_cases a2 : 2000 < ns
 ·have HE := Lib.hid (show R = 2 by rw [<- HLR1.out, if_pos (.inr a2)])
  have HD := Lib.hid (HDE.out (by rw [HE.out]; decide))
  have a1a : ¬ (2000 : Int) < (nr : Int) := by omega
  have a2a : (2000 : Int) < (ns : Int) := by omega
  clear a1 a2
  go_wp2
  go_ret2
  rw [HE.out]
  exact RetDf.bad HD.out (HW.out _ HB2.out).2.2.2.2.2.2
 have HLR2 := Lib.hid (show (if e1 ≠ 0 then e1 else if e2 ≠ 0 then e2 else if HAS = false then 5 else if oneB I1 = false ∨ oneB I2 = false then 7 else 0) = R by have h := HLR1.out; rw [if_neg (by omega)] at h; exact h)
 have a1a : ¬ (2000 : Int) < (nr : Int) := by omega
 have a2a : ¬ (2000 : Int) < (ns : Int) := by omega
 have HNR2 := Lib.hid (show nr <= 2000 by omega); have HNS2 := Lib.hid (show ns <= 2000 by omega)
 clear HLR1 a1 a2
 have hL3 := heap_new w2 (.cells #[.slice L nr LC, .slice M ns MC] 25) rfl
 have hB3 : Below w1.heap.size w1 (w2.alloc (.cells #[.slice L nr LC, .slice M ns MC] 25)) := HB2.out.alloc HB2.out.size _
 go_wp2_with fail
 obtain ⟨LB, hLB⟩ : ∃ x, w2.heap.size = x := ⟨_, rfl⟩
 rw [hLB] at hL3
 try rw [hLB]
 generalize w2.alloc (.cells #[.slice L nr LC, .slice M ns MC] 25) = w3 at hL3 hB3 ⊢
 clear hLB HB2 a1a a2a
 have HL3 := Lib.hid hL3; have HB3 := Lib.hid hB3
 clear hL3 hB3
 go_loopw [49] (fun i wr => ∃ k : Nat, k <= 2 /\ i = .int .i64 k /\ Hid (Below w3.heap.size w3 wr) /\ Hid (1 <= k -> e1 = 0) /\ Hid (2 <= k -> e2 = 0)) (fun i _ => 2 - (intOf i).toNat)
 case atStart => exact ⟨0, Nat.zero_le _, rfl, Lib.hid (Below.refl _ _), Lib.hid (fun h => by omega), Lib.hid (fun h => by omega)⟩
 case round =>
  obtain ⟨k, hk, rfl, HB, HE1, HE2⟩ := hrel
  have HBW := Lib.hid (below_then HB.out HB3.out HB3.out.size)
  obtain ⟨q1, q2, q3, q4, q5, q6, q7⟩ := HW.out _ HBW.out
  have Q2 := Lib.hid q2; have Q3 := Lib.hid q3; have Q4 := Lib.hid q4; have Q5 := Lib.hid q5; have Q6 := Lib.hid q6; have Q7 := Lib.hid q7
  obtain ⟨⟨f0, f1, f2, f3, f4, f5, f6⟩, f7⟩ := obox7 q1
  clear q1 q2 q3 q4 q5 q6 q7
  have hk3 : k = 0 ∨ k = 1 ∨ k = 2 := by omega
  rcases hk3 with rfl | rfl | rfl
  ·obtain ⟨l0, l1, -, -, l2⟩ := box2 (heap_below HL3.out HB.out)
   go_wp2_with fail
   refine (HCR.out (by trivial) _ Q3.out Q4.out Q6.out).mono ?_
   rintro _ w4 ⟨rfl, hb4⟩
   have HB4 := Lib.hid (below_then hb4 HBW.out HBW.out.size)
   have HB4L := Lib.hid (below_then hb4 HB.out HB.out.size)
   clear f0 f1 f2 f3 f4 f5 f6 f7 l0 l1 l2 hb4
   by_cases h1 : e1 = 0
   ·subst h1
    go_wp2
    go_roundw
    case rel => exact ⟨1, by omega, by go_num, HB4L, Lib.hid (fun _ => by trivial), Lib.hid (fun h => by omega)⟩
    case measure => simp [intOf]
   ·have HE := Lib.hid (show R = e1 by rw [<- HLR2.out, if_pos h1])
    have HD := Lib.hid (HDE.out (by rw [HE.out]; exact h1))
    have h1a : (e1 != 0) = true := by simpa using h1
    clear h1
    go_wp2
    go_ret2
    rw [HE.out]
    exact RetDf.bad HD.out (HW.out _ HB4.out).2.2.2.2.2.2
  ·obtain ⟨l0, l1, -, -, l2⟩ := box2 (heap_below HL3.out HB.out)
   have HEE := Lib.hid (HE1.out (Nat.le_refl _))
   go_wp2_with fail
   refine (HCS.out (by trivial) _ Q3.out Q5.out Q6.out).mono ?_
   rintro _ w4 ⟨rfl, hb4⟩
   have HB4 := Lib.hid (below_then hb4 HBW.out HBW.out.size)
   have HB4L := Lib.hid (below_then hb4 HB.out HB.out.size)
   clear f0 f1 f2 f3 f4 f5 f6 f7 l0 l1 l2 hb4
   by_cases h1 : e2 = 0
   ·subst h1
    go_wp2
    go_roundw
    case rel => exact ⟨2, by omega, by go_num, HB4L, Lib.hid (fun _ => HEE.out), Lib.hid (fun _ => by trivial)⟩
    case measure => simp [intOf]
   ·have HE := Lib.hid (show R = e2 by rw [<- HLR2.out, if_neg (fun h => h HEE.out), if_pos h1])
    have HD := Lib.hid (HDE.out (by rw [HE.out]; exact h1))
    have h1a : (e2 != 0) = true := by simpa using h1
    clear h1
    go_wp2
    go_ret2
    rw [HE.out]
    exact RetDf.bad HD.out (HW.out _ HB4.out).2.2.2.2.2.2
  ·have E1 := Lib.hid (HE1.out (by decide)); have E2 := Lib.hid (HE2.out (by decide))
   have HLR3 := Lib.hid (show (if HAS = false then 5 else if oneB I1 = false ∨ oneB I2 = false then 7 else 0) = R by have h := HLR2.out; rw [if_neg (fun k => k E1.out), if_neg (fun k => k E2.out)] at h; exact h)
   clear HLR2 HE1 HE2 HL3
   go_wp2_with fail
   refine (HAN.out (w.heap.size + 1) _ Q3.out Q2.out).mono ?_
   rintro _ w4 ⟨rfl, hb4⟩
   have HB4 := Lib.hid (below_then hb4 HBW.out HBW.out.size)
   clear f0 f1 f2 f3 f4 f5 f6 f7 hb4 Q2 Q3 Q4 Q5 Q6 Q7 HBW HB HB3
   cases HAS with
   | false =>
    have HE := Lib.hid (show R = 5 by rw [<- HLR3.out]; rfl)
    have HD := Lib.hid (HDE.out (by rw [HE.out]; decide))
    go_wp2
    go_ret2
    rw [HE.out]
    exact RetDf.bad HD.out (HW.out _ HB4.out).2.2.2.2.2.2
   | true =>
    have HLR4 := Lib.hid (show (if oneB I1 = false ∨ oneB I2 = false then 7 else 0) = R by rw [<- HLR3.out]; rfl)
    clear HLR3
    obtain ⟨q1, q2, q3, q4, q5, q6, q7⟩ := HW.out _ HB4.out
    have n0 := cell_of_row _ _ 0 _ _ _ q2
    have Q3 := Lib.hid q3; have Q4 := Lib.hid q4
    obtain ⟨⟨f0, f1, f2, f3, f4, f5, f6⟩, f7⟩ := obox7 q1
    clear q1 q2 q3 q4 q5 q6 q7
    go_wp2_with fail
    refine (HBX.out _ Q3.out Q4.out (HRX.out E1.out) HNR2.out).mono ?_
    rintro _ w5 ⟨hb5, hx⟩
    have HB5 := Lib.hid (below_then hb5 HB4.out HB4.out.size)
    have HX := Lib.hid hx
    have HZ5 := Lib.hid HB4.out.size
    clear f0 f1 f2 f3 f4 f5 f6 f7 n0 Q3 Q4 hb5 hx HB4
    obtain ⟨q1, q2, q3, q4, q5, q6, q7⟩ := HW.out _ HB5.out
    have n0 := cell_of_row _ _ 0 _ _ _ q2
    have Q3 := Lib.hid q3; have Q5 := Lib.hid q5
    obtain ⟨⟨f0, f1, f2, f3, f4, f5, f6⟩, f7⟩ := obox7 q1
    clear q1 q2 q3 q4 q5 q6 q7
    rcases HX.out with ⟨o1, b1, n1, rfl, hb1, hn1, hm1⟩ | ⟨o1, rfl⟩
    case inr =>
     have HE := Lib.hid (show R = 7 by rw [<- HLR4.out, if_pos (.inl o1)])
     have HD := Lib.hid (HDE.out (by rw [HE.out]; decide))
     clear o1
     go_wp2_with fail
     refine (HBY.out _ Q3.out Q5.out (HRY.out E2.out) HNS2.out).mono ?_
     rintro _ w6 ⟨hb6, hy⟩
     have HB6 := Lib.hid (below_then hb6 HB5.out HB5.out.size)
     clear f0 f1 f2 f3 f4 f5 f6 f7 n0 Q3 Q5 hb6 HB5
     rcases hy with ⟨o2, b2, n2, rfl, hb2, hn2, hm2⟩ | ⟨o2, rfl⟩
     ·clear o2 hm2
      go_wp2
      go_ret2
      rw [HE.out]
      exact RetDf.bad HD.out (HW.out _ HB6.out).2.2.2.2.2.2
     ·clear o2
      go_wp2
      go_ret2
      rw [HE.out]
      exact RetDf.bad HD.out (HW.out _ HB6.out).2.2.2.2.2.2
    have O1 := Lib.hid o1; have M1 := Lib.hid hm1
    clear o1 hm1 HX
    go_wp2_with fail
    refine (HBY.out _ Q3.out Q5.out (HRY.out E2.out) HNS2.out).mono ?_
    rintro _ w6 ⟨hb6, hy⟩
    have HB6 := Lib.hid (below_then hb6 HB5.out HB5.out.size)
    have M1 := Lib.hid (M1.out.below hb6)
    have hz56 := HB5.out.size
    clear f0 f1 f2 f3 f4 f5 f6 f7 n0 Q3 Q5 hb6 HB5
    rcases hy with ⟨o2, b2, n2, rfl, hb2, hn2, hm2⟩ | ⟨o2, rfl⟩
    case inr =>
     have HE := Lib.hid (show R = 7 by rw [<- HLR4.out, if_pos (.inr o2)])
     have HD := Lib.hid (HDE.out (by rw [HE.out]; decide))
     clear o2
     go_wp2
     go_ret2
     rw [HE.out]
     exact RetDf.bad HD.out (HW.out _ HB6.out).2.2.2.2.2.2
    have O2 := Lib.hid o2; have M2 := Lib.hid hm2
    have HE := Lib.hid (show R = 0 by rw [<- HLR4.out, if_neg (by rw [O1.out, O2.out]; simp)])
    have M1L := Lib.hid M1.out.lt; have M2L := Lib.hid M2.out.lt
    clear o2 hm2 HLR4
    go_wp2_with fail
    refine (mclone_c b1 n1 _ w6 M1.out.mapS).mono ?_
    rintro _ w7 ⟨rfl, hc7, hb7⟩
    have M1 := Lib.hid (M1.out.below hb7); have M2 := Lib.hid (M2.out.below hb7)
    have HB7 := Lib.hid (below_then hb7 HB6.out HB6.out.size)
    have hl1 := M1.out.lt
    have hl2 := M2.out.lt
    have hz6 := HB6.out.size
    have HC7 := Lib.hid hc7
    have HB1 := Lib.hid (show b1 < w6.heap.size from M1L.out); have HB2 := Lib.hid (show b2 < w6.heap.size from M2L.out)
    obtain ⟨bd, hbd⟩ : ∃ x, w6.heap.size = x := ⟨_, rfl⟩
    rw [hbd] at HC7 HB1 HB2 hz6
    try rw [hbd]
    clear hb7 hc7 HB6 hbd
    have hne1 := HB1.out
    have hne2 := HB2.out
    have h12 := HNR2.out
    have h13 := HNS2.out
    go_wp2_with fail
    refine (copy_c bd n1 b2 n2 _ _ w7 HC7.out M2.out.mapS (by omega) (by unfold maxLen; omega)).mono ?_
    rintro _ w8 ⟨rfl, hd8, hg8⟩
    have M1 := Lib.hid (M1.out.kept hg8 (by simp; omega)); have M2 := Lib.hid (M2.out.kept hg8 (by simp; omega))
    have HB8 := Lib.hid (HB7.out.grown hg8 HB7.out.size (fun j hj => by cases hj; exact hz6))
    have HD8 := Lib.hid hd8
    clear HC7 HB7 hd8 hg8 hl1 hl2
    go_wp2_with fail
    refine (keys_c (some bd) w8).mono ?_
    rintro _ _ ⟨rfl, rfl⟩
    have hb9 : Below w8.heap.size w8 (w8.alloc (.cells #[.map (some bd)] 68)) := by go_grown
    have HK9 := Lib.hid (cell_of_row _ _ 0 _ _ _ (heap_new w8 (.cells #[.map (some bd)] 68) rfl))
    have M1 := Lib.hid (M1.out.below hb9); have M2 := Lib.hid (M2.out.below hb9)
    have HD9 := Lib.hid (HD8.out.kept (dbelow_grown hb9) (by simp))
    have HB9 := Lib.hid (below_then hb9 HB8.out HB8.out.size)
    have HS9 := Lib.hid (show w8.heap.size < (w8.alloc (.cells #[.map (some bd)] 68)).heap.size by simp)
    clear HD8 HB8 hb9
    obtain ⟨kb, hkb⟩ : ∃ x, w8.heap.size = x := ⟨_, rfl⟩
    rw [hkb] at HK9 HS9
    try rw [hkb]
    generalize w8.alloc (.cells #[.map (some bd)] 68) = w9 at HK9 M1 M2 HD9 HB9 HS9 ⊢
    clear hkb
    have HSF := Lib.hid (sortf_c kb bd (n1 + n2) _ w9 HS9.out HK9.out HD9.out (by omega))
    go_wp2_with fail
    refine HSF.out.mono ?_
    rintro _ w10 ⟨IA, ic, kk, rfl, ⟨tt, hn, hS, hz, hkk⟩, hlen, hrows, hb10⟩
    have HZK := Lib.hid (show ∀ x ∈ kk, KeyZ x from fun x hx => by rw [hkk] at hx; exact hz x ((List.mergeSort_perm tt _).mem_iff.1 hx))
    have HDL := Lib.hid (show DL = kk.flatMap CH by
     rw [HDO.out HE.out, hkk, HKB.out O1.out O2.out tt hn (fun x hx => by rw [hS x hx, mapI_keys, mapI_keys, HKX.out, HKY.out]) hz (fun x hx => M1.out.keyZ x (by rw [mapI_keys, HKX.out]; exact hx)) (fun x hx => M2.out.keyZ x (by rw [mapI_keys, HKY.out]; exact hx))])
    have HB10 := Lib.hid (below_then hb10 HB9.out HB9.out.size)
    have HWL := Lib.hid (show ∀ wx, Below w10.heap.size w10 wx -> wx.heap[w.heap.size]? = some (.cells #[.int .u8 m, .int .u8 q, .slice A n cp, .string hd, .string tl, .string ct, .string sm] 24 (0, 0)) /\ Kinds wx A ks FA FC /\ RowsM wx L rs RA RC /\ RowsM wx M ss SA SC /\ MapK Tryz.prog 73 wx b1 n1 (mapI rs RA RC IX) /\ MapK Tryz.prog 73 wx b2 n2 (mapI ss SA SC IY) /\ Rws wx IA 2 kk.length (keyVi kk) /\ Below w.heap.size w wx from fun wx h => by
     have h2 := below_then h HB10.out HB10.out.size
     obtain ⟨q1, q2, q3, q4, q5, q6, q7⟩ := HW.out _ h2
     exact ⟨q1, q3, q4, q5, (M1.out.below hb10).below h, (M2.out.below hb10).below h, hrows.below h, q7⟩)
    have HZW := Lib.hid (show w.heap.size <= w10.heap.size from (HWL.out _ (Below.refl _ _)).2.2.2.2.2.2.2.size)
    have HBW0 := Lib.hid ((HWL.out _ (Below.refl _ _)).2.2.2.2.2.2.2)
    have HTK := Lib.hid (fun j (h : j < kk.length) => show (kk.take (j + 1)).flatMap CH = (kk.take j).flatMap CH ++ CH (kyA kk j) by rw [dflat_take h, kyA_get h])
    have HKM := Lib.hid (fun j (h : j < kk.length) => show KeyZ (kyA kk j) from HZK.out _ (by rw [<- kyA_get h]; exact List.getElem_mem h))
    obtain ⟨nk, hnk⟩ : ∃ x, kk.length = x := ⟨_, rfl⟩
    have HNK := Lib.hid hnk
    rw [hnk] at hlen HWL HTK HKM ⊢
    have hnk4 : nk <= 4000 := by omega
    clear HSF hn hS hz hkk hrows hb10 hnk hlen M1 M2 HD9 HK9 HS9 HB9 HB10 HW HDO HKB HKX HKY HDE HCH HCR HCS HAN HBX HBY hne1 hne2 h12 h13 hb1 hb2 hn1 hn2 hz6 HB1 HB2 M1L M2L
    go_wp2_with fail
    go_loopw [98, 21] (fun i o wr => ∃ (j : Nat) (X : Option Addr) (n c : Nat), j <= nk /\ i = .int .i64 j /\ o = .slice X n c /\ n <= 50 * j /\ Hid (OutSt w10 wr X n c ((kk.take j).flatMap CH))) (fun i o _ => nk - (intOf i).toNat)
    case atStart => exact ⟨0, none, 0, 0, Nat.zero_le _, rfl, rfl, Nat.zero_le _, Lib.hid (OutSt.nil w10)⟩
    case round =>
     obtain ⟨j, X, n, c, hj, rfl, rfl, hnj, HO⟩ := hrel
     rcases Nat.lt_or_ge j nk with hlt | hge
     ·obtain ⟨q1, q2, q3, q4, q5, q6, q7, q8⟩ := HWL.out _ HO.out.2.2
      have q7' : Rws wr IA 2 nk (keyVi kk) := q7
      obtain ⟨ob, oo, rfl, hob, hc⟩ := Rws.get q7' hlt
      have c0 : wr.cell? ⟨ob, oo + j * 2, none⟩ = some (.string (kyA kk j).tag) := hc 0 (by decide)
      have c1 : wr.cell? ⟨ob, oo + j * 2 + 1, none⟩ = some (.string (kyA kk j).key) := hc 1 (by decide)
      have HKZ := Lib.hid (HKM.out j hlt)
      have HNX := Lib.hid (HTK.out j hlt)
      have H1 := Lib.hid (HC1.out (kyA kk j)); have H2 := Lib.hid (HC2.out (kyA kk j)); have H3 := Lib.hid (HC3.out (kyA kk j))
      have HL1 := Lib.hid (HLX.out (kyA kk j)); have HL2 := Lib.hid (HLY.out (kyA kk j))
      obtain ⟨kx, hkx⟩ : ∃ x, kyA kk j = x := ⟨_, rfl⟩
      rw [hkx] at c0 c1 HKZ HNX H1 H2 H3 HL1 HL2
      clear hkx hc q1 q2 q3 q4 q5 q6 q7 q7' q8
      obtain ⟨tg, ky⟩ := kx
      simp only at c0 c1
      have HX5 := Lib.hid (heap_new wr (.cells #[.string tg, .string ky] 73) rfl)
      have hb5 : Below wr.heap.size wr (wr.alloc (.cells #[.string tg, .string ky] 73)) := by go_grown
      have HO5 := Lib.hid (HO.out.below hb5)
      go_upto_region 26 with fail
      obtain ⟨ib, hib⟩ : ∃ x, wr.heap.size = x := ⟨_, rfl⟩
      rw [hib] at HX5
      try rw [hib]
      generalize wr.alloc (.cells #[.string tg, .string ky] 73) = w5 at HX5 HO5 hb5 ⊢
      clear c0 c1 hob hb5 hib HO
      obtain ⟨x0, x1, -, -, x2⟩ := box2 HX5.out
      obtain ⟨t1, a1, y1, z1, B1, hl1, hk1⟩ := look_cases (HWL.out _ HO5.out.2.2).2.2.2.2.1 HKZ.out
      have HK1 := Lib.hid hk1
      have HX6 := Lib.hid (heap_old HX5.out (.cells #[.string t1, .slice a1 y1 z1] 51))
      have HP6 := Lib.hid (heap_new w5 (.cells #[.string t1, .slice a1 y1 z1] 51) rfl)
      have hb6 : Below w5.heap.size w5 (w5.alloc (.cells #[.string t1, .slice a1 y1 z1] 51)) := by go_grown
      have HO6 := Lib.hid (HO5.out.below hb6)
      simp only at hl1
      clear hk1
      go_upto_region 27 with fail
      obtain ⟨pb, hpb⟩ : ∃ x, w5.heap.size = x := ⟨_, rfl⟩
      rw [hpb] at HP6
      try rw [hpb]
      generalize w5.alloc (.cells #[.string t1, .slice a1 y1 z1] 51) = w6 at HX6 HP6 HO6 hb6 ⊢
      clear hl1 x0 x1 x2 hb6 hpb HX5 HO5
      obtain ⟨x0, x1, -, -, x2⟩ := box2 HX6.out
      obtain ⟨t2, a2, y2, z2, B2, hl2, hk2⟩ := look_cases (HWL.out _ HO6.out.2.2).2.2.2.2.2.1 HKZ.out
      have HK2 := Lib.hid hk2
      have HX7 := Lib.hid (heap_old HX6.out (.cells #[.string t2, .slice a2 y2 z2] 51))
      have HP7 := Lib.hid (heap_old HP6.out (.cells #[.string t2, .slice a2 y2 z2] 51))
      have HQ7 := Lib.hid (heap_new w6 (.cells #[.string t2, .slice a2 y2 z2] 51) rfl)
      have hb7 : Below w6.heap.size w6 (w6.alloc (.cells #[.string t2, .slice a2 y2 z2] 51)) := by go_grown
      have HO7 := Lib.hid (HO6.out.below hb7)
      simp only at hl2
      clear hk2
      go_upto_region 28 with fail
      obtain ⟨qb, hqb⟩ : ∃ x, w6.heap.size = x := ⟨_, rfl⟩
      rw [hqb] at HQ7
      try rw [hqb]
      generalize w6.alloc (.cells #[.string t2, .slice a2 y2 z2] 51) = w7 at HX7 HP7 HQ7 HO7 hb7 ⊢
      clear hl2 x0 x1 x2 hb7 hqb HX6 HP6 HO6
      obtain ⟨x0, x1, -, -, x2⟩ := box2 HX7.out
      rcases HK2.out with ⟨g2, rfl⟩ | ⟨j2, g2, rfl, rfl, rfl, rfl, rfl⟩
      ·have G2 := Lib.hid g2
       clear g2
       have HCK := Lib.hid (show CH ⟨tg, ky⟩ = [⟨tg, ky, 1, ⟨#[]⟩⟩] from H1.out G2.out)
       go_upto_region 39 with (at_builtin; refine wpList_zpush rfl _ _ 33 rfl w10.heap.size 39 i0 (.agg #[.string ⟨#[]⟩, .string ⟨#[]⟩, .int .i64 0, .string ⟨#[]⟩]) 4 56 Tryz.underlying33 hi hz0 hz1 hz2 rfl (by decide) (.slice X n c) n (chgC ((kk.take j).flatMap CH)) rfl HO7.out.2.1 [.string tg, .string ky, .int .i64 1, .string ⟨#[]⟩] rfl rfl (by intro u hu; simp at hu; rcases hu with rfl | rfl | rfl | rfl <;> rfl) (by unfold maxLen; omega) (by omega) HO7.out.2.2.size ?_; intro X9 c9 w9 hown9 hg9)
       have HO9 := Lib.hid (show OutSt w10 w9 X9 (n + 1) c9 ((kk.take (j + 1)).flatMap CH) by rw [HNX.out, HCK.out]; exact HO7.out.push (x := ⟨tg, ky, 1, ⟨#[]⟩⟩) hown9 hg9)
       clear hown9 hg9
       go_wp2
       go_roundw
       case rel => first | exact ⟨j + 1, X9, n + 1, c9, by omega, by go_num, rfl, by omega, HO9⟩ | ((repeat apply Exists.intro); exact ⟨⟨j + 1, X9, n + 1, c9, by omega, by go_num, rfl, by omega, HO9⟩, rfl⟩)
       case measure => simp [intOf]; omega
      rcases HK1.out with ⟨g1, rfl⟩ | ⟨j1, g1, rfl, rfl, rfl, rfl, rfl⟩
      ·have G2 := Lib.hid g2; have G1 := Lib.hid g1
       clear g2 g1
       have HCK := Lib.hid (show CH ⟨tg, ky⟩ = [⟨tg, ky, 2, ⟨#[]⟩⟩] from H2.out j2 G1.out G2.out)
       go_upto_region 39 with (at_builtin; refine wpList_zpush rfl _ _ 33 rfl w10.heap.size 39 i0 (.agg #[.string ⟨#[]⟩, .string ⟨#[]⟩, .int .i64 0, .string ⟨#[]⟩]) 4 56 Tryz.underlying33 hi hz0 hz1 hz2 rfl (by decide) (.slice X n c) n (chgC ((kk.take j).flatMap CH)) rfl HO7.out.2.1 [.string tg, .string ky, .int .i64 2, .string ⟨#[]⟩] rfl rfl (by intro u hu; simp at hu; rcases hu with rfl | rfl | rfl | rfl <;> rfl) (by unfold maxLen; omega) (by omega) HO7.out.2.2.size ?_; intro X9 c9 w9 hown9 hg9)
       have HO9 := Lib.hid (show OutSt w10 w9 X9 (n + 1) c9 ((kk.take (j + 1)).flatMap CH) by rw [HNX.out, HCK.out]; exact HO7.out.push (x := ⟨tg, ky, 2, ⟨#[]⟩⟩) hown9 hg9)
       clear hown9 hg9
       go_wp2
       go_roundw
       case rel => first | exact ⟨j + 1, X9, n + 1, c9, by omega, by go_num, rfl, by omega, HO9⟩ | ((repeat apply Exists.intro); exact ⟨⟨j + 1, X9, n + 1, c9, by omega, by go_num, rfl, by omega, HO9⟩, rfl⟩)
       case measure => simp [intOf]; omega
      have HCK := Lib.hid (H3.out j1 j2 g1 g2)
      obtain ⟨i1, u1⟩ := HL1.out _ g1
      obtain ⟨i2, u2⟩ := HL2.out _ g2
      simp only at u1 u2 HCK
      have HR1 := Lib.hid (fun wx h => (HWL.out wx h).2.2.1.each j1 (by rw [HNR.out]; exact i1)); have HR2 := Lib.hid (fun wx h => (HWL.out wx h).2.2.2.1.each j2 (by rw [HNS.out]; exact i2))
      have HO1 := Lib.hid (HRX.out E1.out j1 i1); have HO2 := Lib.hid (HRY.out E2.out j2 i2)
      have HKT := Lib.hid (HKA.out tg)
      have HCT := Lib.hid (HCC.out tg)
      have h50 := H50K.out (by trivial) tg
      have hm1 := HO1.out.many; have hm2 := HO2.out.many
      rw [u1] at hm1
      rw [u2] at hm2
      obtain ⟨r1, hr1⟩ : ∃ x, rA rs j1 = x := ⟨_, rfl⟩
      obtain ⟨r2, hr2⟩ : ∃ x, rA ss j2 = x := ⟨_, rfl⟩
      rw [hr1] at HCK HR1 HP7 hm1
      rw [hr2] at HCK HR2 HQ7 hm2
      generalize RA j1 = a1 at HR1 HP7
      generalize RC j1 = z1 at HR1 HP7
      generalize SA j2 = a2 at HR2 HQ7
      generalize SC j2 = z2 at HR2 HQ7
      clear g1 g2 i1 i2 u1 u2 hr1 hr2 HK1 HK2 HL1 HL2 H1 H2 H3 HO1 HO2 HKZ
      obtain ⟨t1, v1⟩ := r1
      obtain ⟨t2, v2⟩ := r2
      simp only at HCK HP7 HQ7 hm1 hm2
      obtain ⟨q1, q2, -, -, -, -, -, -⟩ := HWL.out _ HO7.out.2.2
      obtain ⟨⟨f0, f1, f2, f3, f4, f5, f6⟩, f7⟩ := obox7 q1
      have Q2 := Lib.hid q2
      clear q1 q2
      go_wp2_with fail
      refine (HKT.out _ Q2.out).mono ?_
      rintro _ w8 ⟨rfl, hb8⟩
      have HX8 := Lib.hid (heap_below HX7.out hb8); have HP8 := Lib.hid (heap_below HP7.out hb8); have HQ8 := Lib.hid (heap_below HQ7.out hb8); have HO8 := Lib.hid (HO7.out.below hb8)
      clear f0 f1 f2 f3 f4 f5 f6 f7 x0 x1 x2 Q2 hb8 HX7 HP7 HQ7 HO7
      have HCO : Hid (∀ wx, Below w10.heap.size w10 wx -> Cols wx (katA ⟨m, q, ks, hd, tl, ct, sm⟩ FA tg) (katK ⟨m, q, ks, hd, tl, ct, sm⟩ tg).fields) := Lib.hid (fun wx h => by
       rcases HCT.out with ⟨-, e2, e3, -⟩ | ⟨k, hk, -, e2, e3, -⟩
       ·rw [e2, e3]
        exact ⟨⟨fun c hc => (by cases hc), Nat.zero_le _⟩, fun h => absurd h (Nat.not_lt_zero _)⟩
       ·rw [e2, e3]
        exact ((HWL.out wx h).2.1.2.2 k hk).1)
      obtain ⟨K, hK⟩ : ∃ x, katK ⟨m, q, ks, hd, tl, ct, sm⟩ tg = x := ⟨_, rfl⟩
      rw [hK] at HCK HCO hm1 hm2 h50 ⊢
      generalize katA ⟨m, q, ks, hd, tl, ct, sm⟩ FA tg = KA at HCO ⊢
      generalize katC ⟨m, q, ks, hd, tl, ct, sm⟩ FC tg = KC
      generalize decide (0 <= katI ⟨m, q, ks, hd, tl, ct, sm⟩ tg) = KB
      clear hK HCT HKT
      obtain ⟨kt, fs, km, ku⟩ := K
      unfold kindG
      simp only at HCK HCO hm1 hm2 h50 ⊢
      have HV1 := Lib.hid hm1; have HV2 := Lib.hid hm2
      rw [hm1] at HP8
      rw [hm2] at HQ8
      obtain ⟨nf, hnf⟩ : ∃ x, fs.length = x := ⟨_, rfl⟩
      have HNF := Lib.hid hnf
      rw [hnf] at HP8 HQ8 HV1 HV2 HCK h50 ⊢
      clear hnf hm1 hm2
      have hb9 : Below w8.heap.size w8 (w8.alloc (.cells #[.string kt, .slice KA nf KC, .int .i64 km, .string ku] 46)) := by go_grown
      have HX9 := Lib.hid (heap_below HX8.out hb9); have HP9 := Lib.hid (heap_below HP8.out hb9); have HQ9 := Lib.hid (heap_below HQ8.out hb9); have HO9 := Lib.hid (HO8.out.below hb9)
      have HK9 := Lib.hid (heap_new w8 (.cells #[.string kt, .slice KA nf KC, .int .i64 km, .string ku] 46) rfl)
      clear hb9 HX8 HP8 HQ8 HO8
      go_upto_region 33 with fail
      obtain ⟨k0, hk0⟩ : ∃ x, w8.heap.size = x := ⟨_, rfl⟩
      rw [hk0] at HK9
      try rw [hk0]
      generalize w8.alloc (.cells #[.string kt, .slice KA nf KC, .int .i64 km, .string ku] 46) = w9 at HX9 HP9 HQ9 HO9 HK9 ⊢
      clear hk0
      obtain ⟨⟨y0, y1', y2', y3⟩, -, y4⟩ := obox4 HK9.out
      have HCKA := Lib.hid (show (kk.take (j + 1)).flatMap CH = (kk.take j).flatMap CH ++ othL ⟨tg, ky⟩ fs v1 v2 nf by rw [HNX.out, HCK.out])
      clear HCK HNX
      generalize (kk.take j).flatMap CH = PRE at HO9 HCKA
      go_wp2_with fail
      clear y0 y1' y2' y3 y4 HK9
      go_loopw [146, 21] (fun i o wr => ∃ (p : Nat) (X : Option Addr) (n c : Nat), p <= nf /\ i = .int .i64 p /\ o = .slice X n c /\ n <= 50 * j + p /\ Hid (OutSt w10 wr X n c (PRE ++ othL ⟨tg, ky⟩ fs v1 v2 p)) /\ Hid (wr.heap[ib]? = some (.cells #[.string tg, .string ky] 73 (0, 0))) /\ Hid (wr.heap[pb]? = some (.cells #[.string t1, .slice a1 nf z1] 51 (0, 0))) /\ Hid (wr.heap[qb]? = some (.cells #[.string t2, .slice a2 nf z2] 51 (0, 0)))) (fun i o _ => nf - (intOf i).toNat)
      case atStart => exact ⟨0, X, n, c, Nat.zero_le _, rfl, rfl, by omega, by rw [show PRE ++ othL ⟨tg, ky⟩ fs v1 v2 0 = PRE from List.append_nil _]; exact HO9, HX9, HP9, HQ9⟩
      case round =>
       clear HO9 HX9 HP9 HQ9 hnj
       obtain ⟨p, X, n, c, hp, rfl, rfl, hnp, HO, HX, HP, HQ⟩ := hrel
       rcases Nat.lt_or_ge p nf with hlp | hgp
       ·obtain ⟨cb, co, rfl, hcb, d0, d1, d2, d3, d4, d5, d6, d7⟩ := (HCO.out _ HO.out.2.2).cells (j := p) (by rw [HNF.out]; exact hlp)
        have HOT := Lib.hid (show othL ⟨tg, ky⟩ fs v1 v2 (p + 1) = othL ⟨tg, ky⟩ fs v1 v2 p ++ (if wd v1 p = wd v2 p then [] else [⟨tg, ky, 3, (cA fs p).name⟩]) from rfl)
        obtain ⟨C, hC⟩ : ∃ x, cA fs p = x := ⟨_, rfl⟩
        rw [hC] at d0 d1 d2 d3 d4 d5 d6 d7 HOT
        obtain ⟨cn, ck, cw, cl, cm, cr, ci, ce⟩ := C
        simp only at d0 d1 d2 d3 d4 d5 d6 d7 HOT
        clear hC
        have hb5 : Below wr.heap.size wr (wr.alloc (.cells #[.string cn, .int .i64 ck, .int .i64 cw, .int .i64 cl, .int .i64 cm, .bool cr, .int .u8 ci, .bool ce] 85)) := by go_grown
        have HX5 := Lib.hid (heap_below HX.out hb5); have HP5 := Lib.hid (heap_below HP.out hb5); have HQ5 := Lib.hid (heap_below HQ.out hb5); have HO5 := Lib.hid (HO.out.below hb5)
        have HC5 := Lib.hid (heap_new wr (.cells #[.string cn, .int .i64 ck, .int .i64 cw, .int .i64 cl, .int .i64 cm, .bool cr, .int .u8 ci, .bool ce] 85) rfl)
        clear hb5
        go_upto_region 36 with fail
        obtain ⟨c5, hc5⟩ : ∃ x, wr.heap.size = x := ⟨_, rfl⟩
        rw [hc5] at HC5
        try rw [hc5]
        generalize wr.alloc (.cells #[.string cn, .int .i64 ck, .int .i64 cw, .int .i64 cl, .int .i64 cm, .bool cr, .int .u8 ci, .bool ce] 85) = w5 at HX5 HP5 HQ5 HO5 HC5 ⊢
        clear d0 d1 d2 d3 d4 d5 d6 d7 hcb hc5 HO HX HP HQ
        obtain ⟨g1, g2, -, -, g3⟩ := box2 HP5.out
        obtain ⟨e1', e2', -, -, e3⟩ := box2 HQ5.out
        obtain ⟨b1', o1', rfl, hb1', hs1⟩ := (HR1.out _ HO5.out.2.2).vals.cells (by show 0 < v1.length; rw [HV1.out]; omega)
        obtain ⟨b2', o2', rfl, hb2', hs2⟩ := (HR2.out _ HO5.out.2.2).vals.cells (by show 0 < v2.length; rw [HV2.out]; omega)
        have s1 := hs1 p (by show p < v1.length; rw [HV1.out]; exact hlp)
        have s2 := hs2 p (by show p < v2.length; rw [HV2.out]; exact hlp)
        have hc1 := (HR1.out _ HO5.out.2.2).len; have hc2 := (HR2.out _ HO5.out.2.2).len
        simp only at s1 s2 hc1 hc2
        rw [HV1.out] at hc1
        rw [HV2.out] at hc2
        obtain ⟨sa, hsa⟩ : ∃ x, wd v1 p = x := ⟨_, rfl⟩
        obtain ⟨sb, hsb⟩ : ∃ x, wd v2 p = x := ⟨_, rfl⟩
        rw [hsa] at s1 HOT
        rw [hsb] at s2 HOT
        have hbd := bytes_dec sa sb
        obtain ⟨SB, hSB⟩ : ∃ x, decide (sa = sb) = x := ⟨_, rfl⟩
        have HSB := Lib.hid hSB
        rw [hSB] at hbd
        clear hSB
        clear hs1 hs2 hsa hsb
        have HCUT : Hid (∀ q, OutSt w10 (w5.drewN q) X n c (PRE ++ othL ⟨tg, ky⟩ fs v1 v2 p) /\ (w5.drewN q).heap[ib]? = some (.cells #[.string tg, .string ky] 73 (0, 0)) /\ (w5.drewN q).heap[pb]? = some (.cells #[.string t1, .slice (some ⟨b1', o1', none⟩) nf z1] 51 (0, 0)) /\ (w5.drewN q).heap[qb]? = some (.cells #[.string t2, .slice (some ⟨b2', o2', none⟩) nf z2] 51 (0, 0)) /\ (w5.drewN q).heap[c5]? = some (.cells #[.string cn, .int .i64 ck, .int .i64 cw, .int .i64 cl, .int .i64 cm, .bool cr, .int .u8 ci, .bool ce] 85 (0, 0))) := Lib.hid (fun q => ⟨HO5.out.below (dbelow_dn (Below.refl _ _) q), HX5.out, HP5.out, HQ5.out, HC5.out⟩)
        go_quiet (fail)
        obtain ⟨u1, u2, u3, u4, u5⟩ := HCUT.out nq
        have HO6 := Lib.hid u1; have HX6 := Lib.hid u2; have HP6 := Lib.hid u3; have HQ6 := Lib.hid u4; have HC6 := Lib.hid u5
        generalize w5.drewN nq = w6 at HO6 HX6 HP6 HQ6 HC6 ⊢
        clear u1 u2 u3 u4 u5 HCUT s1 s2 g1 g2 g3 e1' e2' e3 hb1' hb2' hc1 hc2 HO5 HX5 HP5 HQ5 HC5
        cases SB with
        | true =>
         have HOE := Lib.hid (show PRE ++ othL ⟨tg, ky⟩ fs v1 v2 (p + 1) = PRE ++ othL ⟨tg, ky⟩ fs v1 v2 p by rw [HOT.out, if_pos (of_decide_eq_true HSB.out), List.append_nil])
         have HO7 := Lib.hid (show OutSt w10 w6 X n c (PRE ++ othL ⟨tg, ky⟩ fs v1 v2 (p + 1)) by rw [HOE.out]; exact HO6.out)
         go_wp2
         go_roundw
         case rel => first | exact ⟨p + 1, X, n, c, by omega, by go_num, rfl, by omega, HO7, HX6, HP6, HQ6⟩ | ((repeat apply Exists.intro); exact ⟨⟨p + 1, X, n, c, by omega, by go_num, rfl, by omega, HO7, HX6, HP6, HQ6⟩, rfl⟩)
         case measure => simp [intOf]; omega
        | false =>
         have HOE := Lib.hid (show PRE ++ othL ⟨tg, ky⟩ fs v1 v2 (p + 1) = (PRE ++ othL ⟨tg, ky⟩ fs v1 v2 p) ++ [⟨tg, ky, 3, cn⟩] by rw [HOT.out, if_neg (of_decide_eq_false HSB.out), List.append_assoc])
         obtain ⟨x0, x1, -, -, x2⟩ := box2 HX6.out
         obtain ⟨⟨y0, y1, y2, y3, y4, y5, y6, y7⟩, -⟩ := obox8 HC6.out
         go_upto_region 38 with (at_builtin; refine wpList_zpush rfl _ _ 33 rfl w10.heap.size 39 i0 (.agg #[.string ⟨#[]⟩, .string ⟨#[]⟩, .int .i64 0, .string ⟨#[]⟩]) 4 56 Tryz.underlying33 hi hz0 hz1 hz2 rfl (by decide) (.slice X n c) n (chgC (PRE ++ othL ⟨tg, ky⟩ fs v1 v2 p)) rfl HO6.out.2.1 [.string tg, .string ky, .int .i64 3, .string cn] rfl rfl (by intro u hu; simp at hu; rcases hu with rfl | rfl | rfl | rfl <;> rfl) (by unfold maxLen; omega) (by omega) HO6.out.2.2.size ?_; intro X9 c9 w9 hown9 hg9)
         have HO9 := Lib.hid (show OutSt w10 w9 X9 (n + 1) c9 (PRE ++ othL ⟨tg, ky⟩ fs v1 v2 (p + 1)) by rw [HOE.out]; exact HO6.out.push (x := ⟨tg, ky, 3, cn⟩) hown9 hg9)
         have HX9 := Lib.hid (dgrown_heap HX6.out HO6.out.2.1 hg9 (by decide)); have HP9 := Lib.hid (dgrown_heap HP6.out HO6.out.2.1 hg9 (by decide)); have HQ9 := Lib.hid (dgrown_heap HQ6.out HO6.out.2.1 hg9 (by decide))
         clear hown9 hg9 x0 x1 x2 y0 y1 y2 y3 y4 y5 y6 y7
         go_wp2
         go_roundw
         case rel => first | exact ⟨p + 1, X9, n + 1, c9, by omega, by go_num, rfl, by omega, HO9, HX9, HP9, HQ9⟩ | ((repeat apply Exists.intro); exact ⟨⟨p + 1, X9, n + 1, c9, by omega, by go_num, rfl, by omega, HO9, HX9, HP9, HQ9⟩, rfl⟩)
         case measure => simp [intOf]; omega
       ·obtain rfl : p = nf := by omega
        have HO9 := Lib.hid (show OutSt w10 wr X n c ((kk.take (j + 1)).flatMap CH) by rw [HCKA.out]; exact HO.out)
        go_wp2
        go_roundw
        case rel => first | exact ⟨j + 1, X, n, c, by omega, by go_num, rfl, by omega, HO9⟩ | ((repeat apply Exists.intro); exact ⟨⟨j + 1, X, n, c, by omega, by go_num, rfl, by omega, HO9⟩, rfl⟩)
        case measure => simp [intOf]; omega
     ·obtain rfl : j = nk := by omega
      have HFIN := Lib.hid (show (kk.take j).flatMap CH = DL by rw [HDL.out, <- HNK.out, List.take_length])
      have HRET := Lib.hid (show RetDf DL 0 w (.returned (.tuple #[.slice X n c, .int .i64 0])) wr by rw [<- HFIN.out]; exact HO.out.ret HBW0.out HZW.out)
      go_wp2
      go_ret2
      rw [HE.out]
      exact HRET.out
end Go.Proofs.YtbnjejenejoibaaGreatDoor
