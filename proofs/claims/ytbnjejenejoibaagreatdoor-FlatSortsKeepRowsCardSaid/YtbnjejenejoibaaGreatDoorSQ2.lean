/- The walk of sortFault: the kind of the column by which rows are sorted. -/
import Derived.Test.YtbnjejenejoibaaGreatDoorSQ1
import Derived.Test.YtbnjejenejoibaaGreatDoorT14
import Derived.Test.YtbnjejenejoibaaGreatDoorS1
import Derived.Laws.IdiomCopy
import Derived.Deep.DeepCutAuto
-- merged: SQ9 C1 SQ2
namespace Go.Proofs.YtbnjejenejoibaaGreatDoor
open Go.RowKit Limb Nmb Work
set_option linter.unusedVariables false
set_option linter.unusedSimpArgs false
def topB (f : Fmt) (name : ByteArray) (k : RKd) : Bool := decide (k.under = ⟨#[]⟩) && (!decide (k.tag = f.head) && (!decide (k.tag = f.tail) && decide (0 <= ixF (nameIs name) k.fields)))
def topK (name : ByteArray) (k : RKd) : Int := (cA k.fields (ixF (nameIs name) k.fields).toNat).kind
def sfZ (f : Fmt) (name : ByteArray) : Nat -> Option Int
 | 0 => some 0
 | j + 1 => match sfZ f name j with
  | none => none
  | some z => if topB f name (kA f.kinds j) = false then some z else if z ≠ 0 /\ z ≠ topK name (kA f.kinds j) then none else some (topK name (kA f.kinds j))
def sortF (f : Fmt) (name : ByteArray) : Bool × Int := match sfZ f name f.kinds.length with
 | none => (false, 6)
 | some z => if z = 0 then (false, 5) else (decide (z = 2), 0)
theorem sfZ_no {f : Fmt} {name : ByteArray} {j : Nat} {z : Int} (h : sfZ f name j = some z) (ht : topB f name (kA f.kinds j) = false) : sfZ f name (j + 1) = some z := by
 show (match sfZ f name j with | none => none | some z => _) = _
 rw [h]; exact if_pos ht
theorem sfZ_bad {f : Fmt} {name : ByteArray} {j : Nat} {z : Int} (h : sfZ f name j = some z) (ht : topB f name (kA f.kinds j) = true) (hz : z ≠ 0 /\ z ≠ topK name (kA f.kinds j)) : sfZ f name (j + 1) = none := by
 show (match sfZ f name j with | none => none | some z => _) = _
 rw [h]
 simp only
 rw [if_neg (by rw [ht]; decide), if_pos hz]
theorem sfZ_ok {f : Fmt} {name : ByteArray} {j : Nat} {z : Int} (h : sfZ f name j = some z) (ht : topB f name (kA f.kinds j) = true) (hz : ¬ (z ≠ 0 /\ z ≠ topK name (kA f.kinds j))) : sfZ f name (j + 1) = some (topK name (kA f.kinds j)) := by
 show (match sfZ f name j with | none => none | some z => _) = _
 rw [h]
 simp only
 rw [if_neg (by rw [ht]; decide), if_neg hz]
theorem sfZ_none {f : Fmt} {name : ByteArray} {j : Nat} (h : sfZ f name j = none) : ∀ d, sfZ f name (j + d) = none
 | 0 => h
 | d + 1 => by
  show (match sfZ f name (j + d) with | none => none | some z => _) = _
  rw [sfZ_none h d]
def RetBI (b : Bool) (e : Int) (w : World) (E : Ending) (w' : World) : Prop := E = .returned (.tuple #[.bool b, .int .i64 e]) /\ Below w.heap.size w w'
set_option maxHeartbeats 4000000 in
set_option maxRecDepth 100000 in
theorem sortfault_c (f : Fmt) (A : Option Addr) (cp : Nat) (FA : Nat -> Option Addr) (FC : Nat -> Nat) (name : ByteArray) (w : World) (ho : Kinds w A f.kinds FA FC) :
  Calls Tryz.prog 14 #[fmtG f A cp, .string name] w (RetBI (sortF f name).1 (sortF f name).2 w) := by
 have HKI := Lib.hid ho
 have hn9 := ho.1.2
 have HZN := Lib.hid (fun j z (h : sfZ f name j = some z) ht => sfZ_no h ht)
 have HZB := Lib.hid (fun j z (h : sfZ f name j = some z) ht hz => sfZ_bad h ht hz)
 have HZO := Lib.hid (fun j z (h : sfZ f name j = some z) ht hz => sfZ_ok h ht hz)
 have HZE := Lib.hid (fun j d (h : sfZ f name j = none) => sfZ_none h d)
 have HTB := Lib.hid (fun k => show topB f name k = (decide (k.under = ⟨#[]⟩) && (!decide (k.tag = f.head) && (!decide (k.tag = f.tail) && decide (0 <= ixF (nameIs name) k.fields)))) from rfl)
 have HSF := Lib.hid (show sortF f name = (match sfZ f name f.kinds.length with | none => (false, 6) | some z => if z = 0 then (false, 5) else (decide (z = 2), 0)) from rfl)
 have HSZ := Lib.hid (show sfZ f name 0 = some 0 from rfl)
 obtain ⟨R, hR⟩ : ∃ x, sortF f name = x := ⟨_, rfl⟩
 obtain ⟨ZZ, hZZ⟩ : ∃ x, sfZ f name = x := ⟨_, rfl⟩
 obtain ⟨TB, hTB⟩ : ∃ x, topB f name = x := ⟨_, rfl⟩
 rw [hZZ] at HZN HZB HZO HZE HSF HSZ
 rw [hTB] at HZN HZB HZO HTB
 rw [hR] at HSF ⊢
 unfold RetBI
 clear ho hR hZZ hTB
 obtain ⟨m, q, ks, hd, tl, ct, sm⟩ := f
 unfold fmtG
 simp only at HKI HZN HZB HZO HTB HSF hn9 ⊢
 obtain ⟨n, hn⟩ : ∃ x, ks.length = x := ⟨_, rfl⟩
 have HN := Lib.hid hn
 rw [hn] at HSF hn9 ⊢
 clear hn
 have HF0 := Lib.hid (heap_new w (.cells #[.int .u8 m, .int .u8 q, .slice A n cp, .string hd, .string tl, .string ct, .string sm] 24) rfl)
 have HB0 : Hid (Below w.heap.size w (w.alloc (.cells #[.int .u8 m, .int .u8 q, .slice A n cp, .string hd, .string tl, .string ct, .string sm] 24))) := Lib.hid (by go_grown)
 go_enter Tryz.func14, Tryz.ntmps14
 go_upto_region 1 with fail
 generalize w.alloc (.cells #[.int .u8 m, .int .u8 q, .slice A n cp, .string hd, .string tl, .string ct, .string sm] 24) = w1 at HF0 HB0 ⊢
 obtain ⟨⟨f0, f1, f2, f3, f4, f5, f6⟩, f7⟩ := obox7 HF0.out
 go_wp2_with fail
 clear f0 f1 f2 f3 f4 f5 f6 f7
 go_loopw [13, 6] (fun i zv wr => ∃ (j : Nat) (z : Int), j <= n /\ i = .int .i64 j /\ zv = .int .i64 z /\ Hid (ZZ j = some z) /\ Hid (wr.heap[w.heap.size]? = some (.cells #[.int .u8 m, .int .u8 q, .slice A n cp, .string hd, .string tl, .string ct, .string sm] 24 (0, 0))) /\ Hid (Below w.heap.size w wr)) (fun i zv _ => n - (intOf i).toNat)
 case atStart => exact ⟨0, 0, Nat.zero_le _, rfl, rfl, HSZ, HF0, HB0⟩
 case round =>
  clear HF0 HB0
  obtain ⟨j, z, hj, rfl, rfl, HZ, HF, HB⟩ := hrel
  have hzr := HB.out.size
  rcases Nat.lt_or_ge j n with hlt | hge
  ·obtain ⟨kb, ko, rfl, hkb, c0, c1, c2, c3⟩ := (HKI.out.below HB.out).cells (j := j) (by rw [HN.out]; exact hlt)
   have HCO := Lib.hid (fun wx (h : Below w.heap.size w wx) => ((HKI.out.below h).2.2 j (by rw [HN.out]; exact hlt)).1)
   have HCA := Lib.hid (fun w h => colat_c (kA ks j) (FA j) (FC j) name w h)
   have HIX := Lib.hid (ixF_spec (nameIs name) (kA ks j).fields)
   have HZNJ := Lib.hid (HZN.out j z HZ.out); have HZBJ := Lib.hid (HZB.out j z HZ.out); have HZOJ := Lib.hid (HZO.out j z HZ.out)
   have HTJ := Lib.hid (HTB.out (kA ks j))
   have HTK := Lib.hid (show topK name (kA ks j) = (cA (kA ks j).fields (ixF (nameIs name) (kA ks j).fields).toNat).kind from rfl)
   obtain ⟨TK, hTK⟩ : ∃ x, topK name (kA ks j) = x := ⟨_, rfl⟩
   rw [hTK] at HZBJ HZOJ HTK
   obtain ⟨TJ, hTJ⟩ : ∃ x, TB (kA ks j) = x := ⟨_, rfl⟩
   rw [hTJ] at HZNJ HZBJ HZOJ HTJ
   obtain ⟨K, hK⟩ : ∃ x, kA ks j = x := ⟨_, rfl⟩
   rw [hK] at c0 c1 c2 c3 HCO HCA HIX HTJ HTK
   clear hTK hTJ hK
   obtain ⟨kt, fs, km, ku⟩ := K
   unfold kindG at HCA
   simp only at c0 c1 c2 c3 HCO HCA HIX HTJ HTK
   obtain ⟨KA, hKA⟩ : ∃ x, FA j = x := ⟨_, rfl⟩
   obtain ⟨KC, hKC⟩ : ∃ x, FC j = x := ⟨_, rfl⟩
   obtain ⟨nf, hnf⟩ : ∃ x, fs.length = x := ⟨_, rfl⟩
   have HNF := Lib.hid hnf
   rw [hKA, hKC, hnf] at c1 HCA
   rw [hKA] at HCO
   clear hKA hKC hnf
   have HF5 := Lib.hid (heap_old HF.out (.cells #[.string kt, .slice KA nf KC, .int .i64 km, .string ku] 46))
   have HK5 := Lib.hid (heap_new wr (.cells #[.string kt, .slice KA nf KC, .int .i64 km, .string ku] 46) rfl)
   have hb5 : Below wr.heap.size wr (wr.alloc (.cells #[.string kt, .slice KA nf KC, .int .i64 km, .string ku] 46)) := by go_grown
   have HB5 := Lib.hid (below_then hb5 HB.out hzr)
   clear hb5
   go_upto_region 5 with fail
   obtain ⟨k0, hk0⟩ : ∃ x, wr.heap.size = x := ⟨_, rfl⟩
   rw [hk0] at HK5
   try rw [hk0]
   generalize wr.alloc (.cells #[.string kt, .slice KA nf KC, .int .i64 km, .string ku] 46) = w5 at HF5 HK5 HB5 ⊢
   clear hk0 c0 c1 c2 c3 hkb HF HB
   obtain ⟨⟨y0, y1, y2, y3⟩, -, y4⟩ := obox4 HK5.out
   go_wp2_with fail
   refine (HCA.out _ (HCO.out _ HB5.out)).mono ?_
   rintro _ w6 ⟨rfl, hb6⟩
   have HF6 := Lib.hid (heap_below HF5.out hb6); have HK6 := Lib.hid (heap_below HK5.out hb6)
   have HB6 := Lib.hid (below_then hb6 HB5.out HB5.out.size)
   clear y0 y1 y2 y3 y4 HF5 HK5 HB5 hb6
   obtain ⟨⟨y0, y1, y2, y3⟩, -, y4⟩ := obox4 HK6.out
   obtain ⟨⟨f0, f1, f2, f3, f4, f5, f6⟩, f7⟩ := obox7 HF6.out
   have e1 := emp_dec ku
   have e2 := bytes_dec kt hd
   have e3 := bytes_dec kt tl
   by_cases k1 : ku = ⟨#[]⟩
   case neg =>
    have HTF := Lib.hid (show TJ = false by rw [HTJ.out, decide_eq_false k1]; rfl)
    rw [decide_eq_false k1] at e1
    clear k1
    generalize ixF (nameIs name) fs = II
    have HZ7 := Lib.hid (HZNJ.out HTF.out)
    go_wp2
    go_roundw
    case rel => exact ⟨j + 1, z, by omega, by go_num, rfl, HZ7, HF6, HB6⟩
    case measure => simp [intOf]; omega
   rw [decide_eq_true k1] at e1
   have HTJ1 := Lib.hid (show TJ = (!decide (kt = hd) && (!decide (kt = tl) && decide (0 <= ixF (nameIs name) fs))) by rw [HTJ.out, decide_eq_true k1]; rfl)
   clear k1
   by_cases k2 : kt = hd
   ·have HTF := Lib.hid (show TJ = false by rw [HTJ1.out, decide_eq_true k2]; rfl)
    rw [decide_eq_true k2] at e2
    clear k2
    generalize ixF (nameIs name) fs = II
    have HZ7 := Lib.hid (HZNJ.out HTF.out)
    go_wp2
    go_roundw
    case rel => exact ⟨j + 1, z, by omega, by go_num, rfl, HZ7, HF6, HB6⟩
    case measure => simp [intOf]; omega
   rw [decide_eq_false k2] at e2
   have HTJ2 := Lib.hid (show TJ = (!decide (kt = tl) && decide (0 <= ixF (nameIs name) fs)) by rw [HTJ1.out, decide_eq_false k2]; rfl)
   clear k2
   by_cases k3 : kt = tl
   ·have HTF := Lib.hid (show TJ = false by rw [HTJ2.out, decide_eq_true k3]; rfl)
    rw [decide_eq_true k3] at e3
    clear k3
    generalize ixF (nameIs name) fs = II
    have HZ7 := Lib.hid (HZNJ.out HTF.out)
    go_wp2
    go_roundw
    case rel => exact ⟨j + 1, z, by omega, by go_num, rfl, HZ7, HF6, HB6⟩
    case measure => simp [intOf]; omega
   rw [decide_eq_false k3] at e3
   have HTJ3 := Lib.hid (show TJ = decide (0 <= ixF (nameIs name) fs) by rw [HTJ2.out, decide_eq_false k3]; rfl)
   clear k3
   rcases HIX.out with ⟨h1, -⟩ | ⟨ic, hi, h1, -, -⟩
   ·have HTF := Lib.hid (show TJ = false by rw [HTJ3.out, h1]; rfl)
    rw [h1]
    clear h1
    have HZ7 := Lib.hid (HZNJ.out HTF.out)
    go_wp2
    go_roundw
    case rel => exact ⟨j + 1, z, by omega, by go_num, rfl, HZ7, HF6, HB6⟩
    case measure => simp [intOf]; omega
   ·have HTT := Lib.hid (show TJ = true by rw [HTJ3.out, h1]; exact decide_eq_true (by omega))
    have hin : ic < nf := by rw [<- HNF.out]; exact hi
    obtain ⟨cb, co, rfl, hcb, d0, d1, d2, d3, d4, d5, d6, d7⟩ := (HCO.out _ HB6.out).cells (j := ic) hi
    have HCK := Lib.hid (show TK = (cA fs ic).kind by rw [HTK.out, h1, Int.toNat_natCast])
    obtain ⟨C, hC⟩ : ∃ x, cA fs ic = x := ⟨_, rfl⟩
    rw [hC] at d0 d1 d2 d3 d4 d5 d6 d7 HCK
    obtain ⟨cn, ck, cw, cl, cm, cr, ci, ce⟩ := C
    simp only at d0 d1 d2 d3 d4 d5 d6 d7 HCK
    rw [h1]
    clear h1 hi hC d0 d2 d3 d4 d5 d6 d7
    have hic0 : decide ((ic : Int) < 0) = false := decide_eq_false (by omega)
    by_cases hz : z = 0
    ·subst hz
     have HZ7 := Lib.hid (show ZZ (j + 1) = some ck by rw [<- HCK.out]; exact HZOJ.out HTT.out (fun h => h.1 rfl))
     go_wp2
     go_roundw
     case rel => exact ⟨j + 1, ck, by omega, by go_num, rfl, HZ7, HF6, HB6⟩
     case measure => simp [intOf]; omega
    ·have z1 : (z != 0) = true := by simpa using hz
     have z2 : (z == 0) = false := by simpa using hz
     by_cases hck : z = ck
     ·have HZ7 := Lib.hid (show ZZ (j + 1) = some ck by rw [<- HCK.out]; exact HZOJ.out HTT.out (fun h => h.2 (by rw [HCK.out]; exact hck)))
      have z3 : (z != ck) = false := by rw [hck]; simp
      have HZK := Lib.hid hck
      clear hz hck
      go_wp2
      go_roundw
      case rel => exact ⟨j + 1, ck, by omega, by go_num, rfl, HZ7, HF6, HB6⟩
      case measure => simp [intOf]; omega
     ·have HZ7 := Lib.hid (HZBJ.out HTT.out ⟨hz, by rw [HCK.out]; exact hck⟩)
      have HZL := Lib.hid (show ZZ n = none by
       have h := HZE.out (j + 1) (n - (j + 1)) HZ7.out
       rwa [show j + 1 + (n - (j + 1)) = n by omega] at h)
      have HE := Lib.hid (show R = (false, 6) by rw [HSF.out, HZL.out])
      have z3 : (z != ck) = true := by simpa using hck
      clear hz hck
      have hB := HB6.out
      go_wp2
      go_ret2
      exact ⟨by rw [HE.out]; rfl, hB⟩
  ·obtain rfl : j = n := by omega
   have hB := HB.out
   by_cases hz : z = 0
   ·subst hz
    have HE := Lib.hid (show R = (false, 5) by rw [HSF.out, HZ.out]; rfl)
    go_wp2
    go_ret2
    exact ⟨by rw [HE.out]; rfl, hB⟩
   ·have HE := Lib.hid (show R = (decide (z = 2), 0) by rw [HSF.out, HZ.out]; exact if_neg hz)
    have z1 : (z == 0) = false := by simpa using hz
    clear hz
    by_cases h2 : z = 2
    ·have HE2 := Lib.hid (show R = (true, 0) by rw [HE.out, decide_eq_true h2])
     have z2 : (z == 2) = true := by simpa using h2
     clear h2 HE
     go_wp2
     go_ret2
     exact ⟨by rw [HE2.out]; rfl, hB⟩
    ·have HE2 := Lib.hid (show R = (false, 0) by rw [HE.out, decide_eq_false h2])
     have z2 : (z == 2) = false := by simpa using h2
     clear h2 HE
     go_wp2
     go_ret2
     exact ⟨by rw [HE2.out]; rfl, hB⟩
theorem ystrV_get {L : List ByteArray} {j : Nat} (h : j < L.length) : (ystrV L)[j]? = some (.string (wd L j)) := by
 unfold ystrV wd; simp [List.getD_eq_getElem?_getD, h]
theorem ystrV_len (L : List ByteArray) : (ystrV L).length = L.length := by unfold ystrV; simp
theorem ystrV_one (L : List ByteArray) : ∀ u ∈ ystrV L, u.oneCell' = true := by
 intro u hu; unfold ystrV at hu; obtain ⟨y, -, rfl⟩ := List.mem_map.1 hu; rfl
theorem rowsV_one (n : Nat) (l : List RowP) (RA : Nat -> Option Addr) (RC : Nat -> Nat) : ∀ u ∈ rowsC 2 n (rowV l RA RC), u.oneCell' = true := by
 intro u hu
 unfold rowsC at hu
 obtain ⟨j, -, hj⟩ := List.mem_flatMap.1 hu
 obtain ⟨i, -, rfl⟩ := List.mem_map.1 hj
 unfold rowV
 split <;> rfl
theorem lit_own (w : World) (T : TypeId) (k : Nat) : (w.alloc (.cells #[] T)).ownsRow w.heap.size T k (.slice (some ⟨w.heap.size, 0, none⟩) 0 0) 0 [] := World.ownsRow_lit w #[] 0 (Nat.le_refl _) (by unfold maxLen; omega) (by simp)
def RetCS (L : List ByteArray) (w : World) (e : Ending) (w' : World) : Prop := ∃ X d, e = .returned (.slice X L.length d) /\ w'.ownsRow w.heap.size 9 1 (.slice X L.length d) L.length (ystrV L) /\ Below w.heap.size w w'
set_option maxHeartbeats 1000000 in
set_option maxRecDepth 100000 in
theorem cloneS_c (L : List ByteArray) (A : Option Addr) (c : Nat) (w : World) (hs : Svs w A L) (hz : L.length <= 1000000) :
  Calls Tryz.prog 48 #[.slice A L.length c] w (RetCS L w) := by
 obtain ⟨i0, hi⟩ : ∃ i, Tryz.prog.info? 9 = some i := ⟨_, rfl⟩
 have hz0 : i0.zero = some (.string ⟨#[]⟩) := by obtain rfl := Option.some.inj (hi.symm.trans rfl); rfl
 have hz1 : i0.size = 1 := by obtain rfl := Option.some.inj (hi.symm.trans rfl); rfl
 have hz2 : i0.bytes = 16 := by obtain rfl := Option.some.inj (hi.symm.trans rfl); rfl
 obtain ⟨n, hn⟩ : ∃ x, L.length = x := ⟨_, rfl⟩
 have HN := Lib.hid hn
 unfold RetCS
 rw [hn] at hz ⊢
 clear hn
 have HS := Lib.hid hs
 clear hs
 cases A with
 | none =>
  have h0 : n = 0 := by
   rcases Nat.eq_zero_or_pos n with h | h
   ·exact h
   ·obtain ⟨b, off, e, -⟩ := HS.out (by rw [HN.out]; exact h)
    cases e
  subst h0
  have hl0 : L = [] := List.length_eq_zero_iff.1 HN.out
  have hnil : ∀ w, (binOp .eql 49 (.slice none 0 c) (.slice none 0 0)).run Tryz.prog w = .ok (.bool true) w := fun w => Lib.run_eql_slice_nil w _ _ _ _ _ _ _ Tryz.underlying49
  go_enter Tryz.func48, Tryz.ntmps48
  go_wp2
  go_ret
  refine ⟨none, 0, rfl, ?_, Below.refl _ _⟩
  rw [hl0]
  exact World.ownsRow_nil _ _ _ _
 | some a =>
  have hnil : ∀ w, (binOp .eql 49 (.slice (some a) n c) (.slice none 0 0)).run Tryz.prog w = .ok (.bool false) w := fun w => Lib.run_eql_slice_nil w _ _ _ _ _ _ _ Tryz.underlying49
  go_enter Tryz.func48, Tryz.ntmps48
  go_wp2_with (first
   | (at_builtin; refine wpList_zapp rfl _ _ 49 rfl w.heap.size 9 i0 (.string ⟨#[]⟩) 1 16 Tryz.underlying49 hi hz0 hz1 hz2 rfl (by omega) (some ⟨w.heap.size, 0, none⟩) 0 0 [] rfl (lit_own w 9 1) (some a) n c (ystrV L) ?c1 rfl ?c2 (ystrV_one L) ?c3 ?c4 ?c5 ?_))
  case c1 => rw [ystrV_len, HN.out]; omega
  case c2 =>
   intro hp
   obtain ⟨b, off, e, hb, hc⟩ := HS.out (by rw [HN.out]; exact hp)
   refine ⟨b, off, e, fun j u hj => ?_⟩
   have hlt : j < L.length := by
    rcases Nat.lt_or_ge j L.length with h | h
    ·exact h
    ·rw [List.getElem?_eq_none (by rw [ystrV_len]; exact h)] at hj; cases hj
   rw [ystrV_get hlt] at hj
   cases hj
   exact (World.cell?_alloc_some w _ _ (by rw [hc j hlt]; rfl)).trans (hc j hlt)
  case c3 => unfold maxLen; omega
  case c4 => omega
  case c5 => simp
  intro X d w1 hown hg
  have hb : Below w.heap.size w w1 := ((Below.refl _ _).alloc (Nat.le_refl _) _).grown hg (by simp) (by intro k hk; simp [Value.ownBlock] at hk; omega)
  try rw [Nat.zero_add] at hown
  try rw [List.nil_append] at hown
  have HO := Lib.hid hown
  clear hg hown
  try rw [Nat.zero_add]
  go_wp2
  go_ret
  exact ⟨X, d, by first | rfl | simp, HO.out, hb⟩
def RetCR (l : List RowP) (RA : Nat -> Option Addr) (RC : Nat -> Nat) (w : World) (e : Ending) (w' : World) : Prop := ∃ X d, e = .returned (.slice X l.length d) /\ w'.ownsRow w.heap.size 51 2 (.slice X l.length d) l.length (rowsC 2 l.length (rowV l RA RC)) /\ Below w.heap.size w w'
set_option maxHeartbeats 1000000 in
set_option maxRecDepth 100000 in
theorem cloneR_c (l : List RowP) (RA : Nat -> Option Addr) (RC : Nat -> Nat) (A : Option Addr) (c : Nat) (w : World) (hs : Rws w A 2 l.length (rowV l RA RC)) (hz : l.length * 40 <= 140737488355328) :
  Calls Tryz.prog 21 #[.slice A l.length c] w (RetCR l RA RC w) := by
 obtain ⟨i0, hi, hz0, hz1, hz2⟩ := info_parts Tryz.infoRow
 obtain ⟨n, hn⟩ : ∃ x, l.length = x := ⟨_, rfl⟩
 unfold RetCR
 rw [hn] at hz hs ⊢
 have HN := Lib.hid hn
 clear hn
 have HS := Lib.hid hs
 clear hs
 cases A with
 | none =>
  have h0 : n = 0 := by
   rcases Nat.eq_zero_or_pos n with h | h
   ·exact h
   ·obtain ⟨b, off, e, -⟩ := HS.out h
    cases e
  subst h0
  have hnil : ∀ w, (binOp .eql 25 (.slice none 0 c) (.slice none 0 0)).run Tryz.prog w = .ok (.bool true) w := fun w => Lib.run_eql_slice_nil w _ _ _ _ _ _ _ Tryz.underlying25
  go_enter Tryz.func21, Tryz.ntmps21
  go_wp2
  go_ret
  exact ⟨none, 0, rfl, World.ownsRow_nil _ _ _ _, Below.refl _ _⟩
 | some a =>
  have hnil : ∀ w, (binOp .eql 25 (.slice (some a) n c) (.slice none 0 0)).run Tryz.prog w = .ok (.bool false) w := fun w => Lib.run_eql_slice_nil w _ _ _ _ _ _ _ Tryz.underlying25
  go_enter Tryz.func21, Tryz.ntmps21
  go_wp2_with (first
   | (at_builtin; refine wpList_zapp rfl _ _ 25 rfl w.heap.size 51 i0 (.agg #[.string ⟨#[]⟩, .slice none 0 0]) 2 40 Tryz.underlying25 hi hz0 hz1 hz2 rfl (by omega) (some ⟨w.heap.size, 0, none⟩) 0 0 [] rfl (lit_own w 51 2) (some a) n c (rowsC 2 n (rowV l RA RC)) ?c1 rfl ?c2 (rowsV_one n l RA RC) ?c3 ?c4 ?c5 ?_))
  case c1 => exact rowsC_len _ _ _
  case c2 =>
   intro hp
   obtain ⟨b, off, e, hb, hc⟩ := HS.out hp
   refine ⟨b, off, e, fun j u hj => ?_⟩
   have hlt : j < n * 2 := by
    rcases Nat.lt_or_ge j (n * 2) with h | h
    ·exact h
    ·rw [List.getElem?_eq_none (by rw [rowsC_len]; exact h)] at hj; cases hj
   have hj2 : j / 2 * 2 + j % 2 = j := by omega
   have h1 := rowsC_at (k := 2) (f := rowV l RA RC) (n := n) (j := j / 2) (i := j % 2) (by omega) (by omega)
   rw [hj2] at h1
   have h2 := hc (j / 2) (by omega) (j % 2) (by omega)
   rw [Nat.add_assoc, hj2] at h2
   have h3 : u = rowV l RA RC (j / 2) (j % 2) := Option.some.inj (hj.symm.trans h1)
   rw [h3]
   exact (World.cell?_alloc_some w _ _ (by rw [h2]; rfl)).trans h2
  case c3 => unfold maxLen; omega
  case c4 => omega
  case c5 => simp
  intro X d w1 hown hg
  have hb : Below w.heap.size w w1 := ((Below.refl _ _).alloc (Nat.le_refl _) _).grown hg (by simp) (by intro k hk; simp [Value.ownBlock] at hk; omega)
  try rw [Nat.zero_add] at hown
  try rw [List.nil_append] at hown
  have HO := Lib.hid hown
  clear hg hown
  try rw [Nat.zero_add]
  go_wp2
  go_ret
  exact ⟨X, d, by first | rfl | simp, HO.out, hb⟩
end Go.Proofs.YtbnjejenejoibaaGreatDoor
namespace Go.Proofs.YtbnjejenejoibaaGreatDoor
open Go.RowKit Limb Stab
set_option linter.unusedVariables false
structure Fam where
 n : Nat
 blk : Nat
 off : Nat
 w0 : World
 nb : Bool
 kb : Nat
 V : Nat -> ByteArray
 A : Nat -> Option Addr
 m : Nat -> Nat
 c : Nat -> Nat
def Fam.enc (F : Fam) (x : Nat) : List Value := [.slice (F.A x) (F.m x) (F.c x), .string (F.V x)]
def Fam.val (F : Fam) (x : Nat) : Value := .agg #[.slice (F.A x) (F.m x) (F.c x), .string (F.V x)]
def Fam.cf (F : Fam) (x y : Nat) : Int := cmpV F.nb (F.V x) (F.V y)
def Fam.r (F : Fam) (x : Nat) : Nat := rankV F.nb F.V F.n x
structure Fam.Good (F : Fam) : Prop where
 size : ∀ j, j < F.n -> (F.V j).size <= 9223372036854775807
 few : F.n <= 1000000000000000000
 kbox : F.w0.heap[F.kb]? = some (.cells #[.bool F.nb] 4 (0, 0))
 own : ∃ cs, F.w0.heap[F.blk]? = some (.cells cs 55 (0, 0))
theorem Fam.Good.cmp {F : Fam} (G : F.Good) (x y : Nat) (hx : x < F.n) (hy : y < F.n) : F.cf x y < 0 ↔ F.r y < F.r x := rankV_lt hx hy
def Bij (n : Nat) (f : Nat -> Nat) : Prop := ∃ g : Nat -> Nat, ∀ x, x < n -> f x < n /\ g x < n /\ f (g x) = x /\ g (f x) = x
structure Fam.Row (F : Fam) (f : Nat -> Nat) (w : World) : Prop where
 cell : ∀ j, j < F.n -> ∀ c v, (F.enc (f j))[c]? = some v -> w.cell? ⟨F.blk, F.off + j * 2 + c, none⟩ = some v
 row : ∃ cs, w.heap[F.blk]? = some (.cells cs 55 (0, 0))
 os : w.os = F.w0.os
 tape : w.tape = F.w0.tape
 output : w.output = F.w0.output
 size : F.w0.heap.size <= w.heap.size
 other : ∀ g, g < F.w0.heap.size -> g ≠ F.blk -> w.heap[g]? = F.w0.heap[g]?
 bij : Bij F.n f
section
variable {F : Fam} {f g : Nat -> Nat} {w w' : World}
theorem Fam.Row.ice (h : F.Row f w) (o : Nat) : w.frozen? ⟨F.blk, o, none⟩ = false := by
 obtain ⟨cs, hc⟩ := h.row
 simp [World.frozen?, hc]
theorem Fam.Row.lt (h : F.Row f w) : F.blk < w.heap.size := by
 obtain ⟨cs, hc⟩ := h.row
 exact lt_heap hc
theorem Fam.Row.drew (h : F.Row f w) : F.Row f w.drew := ⟨h.cell, h.row, h.os, h.tape, h.output, h.size, h.other, h.bij⟩
theorem Fam.Row.congr (h : F.Row f w) (hg : ∀ x, x < F.n -> g x = f x) : F.Row g w := by
 obtain ⟨k, hk⟩ := h.bij
 refine ⟨fun j hj c v hv => h.cell j hj c v (by rw [<- hg j hj]; exact hv), h.row, h.os, h.tape, h.output, h.size, h.other, k, fun x hx => ?_⟩
 obtain ⟨k1, k2, k3, k4⟩ := hk x hx
 exact ⟨by rw [hg x hx]; exact k1, k2, by rw [hg _ k2]; exact k3, by rw [hg x hx]; exact k4⟩
theorem Fam.Row.below (h : F.Row f w) (hb : Below w.heap.size w w') : F.Row f w' := by
 have hl := h.lt
 obtain ⟨cs, hc⟩ := h.row
 refine ⟨fun j hj c v hv => ?_, ⟨cs, (hb.block _ hl).trans hc⟩, hb.os.trans h.os, hb.tape.trans h.tape, hb.output.trans h.output, Nat.le_trans h.size hb.size, fun k hk hne => (hb.block k (Nat.lt_of_lt_of_le hk h.size)).trans (h.other k hk hne), h.bij⟩
 exact (hb.cell (p := ⟨F.blk, F.off + j * 2 + c, none⟩) hl).trans (h.cell j hj c v hv)
theorem Fam.Row.two (h : F.Row f w) {j : Nat} (hj : j < F.n) : w.cell? ⟨F.blk, F.off + j * 2, none⟩ = some (.slice (F.A (f j)) (F.m (f j)) (F.c (f j))) /\ w.cell? ⟨F.blk, F.off + j * 2 + 1, none⟩ = some (.string (F.V (f j))) :=
 ⟨h.cell j hj 0 _ rfl, h.cell j hj 1 _ rfl⟩
theorem setCells_in (b : Nat) : ∀ (vs : List Value) (o : Nat) (w : World) (c : Nat) (v : Value), vs[c]? = some v -> (∀ i, i < vs.length -> (w.cell? ⟨b, o + i, none⟩).isSome = true) -> (w.setCells b o vs).cell? ⟨b, o + c, none⟩ = some v
 | [], _, _, _, _, h, _ => by cases h
 | u :: vs, o, w, 0, v, h, hs => by
  injection h with h
  subst h
  rw [World.setCells, World.cell?_setCells_out b vs (o + 1) _ _ (fun _ _ => Or.inl (by simp))]
  exact World.cell?_setCell_same' _ _ _ (hs 0 (by simp))
 | u :: vs, o, w, c + 1, v, h, hs => by
  rw [World.setCells, show o + (c + 1) = o + 1 + c by omega]
  refine setCells_in b vs (o + 1) _ c v h fun i hi => ?_
  rw [World.cell?_setCell_other _ _ _ _ (by intro e; injection e; omega), show o + 1 + i = o + (i + 1) by omega]
  exact hs (i + 1) (by simp; omega)
theorem setCells_heap (b : Nat) : ∀ (vs : List Value) (o : Nat) (w : World) (g : Nat), g ≠ b -> (w.setCells b o vs).heap[g]? = w.heap[g]?
 | [], _, _, _, _ => rfl
 | v :: vs, o, w, g, h => by rw [World.setCells, setCells_heap b vs _ _ g h]; exact Below.heap_setCell w ⟨b, o, none⟩ v g h
theorem setCells_row (b : Nat) {T : TypeId} : ∀ (vs : List Value) (o : Nat) (w : World), (∃ cs, w.heap[b]? = some (.cells cs T (0, 0))) -> ∃ cs, (w.setCells b o vs).heap[b]? = some (.cells cs T (0, 0))
 | [], _, _, h => h
 | v :: vs, o, w, ⟨cs, h⟩ => setCells_row b vs (o + 1) _ ⟨_, heap_set h o v⟩
theorem setCells_rest (b : Nat) : ∀ (vs : List Value) (o : Nat) (w : World), (w.setCells b o vs).os = w.os /\ (w.setCells b o vs).tape = w.tape /\ (w.setCells b o vs).output = w.output /\ (w.setCells b o vs).heap.size = w.heap.size
 | [], _, _ => ⟨rfl, rfl, rfl, rfl⟩
 | v :: vs, o, w => by
  obtain ⟨h1, h2, h3, h4⟩ := setCells_rest b vs (o + 1) (w.setCell ⟨b, o, none⟩ v)
  exact ⟨h1, h2, h3, h4.trans (by simp)⟩
theorem Bij.swap {n : Nat} (h : Bij n f) {i j : Nat} (hi : i < n) (hj : j < n) : Bij n (swf f i j) := by
 obtain ⟨g, hg⟩ := h
 refine ⟨fun x => if g x = j then i else if g x = i then j else g x, fun x hx => ?_⟩
 obtain ⟨k1, k2, k3, k4⟩ := hg x hx
 obtain ⟨i1, i2, i3, i4⟩ := hg i hi
 obtain ⟨j1, j2, j3, j4⟩ := hg j hj
 unfold swf
 refine ⟨?_, ?_, ?_, ?_⟩
 ·split
  ·exact i1
  ·split
   ·exact j1
   ·exact k1
 ·simp only
  split
  ·exact hi
  ·split
   ·exact hj
   ·exact k2
 ·simp only
  by_cases h1 : g x = j
  ·rw [if_pos h1]
   by_cases h2 : i = j
   ·rw [if_pos h2, h2, <- h1]; exact k3
   ·rw [if_neg h2, if_pos rfl, <- h1]; exact k3
  ·rw [if_neg h1]
   by_cases h2 : g x = i
   ·rw [if_pos h2, if_pos rfl, <- h2]; exact k3
   ·rw [if_neg h2, if_neg h1, if_neg h2]; exact k3
 ·simp only
  by_cases h1 : x = j
  ·rw [if_pos h1, i4]
   by_cases h2 : i = j
   ·rw [if_pos h2, h1]; exact h2
   ·rw [if_neg h2, if_pos rfl, h1]
  ·rw [if_neg h1]
   by_cases h2 : x = i
   ·rw [if_pos h2, j4, if_pos rfl, h2]
   ·rw [if_neg h2, k4, if_neg h1, if_neg h2]
theorem Fam.enc_len (F : Fam) (x : Nat) : (F.enc x).length = 2 := rfl
theorem Fam.Row.there (h : F.Row f w) {j i : Nat} (hj : j < F.n) (hi : i < 2) : (w.cell? ⟨F.blk, F.off + j * 2 + i, none⟩).isSome = true := by
 obtain ⟨v, hv⟩ : ∃ v, (F.enc (f j))[i]? = some v := ⟨_, List.getElem?_eq_getElem (by rw [F.enc_len]; exact hi)⟩
 rw [h.cell j hj i v hv]; rfl
theorem Fam.Row.swap (h : F.Row f w) {i j : Nat} (hi : i < F.n) (hj : j < F.n) : F.Row (swf f i j) ((w.setCells F.blk (F.off + i * 2) (F.enc (f j))).setCells F.blk (F.off + j * 2) (F.enc (f i))) := by
 obtain ⟨e1, e2, e3, e4⟩ := setCells_rest F.blk (F.enc (f j)) (F.off + i * 2) w
 obtain ⟨l1, l2, l3, l4⟩ := setCells_rest F.blk (F.enc (f i)) (F.off + j * 2) (w.setCells F.blk (F.off + i * 2) (F.enc (f j)))
 refine ⟨fun x hx c v hv => ?_, setCells_row _ _ _ _ (setCells_row _ _ _ _ h.row), l1.trans (e1.trans h.os), l2.trans (e2.trans h.tape), l3.trans (e3.trans h.output), by rw [l4, e4]; exact h.size, fun k hk hne => (setCells_heap _ _ _ _ _ hne).trans ((setCells_heap _ _ _ _ _ hne).trans (h.other k hk hne)), h.bij.swap hi hj⟩
 have hc : c < 2 := by have := (List.getElem?_eq_some_iff.1 hv).1; rwa [F.enc_len] at this
 unfold swf at hv
 by_cases h1 : x = j
 ·subst h1
  rw [if_pos rfl] at hv
  refine setCells_in _ _ _ _ c v hv fun k hk => ?_
  by_cases h2 : x = i
  ·subst h2
   obtain ⟨u, hu⟩ : ∃ u, (F.enc (f x))[k]? = some u := ⟨_, List.getElem?_eq_getElem hk⟩
   rw [setCells_in _ _ _ _ k u hu (fun l hl => h.there hx (by rw [F.enc_len] at hl; exact hl))]
   rfl
  ·rw [World.cell?_setCells_out _ _ _ _ _ (fun _ _ => by simp only [F.enc_len] at *; omega)]
   exact h.there hx (by rw [F.enc_len] at hk; exact hk)
 ·rw [if_neg h1] at hv
  rw [World.cell?_setCells_out _ _ _ _ _ (fun _ _ => by simp only [F.enc_len]; omega)]
  by_cases h2 : x = i
  ·subst h2
   rw [if_pos rfl] at hv
   exact setCells_in _ _ _ _ c v hv fun k hk => h.there hx (by rw [F.enc_len] at hk; exact hk)
  ·rw [if_neg h2] at hv
   rw [World.cell?_setCells_out _ _ _ _ _ (fun _ _ => by simp only [F.enc_len]; omega)]
   exact h.cell x hx c v hv
theorem Fam.Row.num (h : F.Row f w) (G : F.Good) : w.heap[F.kb]? = some (.cells #[.bool F.nb] 4 (0, 0)) := by
 obtain ⟨cs, ho⟩ := G.own
 exact (h.other _ (lt_heap G.kbox) (heap_ne G.kbox ho (by decide))).trans G.kbox
set_option maxHeartbeats 2000000 in
set_option maxRecDepth 100000 in
theorem test_c (F : Fam) (G : F.Good) {f : Nat -> Nat} {w : World} (R : F.Row f w) {x y : Nat} (hx : x < F.n) (hy : y < F.n) :
  Calls Tryz.prog 19 #[F.val x, F.val y, .pointer (some ⟨F.kb, 0, none⟩)] w fun e w' => e = .returned (.int .i64 (F.cf x y)) /\ Below w.heap.size w w' := by
 have HK := Lib.hid (R.num G)
 have HC := Lib.hid (fun w => cmpval_c F.nb (F.V x) (F.V y) w (G.size x hx) (G.size y hy))
 unfold Fam.val Fam.cf
 generalize cmpV F.nb (F.V x) (F.V y) = Z at HC ⊢
 generalize F.A x = a1
 generalize F.m x = m1
 generalize F.c x = c1
 generalize F.V x = v1 at HC ⊢
 generalize F.A y = a2
 generalize F.m y = m2
 generalize F.c y = c2
 generalize F.V y = v2 at HC ⊢
 generalize F.nb = nb at HC HK
 generalize F.kb = kb at HK ⊢
 clear R G hx hy
 have HX := Lib.hid (heap_old (heap_new w (.cells #[.slice a1 m1 c1, .string v1] 55) rfl) (.cells #[.slice a2 m2 c2, .string v2] 55))
 have HY := Lib.hid (heap_new (w.alloc (.cells #[.slice a1 m1 c1, .string v1] 55)) (.cells #[.slice a2 m2 c2, .string v2] 55) (g := w.heap.size + 1) (by simp))
 have HN := Lib.hid (heap_old (heap_old HK.out (.cells #[.slice a1 m1 c1, .string v1] 55)) (.cells #[.slice a2 m2 c2, .string v2] 55))
 have HB : Hid (Below w.heap.size w ((w.alloc (.cells #[.slice a1 m1 c1, .string v1] 55)).alloc (.cells #[.slice a2 m2 c2, .string v2] 55))) := Lib.hid (by go_grown)
 go_enter Tryz.func19, Tryz.ntmps19
 go_upto_region 1 with fail
 generalize (w.alloc (.cells #[.slice a1 m1 c1, .string v1] 55)).alloc (.cells #[.slice a2 m2 c2, .string v2] 55) = w1 at HX HY HN HB ⊢
 obtain ⟨x0, x1, -, -, x2⟩ := box2 HX.out
 obtain ⟨y0, y1, -, -, y2⟩ := box2 HY.out
 have n0 := cell_of_row _ _ 0 _ _ _ HN.out
 go_wp2_with fail
 refine (HC.out _).mono ?_
 rintro _ w2 ⟨rfl, hb2⟩
 have hB2 := below_then hb2 HB.out HB.out.size
 go_wp2
 go_ret
 exact ⟨rfl, hB2⟩
end
end Go.Proofs.YtbnjejenejoibaaGreatDoor
