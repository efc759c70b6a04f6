
/- The walks of package flat's words, and of kit's Number, Undash. -/
import Derived.Test.YtbnjejenejoibaaGreatDoorF8
import Derived.Test.YtbnjejenejoibaaGreatDoorF6
import Derived.Test.YtbnjejenejoibaaGreatDoorT14
namespace Go.Proofs.YtbnjejenejoibaaGreatDoor
open Go.RowKit Limb Nmb Work
set_option linter.unusedVariables false
set_option linter.unusedSimpArgs false
def RetNo (s : ByteArray) (w : World) (e : Ending) (w' : World) : Prop := e = .returned (.tuple #[.int .i64 (nVal s), .bool (nOk s)]) /\ Below w.heap.size w w'
theorem nOk_no {s : ByteArray} (h : nOk s = false) (w w' : World) (hb : Below w.heap.size w w') : RetNo s w (.returned (.tuple #[.int .i64 0, .bool false])) w' := by
 unfold RetNo nVal
 rw [h]
 exact ⟨rfl, hb⟩
theorem nOk_yes {s : ByteArray} (h : nOk s = true) (w w' : World) (hb : Below w.heap.size w w') : RetNo s w (.returned (.tuple #[.int .i64 ((dv s.data.toList : Nat) : Int), .bool true])) w' := by
 unfold RetNo nVal
 rw [h]
 exact ⟨rfl, hb⟩
set_option maxHeartbeats 1000000 in
set_option maxRecDepth 100000 in
theorem number_c (s : ByteArray) (w : World) (hs : s.size <= 9223372036854775807) :
  Calls Tryz.prog 141 #[.string s, .int .i64 4] w (RetNo s w) := by
 have HD := Lib.hid (fun w => isdigs_c s w hs)
 by_cases h1 : s.size <= 4
 case neg =>
  have HN := Lib.hid (show nOk s = false by unfold nOk; rw [decide_eq_false h1]; rfl)
  have h2 : (4 : Int) < (s.size : Int) := by omega
  clear h1
  go_enter Tryz.func141, Tryz.ntmps141
  go_wp2
  go_ret2
  exact nOk_no HN.out _ _ (Below.refl _ _)
 have h2 : ¬ (4 : Int) < (s.size : Int) := by omega
 have HE : ∀ d z, digs s.data.toList = d -> (decide (1 < s.size) && decide (byA s.data.toList 0 = 48)) = z -> nOk s = (d && !z) := by
  intro d z h3 h4
  unfold nOk
  rw [decide_eq_true h1, h3, h4, Bool.true_and]
 have HEE := Lib.hid HE
 cases hd : digs s.data.toList with
 | false =>
  have HN := Lib.hid (show nOk s = false by rw [HE _ _ hd rfl]; rfl)
  rw [hd] at HD
  clear hd HE h1
  go_enter Tryz.func141, Tryz.ntmps141
  go_wp2_with fail
  refine (HD.out _).mono ?_
  rintro e w2 ⟨rfl, rfl⟩
  go_wp2
  go_ret2
  exact nOk_no HN.out _ _ (Below.refl _ _)
 | true =>
  rw [hd] at HD
  have HA := Lib.hid (fun w => atoi_c s w (by omega) hd)
  have h0 := (digs_yes hd).1
  have hl : s.data.toList.length = s.size := by simp
  have hz : 0 < s.size := by omega
  have hb0 : byA s.data.toList 0 = (s[0].toNat : Int) := by rw [byA_get h0]; rfl
  by_cases h5 : 1 < s.size /\ s[0].toNat = 48
  ·have HN := Lib.hid (show nOk s = false by
    rw [HE _ _ hd rfl, hb0, decide_eq_true h5.1, decide_eq_true (show (s[0].toNat : Int) = 48 by omega)]; rfl)
   obtain ⟨h5, h6⟩ := h5
   have g1 : (1 : Int) < (s.size : Int) := by omega
   have g2 : ((s[0].toNat : Int) == 48) = true := by rw [h6]; rfl
   clear hd HE h1 hb0 hl h0 h5 h6
   go_enter Tryz.func141, Tryz.ntmps141
   go_wp2_with fail
   refine (HD.out _).mono ?_
   rintro e w2 ⟨rfl, rfl⟩
   go_wp2
   go_ret2
   exact nOk_no HN.out _ _ (Below.refl _ _)
  have HN := Lib.hid (show nOk s = true by
   rw [HE _ _ hd rfl, hb0]
   by_cases h6 : 1 < s.size
   ·rw [decide_eq_true h6, decide_eq_false (show ¬ (s[0].toNat : Int) = 48 from fun e => h5 ⟨h6, by omega⟩)]; rfl
   ·rw [decide_eq_false h6]; rfl)
  by_cases h6 : 1 < s.size
  ·have g1 : (1 : Int) < (s.size : Int) := by omega
   have g2 : ((s[0].toNat : Int) == 48) = false := by
    have : ¬ (s[0].toNat : Int) = 48 := fun e => h5 ⟨h6, by omega⟩
    simpa using this
   clear hd HE h1 hb0 hl h0 h5 h6
   go_enter Tryz.func141, Tryz.ntmps141
   go_wp2_with fail
   refine (HD.out _).mono ?_
   rintro e w2 ⟨rfl, rfl⟩
   go_wp2_with fail
   refine (HA.out _).mono ?_
   rintro e w3 ⟨rfl, hb3⟩
   go_wp2
   go_quiet (fail)
   go_wp2
   go_ret2
   exact nOk_yes HN.out _ _ (below_drewN hb3 _)
  ·have g1 : ¬ (1 : Int) < (s.size : Int) := by omega
   clear hd HE h1 hb0 hl h0 h5 h6
   go_enter Tryz.func141, Tryz.ntmps141
   go_wp2_with fail
   refine (HD.out _).mono ?_
   rintro e w2 ⟨rfl, rfl⟩
   go_wp2_with fail
   refine (HA.out _).mono ?_
   rintro e w3 ⟨rfl, hb3⟩
   go_wp2
   go_quiet (fail)
   go_wp2
   go_ret2
   exact nOk_yes HN.out _ _ (below_drewN hb3 _)
theorem lit_dec (s : ByteArray) (l : List UInt8) : (s.toList == l) = decide (s = bs l) := by
 rw [Lib.toList_data, Bool.eq_iff_iff, decide_eq_true_iff, beq_iff_eq]
 exact ⟨fun h => by rw [<- h, bs_self], fun h => by rw [h, bs_toList]⟩
set_option maxRecDepth 100000 in
theorem undash_c (s : ByteArray) (w : World) : Calls Tryz.prog 96 #[.string s] w fun e w' => w = w' /\ e = .returned (.string (undS s)) := by
 have hd : (s.toList == [45]) = decide (s = ⟨#[45]⟩) := lit_dec s [45]
 by_cases h : s = ⟨#[45]⟩
 ·have HU := Lib.hid (show undS s = ⟨#[]⟩ by unfold undS; rw [if_pos h]; rfl)
  rw [decide_eq_true h] at hd
  clear h
  go_enter Tryz.func96, Tryz.ntmps96
  go_wp2
  go_ret
  exact ⟨rfl, by rw [HU.out]; rfl⟩
 ·have HU := Lib.hid (show undS s = s by unfold undS; rw [if_neg h])
  rw [decide_eq_false h] at hd
  clear h
  go_enter Tryz.func96, Tryz.ntmps96
  go_wp2
  go_ret
  exact ⟨rfl, by rw [HU.out]; rfl⟩
def Sts (w : World) (A : Option Addr) (L : List ByteArray) : Prop :=
 0 < L.length -> ∃ (b off : Nat) (cs : Array Value) (f : Nat × Nat), A = some ⟨b, off, none⟩ /\ w.heap[b]? = some (.cells cs 9 f) /\ ∀ j, j < L.length -> cs[off + j]? = some (.string (wd L j))
theorem Sts.keep {w w' : World} {A : Option Addr} {L : List ByteArray} (h : Sts w A L) (hk : ∀ (g : Nat) (cs : Array Value) (f : Nat × Nat), w.heap[g]? = some (.cells cs 9 f) -> w'.heap[g]? = some (.cells cs 9 f)) : Sts w' A L := fun hn => by
 obtain ⟨b, off, cs, f, e, hh, hc⟩ := h hn
 exact ⟨b, off, cs, f, e, hk _ _ _ hh, hc⟩
theorem Sts.below {w w' : World} {A : Option Addr} {L : List ByteArray} (h : Sts w A L) (hb : Below w.heap.size w w') : Sts w' A L := h.keep fun _ _ _ hh => heap_below hh hb
theorem Sts.far {w : World} {A : Option Addr} {L : List ByteArray} {b i : Nat} {cs : Array Value} {T : TypeId} {f : Nat × Nat} (h : Sts w A L) (hr : w.heap[b]? = some (.cells cs T f)) (hT : 9 ≠ T) (u : Value) : Sts (w.setCell ⟨b, i, none⟩ u) A L :=
 h.keep fun _ _ _ hh => heap_far hh (heap_ne hh hr hT) u
theorem Sts.cells {w : World} {A : Option Addr} {L : List ByteArray} (h : Sts w A L) (hn : 0 < L.length) : ∃ b off, A = some ⟨b, off, none⟩ /\ b < w.heap.size /\ ∀ j, j < L.length -> w.cell? ⟨b, off + j, none⟩ = some (.string (wd L j)) := by
 obtain ⟨b, off, cs, f, e, hh, hc⟩ := h hn
 exact ⟨b, off, e, lt_heap hh, fun j hj => (cell_of_row w b (off + j) cs 9 f hh).trans (hc j hj)⟩
theorem grown_tr {a b c : World} {row : Option Nat} (h : a.grownBy b row) (k : b.grownBy c row) : a.grownBy c row :=
 ⟨k.os.trans h.os, k.tape.trans h.tape, k.output.trans h.output, Nat.le_trans h.size k.size, fun i hi hne => (k.block i (Nat.lt_of_lt_of_le hi h.size) hne).trans (h.block i hi hne)⟩
theorem grown_of {w w' : World} (h : Below w.heap.size w w') (row : Option Nat) : w.grownBy w' row := ⟨h.os, h.tape, h.output, h.size, fun k hk _ => h.block k hk⟩
theorem grown_set (w : World) (b i : Nat) (u : Value) : w.grownBy (w.setCell ⟨b, i, none⟩ u) (some b) :=
 ⟨rfl, rfl, rfl, by simp, fun k _ hne => Below.heap_setCell w _ u k (fun e => hne (by rw [e]))⟩
theorem grown_block {w w' : World} {b g : Nat} {o : Obj} (h : w.grownBy w' (some b)) (hne : g ≠ b) (hc : w.heap[g]? = some o) : w'.heap[g]? = some o :=
 (h.block g (lt_heap hc) (fun e => hne (by injection e))).trans hc
def Wds (w : World) (b : Nat) (L : List ByteArray) (bad : Bool) : Prop :=
 ∃ A c, w.heap[b]? = some (.cells #[.slice A L.length c, .bool bad] 147 (0, 0)) /\ L.length <= c /\ c <= 9223372036854775807 /\ Sts w A L
theorem wd_tail {L : List ByteArray} (j : Nat) : wd L.tail j = wd L (j + 1) := by
 cases L with
 | nil => rfl
 | cons a L => rfl
theorem sts_tail {w : World} {g off : Nat} {a : ByteArray} {L : List ByteArray} (h : Sts w (some ⟨g, off, none⟩) (a :: L)) : Sts w (some ⟨g, off + 1, none⟩) L := fun hn => by
 obtain ⟨b, o, cs, f, e, hh, hc⟩ := h (by simp)
 injection e with e
 injection e with e1 e2
 subst e1; subst e2
 exact ⟨_, _, cs, f, rfl, hh, fun j hj => by
  have := hc (j + 1) (by simpa using hj)
  rw [show off + 1 + j = off + (j + 1) by omega, this]
  rfl⟩
def RetNx (b : Nat) (L : List ByteArray) (bad : Bool) (v : Value) (w : World) (e : Ending) (w' : World) : Prop := e = .returned v /\ Wds w' b L.tail bad /\ w.grownBy w' (some b)
set_option maxRecDepth 100000 in
theorem next_c (b : Nat) (L : List ByteArray) (bad : Bool) (w : World) (h : Wds w b L bad) :
  Calls Tryz.prog 94 #[.pointer (some ⟨b, 0, none⟩)] w (RetNx b L (bad || L.isEmpty) (.string (wd L 0)) w) := by
 obtain ⟨A, c, hh, hc, hm, hs⟩ := h
 obtain ⟨g0, g1, g2, g3, g4⟩ := box2 hh
 cases L with
 | nil =>
  have HH := Lib.hid hh
  clear hh hs
  go_enter Tryz.func94, Tryz.ntmps94
  go_wp2
  go_ret
  refine ⟨rfl, ⟨A, c, ?_, hc, hm, fun hn => absurd hn (by simp)⟩, grown_set _ _ _ _⟩
  have := heap_set HH.out 1 (.bool true)
  simpa using this
 | cons a L =>
  have HST := Lib.hid hs
  obtain ⟨g, off, rfl, hg, hcs⟩ := hs.cells (by simp)
  have h0 : w.cell? ⟨g, off, none⟩ = some (.string a) := hcs 0 (by simp)
  have HH := Lib.hid hh
  have hlen : (a :: L).length = L.length + 1 := rfl
  rw [hlen] at g0 hc
  have g0' : w.cell? ⟨b, 0, none⟩ = some (.slice (some ⟨g, off, none⟩) (L.length + 1) c) := g0
  obtain ⟨n, hn⟩ : ∃ n, L.length = n := ⟨_, rfl⟩
  have HN := Lib.hid hn
  rw [hn] at g0' hc
  have i1 : (0 : Int) < ((n + 1 : Nat) : Int) := by omega
  have i2 : (((n + 1 : Nat) : Int) == 0) = false := by
   have : ¬ ((n + 1 : Nat) : Int) = 0 := by omega
   simpa using this
  clear hh hcs g0 hn hlen
  by_cases hcc : c = 1
  ·subst hcc
   go_enter Tryz.func94, Tryz.ntmps94
   go_wp2
   go_ret
   obtain rfl : n = 0 := by omega
   refine ⟨rfl, ⟨some ⟨g, off, none⟩, 0, ?_, by rw [List.tail_cons, HN.out]; exact Nat.le_refl 0, by omega, fun hn => absurd hn (by rw [List.tail_cons, HN.out]; omega)⟩, grown_set _ _ _ _⟩
   have := heap_set HH.out 0 (.slice (some ⟨g, off, none⟩) 0 0)
   rw [List.tail_cons, HN.out]
   simpa using this
  ·go_enter Tryz.func94, Tryz.ntmps94
   go_wp2
   go_ret
   refine ⟨rfl, ⟨some ⟨g, off + 1, none⟩, c - 1, ?_, by rw [List.tail_cons, HN.out]; omega, by omega, Sts.far (sts_tail HST.out) HH.out (by decide) _⟩, grown_set _ _ _ _⟩
   have := heap_set HH.out 0 (.slice (some ⟨g, off + 1, none⟩) n (c - 1))
   rw [List.tail_cons, HN.out]
   simpa using this
set_option maxRecDepth 100000 in
theorem wnum_c (b : Nat) (L : List ByteArray) (bad : Bool) (w : World) (hz : ∀ s ∈ L, s.size <= 9223372036854775807) (h : Wds w b L bad) :
  Calls Tryz.prog 95 #[.pointer (some ⟨b, 0, none⟩)] w (RetNx b L (bad || !nOk (wd L 0)) (.int .i64 (nVal (wd L 0))) w) := by
 have HX := Lib.hid (next_c b L bad w h)
 have HS := Lib.hid (number_c (wd L 0) · (wd_sz hz 0))
 have HE := Lib.hid (show (bad || L.isEmpty || !nOk (wd L 0)) = (bad || !nOk (wd L 0)) from by
  cases L with
  | nil => cases bad <;> rfl
  | cons a L => simp)
 have hbb : b < w.heap.size := by obtain ⟨A, c, hh, -⟩ := h; exact lt_heap hh
 clear h hz
 obtain ⟨NV, hNV⟩ : ∃ x, nVal (wd L 0) = x := ⟨_, rfl⟩
 obtain ⟨NO, hNO⟩ : ∃ x, nOk (wd L 0) = x := ⟨_, rfl⟩
 obtain ⟨s, hs⟩ : ∃ x, wd L 0 = x := ⟨_, rfl⟩
 unfold RetNo at HS
 rw [hs] at HX HS hNV hNO HE ⊢
 rw [hNV, hNO] at HS
 rw [hNO] at HE
 rw [hNV, hNO]
 clear hs hNV hNO
 go_enter Tryz.func95, Tryz.ntmps95
 go_wp2_with fail
 refine HX.out.mono ?_
 rintro e w2 ⟨rfl, h2, hg2⟩
 go_wp2_with fail
 refine (HS.out _).mono ?_
 rintro e w3 ⟨rfl, hb3⟩
 obtain ⟨A, c, hh, hc, hm, hst⟩ := h2
 have hh3 := heap_below hh hb3
 have HST := Lib.hid (hst.below hb3)
 have HH := Lib.hid hh3
 have HG := Lib.hid (grown_tr hg2 (grown_of hb3 (some b)))
 obtain ⟨g0, g1, g2, g3, g4⟩ := box2 hh3
 obtain ⟨n, hn⟩ : ∃ n, L.tail.length = n := ⟨_, rfl⟩
 have HN := Lib.hid hn
 rw [hn] at g0 hc
 have HC := Lib.hid hc
 obtain ⟨BB, hBB⟩ : ∃ x, (bad || L.isEmpty) = x := ⟨_, rfl⟩
 rw [hBB] at g1 HE
 clear hh hh3 hst hb3 hg2 hn hBB hc
 have HFin : ∀ x, x = (BB || !NO) -> Wds (w3.setCell ⟨b, 1, none⟩ (.bool x)) b L.tail (bad || !NO) := fun x hx => by
  subst hx
  rw [<- HE.out]
  refine ⟨A, c, ?_, by rw [HN.out]; exact HC.out, hm, Sts.far HST.out HH.out (by decide) _⟩
  have := heap_set HH.out 1 (.bool (BB || !NO))
  simpa using this
 have HFIN := Lib.hid HFin
 clear HFin
 cases BB with
 | true =>
  go_wp2
  go_ret
  exact ⟨rfl, HFIN.out _ rfl, grown_tr HG.out (grown_set _ _ _ _)⟩
 | false =>
  cases NO with
  | true =>
   go_wp2
   go_ret
   exact ⟨rfl, HFIN.out _ rfl, grown_tr HG.out (grown_set _ _ _ _)⟩
  | false =>
   go_wp2
   go_ret
   exact ⟨rfl, HFIN.out _ rfl, grown_tr HG.out (grown_set _ _ _ _)⟩
set_option maxRecDepth 100000 in
theorem wbyte_c (b : Nat) (L : List ByteArray) (bad : Bool) (w : World) (hz : ∀ s ∈ L, s.size <= 9223372036854775807) (h : Wds w b L bad) :
  Calls Tryz.prog 140 #[.pointer (some ⟨b, 0, none⟩)] w (RetNx b L (bad || !yOk (wd L 0)) (.int .u8 (nVal (wd L 0) % 256)) w) := by
 have HX := Lib.hid (wnum_c b L bad w hz h)
 have hbd := nVal_bd (wd L 0)
 have HE := Lib.hid (show ∀ x, decide (255 < nVal (wd L 0)) = x -> (bad || !nOk (wd L 0) || x) = (bad || !yOk (wd L 0)) from fun x hx => by
  subst hx
  unfold yOk
  cases bad with
  | true => rfl
  | false =>
   cases nOk (wd L 0) with
   | false => rfl
   | true =>
    by_cases h : 255 < nVal (wd L 0)
    ·rw [decide_eq_true h, decide_eq_false (show ¬ nVal (wd L 0) <= 255 by omega)]; rfl
    ·rw [decide_eq_false h, decide_eq_true (show nVal (wd L 0) <= 255 by omega)]; rfl)
 clear h hz
 obtain ⟨YO, hYO⟩ : ∃ x, (bad || !yOk (wd L 0)) = x := ⟨_, rfl⟩
 obtain ⟨BB, hBB⟩ : ∃ x, (bad || !nOk (wd L 0)) = x := ⟨_, rfl⟩
 obtain ⟨NV, hNV⟩ : ∃ x, nVal (wd L 0) = x := ⟨_, rfl⟩
 rw [hNV, hYO, hBB] at HE
 rw [hNV, hBB] at HX
 rw [hNV] at hbd
 rw [hNV, hYO]
 clear hNV hYO hBB
 have hcv : ∀ w, (convert 3 5 (.int .i64 NV)).run Tryz.prog w = .ok (.int .u8 (NV % 256)) w := fun w => by
  rfl
 go_enter Tryz.func140, Tryz.ntmps140
 go_wp2_with fail
 refine HX.out.mono ?_
 rintro e w3 ⟨rfl, h2, hg2⟩
 obtain ⟨A, c, hh3, hc, hm, hst⟩ := h2
 have HST := Lib.hid hst
 have HH := Lib.hid hh3
 have HG := Lib.hid hg2
 obtain ⟨g0, g1, g2, g3, g4⟩ := box2 hh3
 obtain ⟨n, hn⟩ : ∃ n, L.tail.length = n := ⟨_, rfl⟩
 have HN := Lib.hid hn
 rw [hn] at g0 hc
 have HC := Lib.hid hc
 clear hh3 hst hg2 hn hc
 have HFin : ∀ x, (BB || x) = YO -> ∀ z, z = (BB || x) -> Wds (w3.setCell ⟨b, 1, none⟩ (.bool z)) b L.tail YO := fun x hx z hz => by
  subst hz
  subst hx
  refine ⟨A, c, ?_, by rw [HN.out]; exact HC.out, hm, Sts.far HST.out HH.out (by decide) _⟩
  have := heap_set HH.out 1 (.bool (BB || x))
  simpa using this
 have HFIN := Lib.hid HFin
 clear HFin
 cases BB with
 | true =>
  have HZ := Lib.hid (HE.out _ rfl)
  go_wp2
  go_ret
  exact ⟨rfl, HFIN.out _ HZ.out _ rfl, grown_tr HG.out (grown_set _ _ _ _)⟩
 | false =>
  by_cases h9 : 255 < NV
  ·have HZ := Lib.hid (HE.out true (decide_eq_true h9))
   go_wp2
   go_ret
   exact ⟨rfl, HFIN.out _ HZ.out _ rfl, grown_tr HG.out (grown_set _ _ _ _)⟩
  ·have HZ := Lib.hid (HE.out false (decide_eq_false h9))
   go_wp2
   go_ret
   exact ⟨rfl, HFIN.out _ HZ.out _ (decide_eq_false (show ¬ 255 < NV by omega)), grown_tr HG.out (grown_set _ _ _ _)⟩
end Go.Proofs.YtbnjejenejoibaaGreatDoor
