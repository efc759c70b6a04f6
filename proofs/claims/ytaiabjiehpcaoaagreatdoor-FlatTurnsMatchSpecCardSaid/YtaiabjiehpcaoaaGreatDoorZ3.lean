/- What is lost between two formats, plain. The walks of what is lost: the width of a shape, texts, days. -/
import Derived.Test.YtaiabjiehpcaoaaGreatDoorM2
import Derived.Test.YtaiabjiehpcaoaaGreatDoorK5
import Derived.Test.YtaiabjiehpcaoaaGreatDoorFE
import Derived.Deep.AppendSrc
-- merged: Z0 Z2 ZP Z3
namespace Go.Proofs.YtaiabjiehpcaoaaGreatDoor
open Limb Nmb Work
set_option linter.unusedVariables false
set_option linter.unusedSimpArgs false
structure Shp where
 neg : Int
 before : Int
 places : Int
 first : Int
 deriving DecidableEq
def wideF (mark : Int) (c : Col) (s : Shp) : Int :=
 if mark = 0 /\ 0 < s.before then s.neg + s.before + c.places
 else if mark = 0 then s.neg + c.places - s.first + 1
 else if 0 < s.places then s.neg + max s.before 1 + 1 + s.places
 else s.neg + s.before
def shInB (mark : Int) (c : Col) (s : Shp) : Bool := decide (s.places <= c.places) && decide (wideF mark c s <= c.width)
def befS (neg p k : Nat) : List Shp := (List.range k).map fun (b : Nat) => ⟨neg, (b : Int) + 1, p, 0⟩
def fstS (neg p k : Nat) : List Shp := (List.range k).map fun (b : Nat) => ⟨neg, 0, p, (b : Int) + 1⟩
def plS (neg k : Nat) : List Shp := (List.range k).flatMap fun p => befS neg p (15 - p) ++ fstS neg p p
def ngS (k : Nat) : List Shp := (List.range k).flatMap fun neg => plS neg 10 ++ [⟨neg, 16, 0, 0⟩]
def shapesL : List Shp := ngS 2
def numLoss (f g : Fmt) (c o : Col) : Bool := shapesL.any fun s => shInB f.mark c s && !shInB g.mark o s
def barF (f : Fmt) : Int := if f.quote ≠ 0 then 0 else f.mark
def txtLoss (f g : Fmt) (c o : Col) : Bool := decide (o.width < c.width) || (decide (barF g ≠ 0) && decide (barF g ≠ barF f) && (decide (barF g ≠ 32) || decide (2 < c.width)))
def dayLoss (c o : Col) : Bool := decide (formW c.form <= c.width) && decide (o.width < formW o.form)
def lossB (f g : Fmt) (c o : Col) : Bool := if c.kind = 2 then numLoss f g c o else if c.kind = 3 then dayLoss c o else txtLoss f g c o
structure Loss where
 tag : ByteArray
 name : ByteArray
 kind : Int
 deriving DecidableEq
def lossesF (f g : Fmt) (tag : ByteArray) (c : Col) (k : RKd) : List Loss :=
 if ixF (nameIs c.name) k.fields < 0 then [⟨tag, c.name, 2⟩]
 else if (cA k.fields (ixF (nameIs c.name) k.fields).toNat).kind ≠ c.kind then [⟨tag, c.name, 3⟩]
 else (if (cA k.fields (ixF (nameIs c.name) k.fields).toNat).need = true /\ c.need = false then [⟨tag, c.name, 4⟩] else []) ++
  (if lossB f g c (cA k.fields (ixF (nameIs c.name) k.fields).toNat) = true then [⟨tag, c.name, 5⟩] else [])
def kindLoss (f g : Fmt) (k : RKd) : List Loss :=
 if katI g k.tag < 0 then [⟨k.tag, ⟨#[]⟩, 1⟩] else k.fields.flatMap fun c => lossesF f g k.tag c (katK g k.tag)
def needLoss1 (f : Fmt) (o : RKd) (c : Col) : List Loss := if 0 <= katI f o.tag /\ c.need = true /\ ixF (nameIs c.name) (katK f o.tag).fields < 0 then [⟨o.tag, c.name, 4⟩] else []
def needLoss (f : Fmt) (o : RKd) : List Loss := o.fields.flatMap (needLoss1 f o)
def fitsL (f g : Fmt) : List Loss := f.kinds.flatMap (kindLoss f g) ++ g.kinds.flatMap (needLoss f)
def fitsE (f g : Fmt) : Int := if checkF f ≠ 0 then checkF f else checkF g
def fitsR (f g : Fmt) : List Loss × Int := if fitsE f g ≠ 0 then ([], fitsE f g) else (fitsL f g, 0)
theorem ix_self {cs : List Col} (h : ∀ j j', j < cs.length -> j' < j -> (cA cs j').name ≠ (cA cs j).name) {j : Nat} (hj : j < cs.length) : ixF (nameIs (cA cs j).name) cs = (j : Int) :=
 ixF_hit hj (by unfold nameIs; rw [cA_get hj]; exact decide_eq_true rfl) (fun j' hj' hl => by unfold nameIs; rw [cA_get hj']; exact decide_eq_false (h j j' hj hl))
end Go.Proofs.YtaiabjiehpcaoaaGreatDoor
namespace Go.Proofs.YtaiabjiehpcaoaaGreatDoor
open Go.RowKit Limb Nmb Work
set_option linter.unusedVariables false
set_option linter.unusedSimpArgs false
def shpG (s : Shp) : Value := .agg #[.int .i64 s.neg, .int .i64 s.before, .int .i64 s.places, .int .i64 s.first]
structure ShpK (s : Shp) : Prop where
 neg : 0 <= s.neg /\ s.neg <= 1
 before : 0 <= s.before /\ s.before <= 16
 places : 0 <= s.places /\ s.places <= 9
 first : 0 <= s.first /\ s.first <= 9
set_option maxHeartbeats 1000000 in
set_option maxRecDepth 100000 in
theorem wide_c (f : Fmt) (A : Option Addr) (n cp : Nat) (c : Col) (s : Shp) (w : World) (hs : ShpK s) (hc : 0 <= c.places /\ c.places <= 9) :
  Calls Tryz.prog 214 #[shpG s, .agg #[.int .u8 f.mark, .int .u8 f.quote, .slice A n cp, .string f.head, .string f.tail, .string f.count, .string f.sum], colG c] w (RetI (wideF f.mark c s) w) := by
 obtain ⟨h1, h2, h3, h4⟩ := hs
 obtain ⟨R, hR⟩ : ∃ x, wideF f.mark c s = x := ⟨_, rfl⟩
 have HR := Lib.hid hR
 rw [hR]
 clear hR
 obtain ⟨m, q, ks, hd, tl, ct, sm⟩ := f
 obtain ⟨nm, kd, wd, pl, fm, rt, fl, nd⟩ := c
 obtain ⟨ng, bf, p, fs⟩ := s
 unfold shpG colG RetI
 simp only at h1 h2 h3 h4 hc ⊢
 by_cases hm : m = 0
 ·by_cases hb : 0 < bf
  ·have HE := Lib.hid (show R = ng + bf + pl by rw [<- HR.out]; unfold wideF; rw [if_pos ⟨hm, hb⟩])
   subst hm
   go_enter Tryz.func214, Tryz.ntmps214
   go_wp2
   go_ret
   exact ⟨by rw [HE.out]; rfl, by go_grown⟩
  ·have HE := Lib.hid (show R = ng + pl - fs + 1 by rw [<- HR.out]; unfold wideF; rw [if_neg (fun h => hb h.2), if_pos hm])
   subst hm
   go_enter Tryz.func214, Tryz.ntmps214
   go_wp2
   go_ret
   exact ⟨by rw [HE.out]; rfl, by go_grown⟩
 ·have hm2 : (m == 0) = false := beq_eq_false_iff_ne.2 hm
  by_cases hp : 0 < p
  ·have HE := Lib.hid (show R = ng + max bf 1 + 1 + p by rw [<- HR.out]; unfold wideF; rw [if_neg (fun h => hm h.1), if_neg hm, if_pos hp])
   clear hm
   go_enter Tryz.func214, Tryz.ntmps214
   go_wp2
   go_ret
   exact ⟨by rw [HE.out]; rfl, by go_grown⟩
  ·have HE := Lib.hid (show R = ng + bf by rw [<- HR.out]; unfold wideF; rw [if_neg (fun h => hm h.1), if_neg hm, if_neg hp])
   clear hm
   go_enter Tryz.func214, Tryz.ntmps214
   go_wp2
   go_ret
   exact ⟨by rw [HE.out]; rfl, by go_grown⟩
set_option maxHeartbeats 2000000 in
set_option maxRecDepth 100000 in
theorem isin_c (f : Fmt) (A : Option Addr) (n cp : Nat) (c : Col) (s : Shp) (w : World) (hs : ShpK s) (hc : 0 <= c.places /\ c.places <= 9) :
  Calls Tryz.prog 168 #[shpG s, .agg #[.int .u8 f.mark, .int .u8 f.quote, .slice A n cp, .string f.head, .string f.tail, .string f.count, .string f.sum], colG c] w (RetB (shInB f.mark c s) w) := by
 have HW := Lib.hid (fun w => wide_c f A n cp c s w hs hc)
 obtain ⟨V, hV⟩ : ∃ x, wideF f.mark c s = x := ⟨_, rfl⟩
 obtain ⟨R, hR⟩ : ∃ x, shInB f.mark c s = x := ⟨_, rfl⟩
 have HR := Lib.hid (show (decide (s.places <= c.places) && decide (V <= c.width)) = R by rw [<- hR, <- hV]; rfl)
 rw [hV] at HW
 rw [hR]
 clear hV hR hs hc
 obtain ⟨m, q, ks, hd, tl, ct, sm⟩ := f
 obtain ⟨nm, kd, wd, pl, fm, rt, fl, nd⟩ := c
 obtain ⟨ng, bf, p, fs⟩ := s
 unfold RetI shpG colG at HW
 unfold shpG colG RetB
 simp only at HW HR ⊢
 have hS := heap_old (heap_old (heap_new w (.cells #[.int .i64 ng, .int .i64 bf, .int .i64 p, .int .i64 fs] 182) rfl) (.cells #[.int .u8 m, .int .u8 q, .slice A n cp, .string hd, .string tl, .string ct, .string sm] 24)) (.cells #[.string nm, .int .i64 kd, .int .i64 wd, .int .i64 pl, .int .i64 fm, .bool rt, .int .u8 fl, .bool nd] 60)
 have hF := heap_old (heap_new (w.alloc (.cells #[.int .i64 ng, .int .i64 bf, .int .i64 p, .int .i64 fs] 182)) (.cells #[.int .u8 m, .int .u8 q, .slice A n cp, .string hd, .string tl, .string ct, .string sm] 24) (g := w.heap.size + 1) (by simp)) (.cells #[.string nm, .int .i64 kd, .int .i64 wd, .int .i64 pl, .int .i64 fm, .bool rt, .int .u8 fl, .bool nd] 60)
 have hC := heap_new ((w.alloc (.cells #[.int .i64 ng, .int .i64 bf, .int .i64 p, .int .i64 fs] 182)).alloc (.cells #[.int .u8 m, .int .u8 q, .slice A n cp, .string hd, .string tl, .string ct, .string sm] 24)) (.cells #[.string nm, .int .i64 kd, .int .i64 wd, .int .i64 pl, .int .i64 fm, .bool rt, .int .u8 fl, .bool nd] 60) (g := w.heap.size + 1 + 1) (by simp)
 have hB : Below w.heap.size w (((w.alloc (.cells #[.int .i64 ng, .int .i64 bf, .int .i64 p, .int .i64 fs] 182)).alloc (.cells #[.int .u8 m, .int .u8 q, .slice A n cp, .string hd, .string tl, .string ct, .string sm] 24)).alloc (.cells #[.string nm, .int .i64 kd, .int .i64 wd, .int .i64 pl, .int .i64 fm, .bool rt, .int .u8 fl, .bool nd] 60)) := by go_grown
 go_enter Tryz.func168, Tryz.ntmps168
 go_upto_region 1 with fail
 generalize ((w.alloc (.cells #[.int .i64 ng, .int .i64 bf, .int .i64 p, .int .i64 fs] 182)).alloc (.cells #[.int .u8 m, .int .u8 q, .slice A n cp, .string hd, .string tl, .string ct, .string sm] 24)).alloc (.cells #[.string nm, .int .i64 kd, .int .i64 wd, .int .i64 pl, .int .i64 fm, .bool rt, .int .u8 fl, .bool nd] 60) = w1 at hS hF hC hB ⊢
 have HSB := Lib.hid (show ∀ wx, Below w1.heap.size w1 wx -> (fun w' : World => w'.cell? ⟨w.heap.size, 0, none⟩ = some (.int .i64 ng) /\ w'.cell? ⟨w.heap.size, 1, none⟩ = some (.int .i64 bf) /\ w'.cell? ⟨w.heap.size, 2, none⟩ = some (.int .i64 p) /\ w'.cell? ⟨w.heap.size, 3, none⟩ = some (.int .i64 fs) /\ w'.cell? ⟨w.heap.size + 1, 0, none⟩ = some (.int .u8 m) /\ w'.cell? ⟨w.heap.size + 1, 1, none⟩ = some (.int .u8 q) /\ w'.cell? ⟨w.heap.size + 1, 2, none⟩ = some (.slice A n cp) /\ w'.cell? ⟨w.heap.size + 1, 3, none⟩ = some (.string hd) /\ w'.cell? ⟨w.heap.size + 1, 4, none⟩ = some (.string tl) /\ w'.cell? ⟨w.heap.size + 1, 5, none⟩ = some (.string ct) /\ w'.cell? ⟨w.heap.size + 1, 6, none⟩ = some (.string sm) /\ w'.cell? ⟨w.heap.size + 1 + 1, 0, none⟩ = some (.string nm) /\ w'.cell? ⟨w.heap.size + 1 + 1, 1, none⟩ = some (.int .i64 kd) /\ w'.cell? ⟨w.heap.size + 1 + 1, 2, none⟩ = some (.int .i64 wd) /\ w'.cell? ⟨w.heap.size + 1 + 1, 3, none⟩ = some (.int .i64 pl) /\ w'.cell? ⟨w.heap.size + 1 + 1, 4, none⟩ = some (.int .i64 fm) /\ w'.cell? ⟨w.heap.size + 1 + 1, 5, none⟩ = some (.bool rt) /\ w'.cell? ⟨w.heap.size + 1 + 1, 6, none⟩ = some (.int .u8 fl) /\ w'.cell? ⟨w.heap.size + 1 + 1, 7, none⟩ = some (.bool nd)) wx from fun wx h => by
  obtain ⟨⟨s0, s1, s2, s3⟩, -, -⟩ := obox4 (heap_below hS h)
  obtain ⟨⟨f0, f1, f2, f3, f4, f5, f6⟩, -⟩ := obox7 (heap_below hF h)
  obtain ⟨⟨x0, x1, x2, x3, x4, x5, x6, x7⟩, -⟩ := obox8 (heap_below hC h)
  exact ⟨s0, s1, s2, s3, f0, f1, f2, f3, f4, f5, f6, x0, x1, x2, x3, x4, x5, x6, x7⟩)
 have HB := Lib.hid hB
 have T1 : Below w1.heap.size w1 w1 := Below.refl _ _
 by_cases hp : p <= pl
 case neg =>
  have hp2 : decide (p <= pl) = false := decide_eq_false hp
  have HE := Lib.hid (show R = false by rw [<- HR.out, hp2]; rfl)
  obtain ⟨⟨s0, s1, s2, s3⟩, -, -⟩ := obox4 hS
  obtain ⟨⟨x0, x1, x2, x3, x4, x5, x6, x7⟩, -⟩ := obox8 hC
  clear hp hS hF hC
  go_quiet (fail)
  go_wp2
  go_ret
  exact ⟨by rw [HE.out]; rfl, below_drewN HB.out _⟩
 have hp2 : decide (p <= pl) = true := decide_eq_true hp
 have HE := Lib.hid (show R = decide (V <= wd) by rw [<- HR.out, hp2]; rfl)
 clear hp hS hF hC hB
 go_region_held3 (fun w' : World => w'.cell? ⟨w.heap.size, 0, none⟩ = some (.int .i64 ng) /\ w'.cell? ⟨w.heap.size, 1, none⟩ = some (.int .i64 bf) /\ w'.cell? ⟨w.heap.size, 2, none⟩ = some (.int .i64 p) /\ w'.cell? ⟨w.heap.size, 3, none⟩ = some (.int .i64 fs) /\ w'.cell? ⟨w.heap.size + 1, 0, none⟩ = some (.int .u8 m) /\ w'.cell? ⟨w.heap.size + 1, 1, none⟩ = some (.int .u8 q) /\ w'.cell? ⟨w.heap.size + 1, 2, none⟩ = some (.slice A n cp) /\ w'.cell? ⟨w.heap.size + 1, 3, none⟩ = some (.string hd) /\ w'.cell? ⟨w.heap.size + 1, 4, none⟩ = some (.string tl) /\ w'.cell? ⟨w.heap.size + 1, 5, none⟩ = some (.string ct) /\ w'.cell? ⟨w.heap.size + 1, 6, none⟩ = some (.string sm) /\ w'.cell? ⟨w.heap.size + 1 + 1, 0, none⟩ = some (.string nm) /\ w'.cell? ⟨w.heap.size + 1 + 1, 1, none⟩ = some (.int .i64 kd) /\ w'.cell? ⟨w.heap.size + 1 + 1, 2, none⟩ = some (.int .i64 wd) /\ w'.cell? ⟨w.heap.size + 1 + 1, 3, none⟩ = some (.int .i64 pl) /\ w'.cell? ⟨w.heap.size + 1 + 1, 4, none⟩ = some (.int .i64 fm) /\ w'.cell? ⟨w.heap.size + 1 + 1, 5, none⟩ = some (.bool rt) /\ w'.cell? ⟨w.heap.size + 1 + 1, 6, none⟩ = some (.int .u8 fl) /\ w'.cell? ⟨w.heap.size + 1 + 1, 7, none⟩ = some (.bool nd))
  (first | (with_reducible exact HSB.out _ T1) | (with_reducible exact HSB.out _ T2) | (refine HSB.out _ ?_; go_grown))
  (first | (go_at_call 214; refine (HW.out _).mono ?_; rintro e w2 ⟨rfl, hb2⟩; (have T2 : Below w1.heap.size w1 w2 := by exact ⟨hb2.os, hb2.tape, hb2.output, hb2.size, hb2.block⟩)))
 go_wp2
 go_ret
 exact ⟨by rw [HE.out]; rfl, below_then T2 HB.out HB.out.size⟩
theorem zk_cells (w : World) (us : List Value) (t : TypeId) : ∀ j x, us[j]? = some x -> (w.alloc (.cells us.toArray t)).cell? ((⟨w.heap.size, 0, none⟩ : Addr).add j) = some x := by
 intro j x hj
 rw [Addr.add_lit, cell_of_row _ _ _ _ _ _ (heap_alloc_new w _)]
 simpa using hj
theorem wpList_zpush {P : Program} {w : World} {ops : Array Oper} {rest : List Oper} {o : Oper} {a : Act} {Q : Exit -> Act -> World -> Prop}
  (hg : o.guard = none) (s x : Operand) (t : TypeId) (hop : o.op = Op.call { callee := Callee.builtin Builtin.append, args := #[s, x], argTypes := #[t, t] })
  (base : Nat) (e : TypeId) (i : TypeInfo) (z : Value) (size bytes : Nat) (h1 : P.underlying t = some (.slice e)) (h2 : P.info? e = some i) (hz : i.zero = some z) (h4 : i.size = size) (hby : i.bytes = bytes) (hzs : z.cells.size = size) (hsz : 0 < size)
  (v : Value) (n : Nat) (xs : List Value) (hs : a.eval s = v) (hown : w.ownsRow base e size v n xs) (us : List Value) (hus : us.length = size) (hx : a.eval x = .slice (some ⟨w.heap.size, 0, none⟩) 1 1)
  (h1c : ∀ u ∈ us, u.oneCell' = true) (b1 : n + 1 <= maxLen) (b2 : (n + 1) * bytes <= 140737488355328) (hbase : base <= w.heap.size)
  (hK : ∀ A c w', w'.ownsRow base e size (.slice A (n + 1) c) (n + 1) (xs ++ us) -> w.grownBy w' v.ownBlock -> wpList P ops Q rest (a.put o.dst (.slice A (n + 1) c)) w') :
  wpList P ops Q (o :: rest) a (w.alloc (.cells us.toArray e)) :=
 wpList_append_own _ hg s x t hop base e i z size bytes h1 h2 hz h4 hby hzs hsz v n xs hs (hown.alloc _) ⟨w.heap.size, 0, none⟩ 1 1 us hx (by omega) (zk_cells w us e) h1c b1 b2 (by simp; omega) fun v' w' r1 r2 _ => by
  obtain ⟨A, c, rfl⟩ := own_slice r1
  exact hK A c w' r1 (grown_alloc r2)
theorem own_rwsZ {w : World} {base : Nat} {e : TypeId} {size n : Nat} {A : Option Addr} {c : Nat} {xs : List Value} {f : Nat -> Nat -> Value} (h : w.ownsRow base e size (.slice A n c) n xs) (hf : ∀ j, j < n -> ∀ i, i < size -> xs[j * size + i]? = some (f j i)) : Rws w A size n f := fun hn => by
 obtain ⟨g, rfl, _, hl, hc⟩ := own_rowF h hn
 refine ⟨g, 0, rfl, hl, fun j hj i hi => ?_⟩
 rw [Nat.zero_add, hc _ (by have := Nat.mul_le_mul_right size (show j + 1 <= n from hj); rw [Nat.add_mul] at this; omega), hf j hj i hi]
theorem run_append_nilZ {P : Program} {w : World} {base : Nat} {t ty e : TypeId} {i : TypeInfo} {size n c c' : Nat} {A : Option Addr} {xs : List Value} (ht : P.underlying t = some (.slice e)) (hi : P.info? e = some i) (hs : i.size = size) (hown : w.ownsRow base e size (.slice A n c) n xs) :
  (Builtin.append_ #[t, t] ty #[.slice A n c, .slice none 0 c']).run P w = .ok (.slice A n c) w := by
 have hc := own_cap hown
 cases A with
 | some a =>
  obtain ⟨-, h | ⟨g, cap, cur, hv, -⟩⟩ := hown
  ·cases h.1
  ·cases hv
   have := run_append_room_src (P := P) w t t ty e i ht hi g 0 n c (.slice none 0 c') 0 [] (Src.ofNil w ht c') (by omega) (fun j hj => by simp at hj) (fun j hj => by simp at hj)
   simpa [World.setCells] using this
 | none =>
  obtain ⟨-, h | ⟨g, cap, cur, hv, -⟩⟩ := hown
  ·obtain ⟨h1, h2⟩ := h
   subst h2
   have hn : 0 + 0 <= c := Nat.zero_le _
   simp [Builtin.append_, run_underlying ht, sizeOf, typeInfo, hi, (Src.ofNil (P := P) w ht c' : Src P i.size t _ 0 [] w).len, (Src.ofNil (P := P) w ht c' : Src P i.size t _ 0 [] w).cells]
  ·cases hv
theorem wpList_zapp {P : Program} {w : World} {ops : Array Oper} {rest : List Oper} {o : Oper} {a : Act} {Q : Exit -> Act -> World -> Prop}
  (hg : o.guard = none) (s x : Operand) (t : TypeId) (hop : o.op = Op.call { callee := Callee.builtin Builtin.append, args := #[s, x], argTypes := #[t, t] })
  (base : Nat) (e : TypeId) (i : TypeInfo) (z : Value) (size bytes : Nat) (h1 : P.underlying t = some (.slice e)) (h2 : P.info? e = some i) (hz : i.zero = some z) (h4 : i.size = size) (hby : i.bytes = bytes) (hzs : z.cells.size = size) (hsz : 0 < size)
  (A : Option Addr) (n c : Nat) (xs : List Value) (hs : a.eval s = .slice A n c) (hown : w.ownsRow base e size (.slice A n c) n xs) (X : Option Addr) (m d : Nat) (news : List Value) (hl : news.length = m * size) (hx : a.eval x = .slice X m d)
  (hsrc : 0 < m -> ∃ b off, X = some ⟨b, off, none⟩ /\ ∀ j u, news[j]? = some u -> w.cell? ⟨b, off + j, none⟩ = some u)
  (h1c : ∀ u ∈ news, u.oneCell' = true) (b1 : n + m <= maxLen) (b2 : (n + m) * bytes <= 140737488355328) (hbase : base <= w.heap.size)
  (hK : ∀ A' c' w', w'.ownsRow base e size (.slice A' (n + m) c') (n + m) (xs ++ news) -> w.grownBy w' (Value.slice A n c).ownBlock -> wpList P ops Q rest (a.put o.dst (.slice A' (n + m) c')) w') :
  wpList P ops Q (o :: rest) a w := by
 cases X with
 | some ad =>
  refine wpList_append_own _ hg s x t hop base e i z size bytes h1 h2 hz h4 hby hzs hsz (.slice A n c) n xs hs hown ad m d news hx hl ?_ h1c b1 b2 hbase fun v' w' r1 r2 _ => ?_
  ·rcases Nat.eq_zero_or_pos m with h0 | h0
   ·subst h0
    have : news = [] := List.eq_nil_of_length_eq_zero (by omega)
    subst this
    intro j u h; simp at h
   ·obtain ⟨b, off, e1, hc⟩ := hsrc h0
    cases e1
    intro j u hj
    rw [Addr.add_lit]
    exact hc j u hj
  ·obtain ⟨A', c', rfl⟩ := own_slice r1
   exact hK A' c' w' r1 r2
 | none =>
  have h0 : m = 0 := by
   rcases Nat.eq_zero_or_pos m with h0 | h0
   ·exact h0
   ·obtain ⟨b, off, e1, -⟩ := hsrc h0
    cases e1
  subst h0
  have hn : news = [] := List.eq_nil_of_length_eq_zero (by omega)
  subst hn
  refine wpList_plain hg fun K hKK => ?_
  have hr := run_append_nilZ (P := P) (w := w) (t := t) (ty := o.type) (c' := d) h1 h2 h4 hown
  unfold Oper.wp execOp
  simp only [hop, resolve, invoke, builtin, Sem.run_bind, Sem.run_pure, Result.andThen_ok, List.map_toArray, List.map_cons, List.map_nil, hs, hx, hr]
  refine hKK _ _ (hK A c w (by simpa using hown) (World.grownBy.refl _ _))
def shpL (s : Shp) : List Value := [.int .i64 s.neg, .int .i64 s.before, .int .i64 s.places, .int .i64 s.first]
def shpC (l : List Shp) : List Value := l.flatMap shpL
theorem shpC_snoc (l : List Shp) (s : Shp) : shpC l ++ shpL s = shpC (l ++ [s]) := by simp [shpC]
theorem shpC_at : ∀ {l : List Shp} {j i : Nat} (hj : j < l.length), i < 4 -> (shpC l)[j * 4 + i]? = (shpL l[j])[i]?
 | s :: l, 0, i, _, hi => by
  unfold shpC
  rw [List.flatMap_cons, List.getElem?_append_left (by simp [shpL]; omega)]
  simp
 | s :: l, j + 1, i, hj, hi => by
  have ih := shpC_at (l := l) (j := j) (i := i) (by simpa using hj) hi
  unfold shpC at *
  rw [List.flatMap_cons, List.getElem?_append_right (by simp [shpL]; omega), show (j + 1) * 4 + i - (shpL s).length = j * 4 + i by simp [shpL]; omega, ih]
  simp
theorem befS_succ (g p k : Nat) : befS g p (k + 1) = befS g p k ++ [⟨g, (k : Int) + 1, p, 0⟩] := by simp [befS, List.range_succ]
theorem fstS_succ (g p k : Nat) : fstS g p (k + 1) = fstS g p k ++ [⟨g, 0, p, (k : Int) + 1⟩] := by simp [fstS, List.range_succ]
theorem plS_succ (g k : Nat) : plS g (k + 1) = plS g k ++ (befS g k (15 - k) ++ fstS g k k) := by simp [plS, List.range_succ]
theorem ngS_succ (k : Nat) : ngS (k + 1) = ngS k ++ (plS k 10 ++ [⟨k, 16, 0, 0⟩]) := by simp [ngS, List.range_succ]
theorem befS_len (g p k : Nat) : (befS g p k).length = k := by simp [befS]
theorem fstS_len (g p k : Nat) : (fstS g p k).length = k := by simp [fstS]
theorem plS_len (g : Nat) : ∀ k, k <= 10 -> (plS g k).length = 15 * k
 | 0, _ => rfl
 | k + 1, h => by rw [plS_succ, List.length_append, plS_len g k (by omega), List.length_append, befS_len, fstS_len]; omega
theorem ngS_len : ∀ k, (ngS k).length = 151 * k
 | 0 => rfl
 | k + 1 => by rw [ngS_succ, List.length_append, ngS_len k, List.length_append, plS_len k 10 (by omega)]; simp; omega
theorem shapes_len : shapesL.length = 302 := ngS_len 2
def ShpO (w0 wr : World) (A : Option Addr) (n c : Nat) (l : List Shp) : Prop := l.length = n /\ wr.ownsRow w0.heap.size 182 4 (.slice A n c) n (shpC l) /\ Below w0.heap.size w0 wr
theorem ShpO.push {w0 wr w' : World} {A A' : Option Addr} {n c c' : Nat} {l l' : List Shp} {s : Shp} (h : ShpO w0 wr A n c l) (ho : w'.ownsRow w0.heap.size 182 4 (.slice A' (n + 1) c') (n + 1) (shpC l ++ shpL s)) (hg : wr.grownBy w' (Value.slice A n c).ownBlock) (hl : l ++ [s] = l') : ShpO w0 w' A' (n + 1) c' l' := by
 subst hl
 refine ⟨by rw [List.length_append, h.1]; rfl, by rw [<- shpC_snoc]; exact ho, h.2.2.grown hg h.2.2.size (fun j hj => (h.2.1.lt j hj).1)⟩
theorem Tryz.infoShp : (Tryz.prog.info? 182).map (fun i => (i.zero, i.size, i.bytes)) = some (some (.agg #[.int .i64 0, .int .i64 0, .int .i64 0, .int .i64 0]), 4, 32) := by kernel_rfl
def shp0 : Shp := ⟨0, 0, 0, 0⟩
def sA (l : List Shp) (j : Nat) : Shp := l.getD j shp0
theorem sA_get {l : List Shp} {j : Nat} (h : j < l.length) : l[j] = sA l j := by simp [sA, List.getD_eq_getElem?_getD, h]
def shpV (l : List Shp) (j i : Nat) : Value :=
 match i with
 | 0 => .int .i64 (sA l j).neg
 | 1 => .int .i64 (sA l j).before
 | 2 => .int .i64 (sA l j).places
 | _ => .int .i64 (sA l j).first
def Shps (w : World) (A : Option Addr) (l : List Shp) : Prop := Rws w A 4 l.length (shpV l)
theorem Shps.below {w w' : World} {A : Option Addr} {l : List Shp} (h : Shps w A l) (hb : Below w.heap.size w w') : Shps w' A l := Rws.below h hb
theorem ShpO.shps {w0 wr : World} {A : Option Addr} {n c : Nat} {l : List Shp} (h : ShpO w0 wr A n c l) : Shps wr A l := by
 obtain ⟨rfl, h2, -⟩ := h
 refine own_rwsZ h2 fun j hj i hi => ?_
 rw [shpC_at hj hi, sA_get hj]
 match i, hi with
 | 0, _ => rfl
 | 1, _ => rfl
 | 2, _ => rfl
 | 3, _ => rfl
def RetShps (w : World) (e : Ending) (w' : World) : Prop := ∃ A c, e = .returned (.slice A 302 c) /\ Shps w' A shapesL /\ Below w.heap.size w w'
theorem shapes_ok : ∀ s ∈ shapesL, ShpK s := by
 have h : (shapesL.all fun s => decide (0 <= s.neg) && decide (s.neg <= 1) && decide (0 <= s.before) && decide (s.before <= 16) && decide (0 <= s.places) && decide (s.places <= 9) && decide (0 <= s.first) && decide (s.first <= 9)) = true := by kernel_rfl
 intro s hs
 have h2 := List.all_eq_true.1 h s hs
 simp only [Bool.and_eq_true, decide_eq_true_eq] at h2
 obtain ⟨⟨⟨⟨⟨⟨⟨h1, h2⟩, h3⟩, h4⟩, h5⟩, h6⟩, h7⟩, h8⟩ := h2
 exact ⟨⟨h1, h2⟩, ⟨h3, h4⟩, ⟨h5, h6⟩, ⟨h7, h8⟩⟩
set_option maxHeartbeats 4000000 in
set_option maxRecDepth 100000 in
theorem shapes_c (w : World) : Calls Tryz.prog 166 #[] w (RetShps w) := by
 obtain ⟨i0, hi, hz0, hz1, hz2⟩ := info_parts Tryz.infoShp
 go_enter Tryz.func166, Tryz.ntmps166
 go_wp2
 go_loopw [6, 1] (fun i o wr => ∃ (k : Nat) (A : Option Addr) (n c : Nat), k <= 2 /\ i = .int .i64 k /\ o = .slice A n c /\ n <= 151 * k /\ Hid (ShpO w wr A n c (ngS k))) (fun i o _ => 2 - (intOf i).toNat)
 case atStart => exact ⟨0, none, 0, 0, by omega, rfl, rfl, by omega, Lib.hid ⟨rfl, World.ownsRow_nil _ _ _ _, Below.refl _ _⟩⟩
 case round =>
  obtain ⟨k, A, n, c, hk, rfl, rfl, hn, HO⟩ := hrel
  rcases Nat.lt_or_ge k 2 with hlt | hge
  ·have tk : decide ((k : Int) < 2) = true := decide_eq_true (by omega)
   go_wp2_with fail
   go_loopw [9, 1] (fun i o wr => ∃ (p : Nat) (A : Option Addr) (n c : Nat), p <= 10 /\ i = .int .i64 p /\ o = .slice A n c /\ n <= 151 * k + 15 * p /\ Hid (ShpO w wr A n c (ngS k ++ plS k p))) (fun i o _ => 10 - (intOf i).toNat)
   case atStart => exact ⟨0, A, n, c, by omega, rfl, rfl, by omega, Lib.hid (by rw [show ngS k ++ plS k 0 = ngS k by simp [plS]]; exact HO.out)⟩
   case round =>
    clear HO hn
    obtain ⟨p, A, n, c, hp, rfl, rfl, hn, HO⟩ := hrel
    rcases Nat.lt_or_ge p 10 with hlp | hgp
    ·have tp : decide ((p : Int) < 10) = true := decide_eq_true (by omega)
     go_wp2_with fail
     go_loopw [4, 1] (fun i o wr => ∃ (b : Nat) (A : Option Addr) (n c : Nat), b + p <= 15 /\ i = .int .i64 ((b : Int) + 1) /\ o = .slice A n c /\ n <= 151 * k + 15 * p + b /\ Hid (ShpO w wr A n c (ngS k ++ plS k p ++ befS k p b))) (fun i o _ => 16 - (intOf i).toNat)
     case atStart => exact ⟨0, A, n, c, by omega, rfl, rfl, by omega, Lib.hid (by rw [show befS k p 0 = [] from rfl, List.append_nil]; exact HO.out)⟩
     case round =>
      clear HO hn
      obtain ⟨b, A, n, c, hb, rfl, rfl, hn, HO⟩ := hrel
      rcases Nat.lt_or_ge (b + p) 15 with hlb | hgb
      ·have hzr := HO.out.2.2.size
       go_wp2_with (at_builtin; refine wpList_zpush rfl _ _ 180 rfl w.heap.size 182 i0 (.agg #[.int .i64 0, .int .i64 0, .int .i64 0, .int .i64 0]) 4 32 Tryz.underlying180 hi hz0 hz1 hz2 rfl (by decide) (.slice A n c) n (shpC (ngS k ++ plS k p ++ befS k p b)) rfl HO.out.2.1 [.int .i64 (k : Int), .int .i64 ((b : Int) + 1), .int .i64 (p : Int), .int .i64 0] rfl rfl (by intro u hu; simp at hu; rcases hu with rfl | rfl | rfl | rfl <;> rfl) (by unfold maxLen; omega) (by omega) HO.out.2.2.size ?_; intro A7 c7 w7 hown7 hg7)
       have HO7 := Lib.hid (show ShpO w w7 A7 (n + 1) c7 (ngS k ++ plS k p ++ befS k p (b + 1)) from HO.out.push (s := ⟨k, (b : Int) + 1, p, 0⟩) hown7 hg7 (by rw [befS_succ, List.append_assoc]))
       go_roundw
       case rel => first | exact ⟨b + 1, A7, n + 1, c7, by omega, by go_num, rfl, by omega, HO7⟩ | ((repeat apply Exists.intro); exact ⟨⟨b + 1, A7, n + 1, c7, by omega, by go_num, rfl, by omega, HO7⟩, rfl⟩)
       case measure => simp [intOf]; omega
      ·obtain rfl : b = 15 - p := by omega
       have tb : decide (((15 - p : Nat) : Int) + 1 + (p : Int) <= 15) = false := decide_eq_false (by omega)
       go_wp2_with fail
       go_loopw [5, 1] (fun i o wr => ∃ (b : Nat) (A : Option Addr) (n c : Nat), b <= p /\ i = .int .i64 ((b : Int) + 1) /\ o = .slice A n c /\ n <= 151 * k + 15 * p + (15 - p) + b /\ Hid (ShpO w wr A n c (ngS k ++ plS k p ++ befS k p (15 - p) ++ fstS k p b))) (fun i o _ => 16 - (intOf i).toNat)
       case atStart => exact ⟨0, A, n, c, by omega, rfl, rfl, by omega, Lib.hid (by rw [show fstS k p 0 = [] from rfl, List.append_nil]; exact HO.out)⟩
       case round =>
        clear HO hn hgb hb
        obtain ⟨b, A, n, c, hb, rfl, rfl, hn, HO⟩ := hrel
        rcases Nat.lt_or_ge b p with hlb | hgb
        ·have hzr := HO.out.2.2.size
         go_wp2_with (at_builtin; refine wpList_zpush rfl _ _ 180 rfl w.heap.size 182 i0 (.agg #[.int .i64 0, .int .i64 0, .int .i64 0, .int .i64 0]) 4 32 Tryz.underlying180 hi hz0 hz1 hz2 rfl (by decide) (.slice A n c) n (shpC (ngS k ++ plS k p ++ befS k p (15 - p) ++ fstS k p b)) rfl HO.out.2.1 [.int .i64 (k : Int), .int .i64 0, .int .i64 (p : Int), .int .i64 ((b : Int) + 1)] rfl rfl (by intro u hu; simp at hu; rcases hu with rfl | rfl | rfl | rfl <;> rfl) (by unfold maxLen; omega) (by omega) HO.out.2.2.size ?_; intro A7 c7 w7 hown7 hg7)
         have HO7 := Lib.hid (show ShpO w w7 A7 (n + 1) c7 (ngS k ++ plS k p ++ befS k p (15 - p) ++ fstS k p (b + 1)) from HO.out.push (s := ⟨k, 0, p, (b : Int) + 1⟩) hown7 hg7 (by rw [fstS_succ, List.append_assoc]))
         go_roundw
         case rel => first | exact ⟨b + 1, A7, n + 1, c7, by omega, by go_num, rfl, by omega, HO7⟩ | ((repeat apply Exists.intro); exact ⟨⟨b + 1, A7, n + 1, c7, by omega, by go_num, rfl, by omega, HO7⟩, rfl⟩)
         case measure => simp [intOf]; omega
        ·obtain rfl : b = p := by omega
         go_wp2
         go_roundw
         case rel => exact ⟨b + 1, A, n, c, by omega, by go_num, rfl, by omega, Lib.hid (by rw [plS_succ, <- List.append_assoc, <- List.append_assoc]; exact HO.out)⟩
         case measure => simp [intOf]; omega
    ·obtain rfl : p = 10 := by omega
     have hzr := HO.out.2.2.size
     go_wp2_with (at_builtin; refine wpList_zpush rfl _ _ 180 rfl w.heap.size 182 i0 (.agg #[.int .i64 0, .int .i64 0, .int .i64 0, .int .i64 0]) 4 32 Tryz.underlying180 hi hz0 hz1 hz2 rfl (by decide) (.slice A n c) n (shpC (ngS k ++ plS k 10)) rfl HO.out.2.1 [.int .i64 (k : Int), .int .i64 16, .int .i64 0, .int .i64 0] rfl rfl (by intro u hu; simp at hu; rcases hu with rfl | rfl | rfl | rfl <;> rfl) (by unfold maxLen; omega) (by omega) HO.out.2.2.size ?_; intro A7 c7 w7 hown7 hg7)
     have HO7 := Lib.hid (show ShpO w w7 A7 (n + 1) c7 (ngS (k + 1)) from HO.out.push (s := ⟨k, 16, 0, 0⟩) hown7 hg7 (by rw [ngS_succ, List.append_assoc]))
     go_roundw
     case rel => exact ⟨k + 1, A7, n + 1, c7, by omega, by go_num, rfl, by omega, HO7⟩
     case measure => simp [intOf]; omega
  ·obtain rfl : k = 2 := by omega
   have hl := HO.out.1
   rw [ngS_len] at hl
   subst hl
   go_wp2
   go_ret
   exact ⟨A, c, rfl, HO.out.shps, HO.out.2.2⟩
end Go.Proofs.YtaiabjiehpcaoaaGreatDoor
