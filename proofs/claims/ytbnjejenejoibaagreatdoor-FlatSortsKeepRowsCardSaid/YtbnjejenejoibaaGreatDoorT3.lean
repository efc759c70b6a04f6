/- The walks of kindAt and columnAt, and of the tests that hold a closure. The walk of whole.Int.Text at a number that is not below 0. -/
import Derived.Test.YtbnjejenejoibaaGreatDoorUN
import Derived.Deep.QuietTactic
import Derived.BigQuiet
import Derived.Lib.ItoaNum
import Derived.Deep.LoopGhost
-- merged: F2 T3
namespace Go.Proofs.YtbnjejenejoibaaGreatDoor
open Go.RowKit Limb Nmb
set_option linter.unusedVariables false
set_option linter.unusedSimpArgs false
theorem bytes_dec (a b : ByteArray) : (a.toList == b.toList) = decide (a = b) := by
 by_cases h : a = b
 ·subst h; simp
 ·rw [decide_eq_false h]; exact (Lib.bytes_beq_false_iff _ _).2 h
theorem obox {w : World} {g : Nat} {cs : Array Value} {T : TypeId} (h : w.heap[g]? = some (.cells cs T (0, 0))) :
  (∀ i v, cs[i]? = some v -> w.cell? ⟨g, i, none⟩ = some v) /\ (∀ i, i < cs.size -> w.frozen? ⟨g, i, none⟩ = false) /\ g < w.heap.size := by
 refine ⟨fun i v hi => ?_, fun i hi => by simp [World.frozen?, h], lt_heap h⟩
 rw [cell_of_row w g i cs T _ h]
 exact hi
theorem obox4 {w : World} {g : Nat} {a b c d : Value} {T : TypeId} (h : w.heap[g]? = some (.cells #[a, b, c, d] T (0, 0))) :
  (w.cell? ⟨g, 0, none⟩ = some a /\ w.cell? ⟨g, 1, none⟩ = some b /\ w.cell? ⟨g, 2, none⟩ = some c /\ w.cell? ⟨g, 3, none⟩ = some d) /\ (w.frozen? ⟨g, 0, none⟩ = false /\ w.frozen? ⟨g, 1, none⟩ = false /\ w.frozen? ⟨g, 2, none⟩ = false /\ w.frozen? ⟨g, 3, none⟩ = false) /\ g < w.heap.size := by
 obtain ⟨h1, h2, h3⟩ := obox h
 exact ⟨⟨h1 0 _ rfl, h1 1 _ rfl, h1 2 _ rfl, h1 3 _ rfl⟩, ⟨h2 0 (by simp), h2 1 (by simp), h2 2 (by simp), h2 3 (by simp)⟩, h3⟩
theorem obox7 {w : World} {g : Nat} {a b c d e f i : Value} {T : TypeId} (h : w.heap[g]? = some (.cells #[a, b, c, d, e, f, i] T (0, 0))) :
  (w.cell? ⟨g, 0, none⟩ = some a /\ w.cell? ⟨g, 1, none⟩ = some b /\ w.cell? ⟨g, 2, none⟩ = some c /\ w.cell? ⟨g, 3, none⟩ = some d /\ w.cell? ⟨g, 4, none⟩ = some e /\ w.cell? ⟨g, 5, none⟩ = some f /\ w.cell? ⟨g, 6, none⟩ = some i) /\ g < w.heap.size := by
 obtain ⟨h1, h2, h3⟩ := obox h
 exact ⟨⟨h1 0 _ rfl, h1 1 _ rfl, h1 2 _ rfl, h1 3 _ rfl, h1 4 _ rfl, h1 5 _ rfl, h1 6 _ rfl⟩, h3⟩
theorem obox8 {w : World} {g : Nat} {a b c d e f i j : Value} {T : TypeId} (h : w.heap[g]? = some (.cells #[a, b, c, d, e, f, i, j] T (0, 0))) :
  (w.cell? ⟨g, 0, none⟩ = some a /\ w.cell? ⟨g, 1, none⟩ = some b /\ w.cell? ⟨g, 2, none⟩ = some c /\ w.cell? ⟨g, 3, none⟩ = some d /\ w.cell? ⟨g, 4, none⟩ = some e /\ w.cell? ⟨g, 5, none⟩ = some f /\ w.cell? ⟨g, 6, none⟩ = some i /\ w.cell? ⟨g, 7, none⟩ = some j) /\ g < w.heap.size := by
 obtain ⟨h1, h2, h3⟩ := obox h
 exact ⟨⟨h1 0 _ rfl, h1 1 _ rfl, h1 2 _ rfl, h1 3 _ rfl, h1 4 _ rfl, h1 5 _ rfl, h1 6 _ rfl, h1 7 _ rfl⟩, h3⟩
def fmtG (f : Fmt) (A : Option Addr) (c : Nat) : Value := .agg #[.int .u8 f.mark, .int .u8 f.quote, .slice A f.kinds.length c, .string f.head, .string f.tail, .string f.count, .string f.sum]
theorem kat1_c (k : RKd) (A : Option Addr) (C b : Nat) (t : ByteArray) (w : World) (hc : w.cell? ⟨b, 0, none⟩ = some (.string t)) :
  Calls Tryz.prog 50 #[kindG k A C, .pointer (some ⟨b, 0, none⟩)] w fun e w' => e = .returned (.bool (tagIs t k)) /\ Below w.heap.size w w' := by
 have hc' : ∀ o, (w.alloc o).cell? ⟨b, 0, none⟩ = some (.string t) := fun o => (World.cell?_alloc_some w _ o (by rw [hc]; rfl)).trans hc
 have hb := bytes_dec k.tag t
 unfold tagIs kindG
 cases hd : decide (k.tag = t) with
 | true =>
  rw [hd] at hb
  clear hc hd
  go_enter Tryz.func50, Tryz.ntmps50
  go_wp2
  go_ret
  exact ⟨rfl, by go_grown⟩
 | false =>
  rw [hd] at hb
  clear hc hd
  go_enter Tryz.func50, Tryz.ntmps50
  go_wp2
  go_ret
  exact ⟨rfl, by go_grown⟩
theorem cat1_c (k : Col) (b : Nat) (t : ByteArray) (w : World) (hc : w.cell? ⟨b, 0, none⟩ = some (.string t)) :
  Calls Tryz.prog 52 #[colG k, .pointer (some ⟨b, 0, none⟩)] w fun e w' => e = .returned (.bool (nameIs t k)) /\ Below w.heap.size w w' := by
 have hc' : ∀ o, (w.alloc o).cell? ⟨b, 0, none⟩ = some (.string t) := fun o => (World.cell?_alloc_some w _ o (by rw [hc]; rfl)).trans hc
 have hb := bytes_dec k.name t
 unfold nameIs colG
 cases hd : decide (k.name = t) with
 | true =>
  rw [hd] at hb
  clear hc hd
  go_enter Tryz.func52, Tryz.ntmps52
  go_wp2
  go_ret
  exact ⟨rfl, by go_grown⟩
 | false =>
  rw [hd] at hb
  clear hc hd
  go_enter Tryz.func52, Tryz.ntmps52
  go_wp2
  go_ret
  exact ⟨rfl, by go_grown⟩
theorem kf1_c (k x : RKd) (A XA : Option Addr) (C XC b : Nat) (w : World) (hc : w.heap[b]? = some (.cells #[.string x.tag, .slice XA x.fields.length XC, .int .i64 x.most, .string x.under] 46 (0, 0))) :
  Calls Tryz.prog 101 #[kindG k A C, .pointer (some ⟨b, 0, none⟩)] w fun e w' => e = .returned (.bool (tagIs x.tag k)) /\ Below w.heap.size w w' := by
 have hb := bytes_dec k.tag x.tag
 unfold tagIs kindG
 obtain ⟨⟨g0, -, -, -⟩, -, -⟩ := obox4 (heap_old hc (.cells #[.string k.tag, .slice A k.fields.length C, .int .i64 k.most, .string k.under] 46))
 cases hd : decide (k.tag = x.tag) with
 | true =>
  rw [hd] at hb
  clear hc hd
  go_enter Tryz.func101, Tryz.ntmps101
  go_wp2
  go_ret
  exact ⟨rfl, by go_grown⟩
 | false =>
  rw [hd] at hb
  clear hc hd
  go_enter Tryz.func101, Tryz.ntmps101
  go_wp2
  go_ret
  exact ⟨rfl, by go_grown⟩
theorem kf2_c (k x : RKd) (A XA : Option Addr) (C XC b : Nat) (w : World) (hc : w.heap[b]? = some (.cells #[.string x.tag, .slice XA x.fields.length XC, .int .i64 x.most, .string x.under] 46 (0, 0))) :
  Calls Tryz.prog 105 #[kindG k A C, .pointer (some ⟨b, 0, none⟩)] w fun e w' => e = .returned (.bool (tagIs x.under k)) /\ Below w.heap.size w w' := by
 have hb := bytes_dec k.tag x.under
 unfold tagIs kindG
 obtain ⟨⟨-, -, -, g0⟩, -, -⟩ := obox4 (heap_old hc (.cells #[.string k.tag, .slice A k.fields.length C, .int .i64 k.most, .string k.under] 46))
 cases hd : decide (k.tag = x.under) with
 | true =>
  rw [hd] at hb
  clear hc hd
  go_enter Tryz.func105, Tryz.ntmps105
  go_wp2
  go_ret
  exact ⟨rfl, by go_grown⟩
 | false =>
  rw [hd] at hb
  clear hc hd
  go_enter Tryz.func105, Tryz.ntmps105
  go_wp2
  go_ret
  exact ⟨rfl, by go_grown⟩
theorem cf1_c (k x : Col) (b : Nat) (w : World) (hc : w.cell? ⟨b, 0, none⟩ = some (.string x.name)) :
  Calls Tryz.prog 144 #[colG k, .pointer (some ⟨b, 0, none⟩)] w fun e w' => e = .returned (.bool (nameIs x.name k)) /\ Below w.heap.size w w' := by
 have hc' : ∀ o, (w.alloc o).cell? ⟨b, 0, none⟩ = some (.string x.name) := fun o => (World.cell?_alloc_some w _ o (by rw [hc]; rfl)).trans hc
 have hb := bytes_dec k.name x.name
 unfold nameIs colG
 cases hd : decide (k.name = x.name) with
 | true =>
  rw [hd] at hb
  clear hc hd
  go_enter Tryz.func144, Tryz.ntmps144
  go_wp2
  go_ret
  exact ⟨rfl, by go_grown⟩
 | false =>
  rw [hd] at hb
  clear hc hd
  go_enter Tryz.func144, Tryz.ntmps144
  go_wp2
  go_ret
  exact ⟨rfl, by go_grown⟩
set_option maxRecDepth 100000 in
theorem anyk_of (V W : Value) (b : Bool) (i : Int) (w0 w : World) (hi : decide (0 <= i) = b) (hb : Below w0.heap.size w0 w)
  (h : Calls Tryz.prog 49 #[V, W] w fun e w' => e = .returned (.int .i64 i) /\ Below w.heap.size w w') :
  Calls Tryz.prog 28 #[V, W] w fun e w' => e = .returned (.bool b) /\ Below w.heap.size w w' := by
 have HI := Lib.hid hi
 clear hi
 go_enter Tryz.func28, Tryz.ntmps28
 go_wp2_with fail
 refine h.mono ?_
 rintro e w2 ⟨rfl, hb2⟩
 go_wp2
 go_ret
 exact ⟨congrArg (fun b => Ending.returned (Value.bool b)) HI.out, hb2⟩
set_option maxRecDepth 100000 in
theorem anyc_of (V W : Value) (b : Bool) (i : Int) (w0 w : World) (hi : decide (0 <= i) = b) (hb : Below w0.heap.size w0 w)
  (h : Calls Tryz.prog 51 #[V, W] w fun e w' => e = .returned (.int .i64 i) /\ Below w.heap.size w w') :
  Calls Tryz.prog 143 #[V, W] w fun e w' => e = .returned (.bool b) /\ Below w.heap.size w w' := by
 have HI := Lib.hid hi
 clear hi
 go_enter Tryz.func143, Tryz.ntmps143
 go_wp2_with fail
 refine h.mono ?_
 rintro e w2 ⟨rfl, hb2⟩
 go_wp2
 go_ret
 exact ⟨congrArg (fun b => Ending.returned (Value.bool b)) HI.out, hb2⟩
set_option maxHeartbeats 1000000 in
set_option maxRecDepth 100000 in
theorem colat_c (k : RKd) (A : Option Addr) (C : Nat) (t : ByteArray) (w : World) (ho : Cols w A k.fields) :
  Calls Tryz.prog 17 #[kindG k A C, .string t] w fun e w' => e = .returned (.int .i64 (ixF (nameIs t) k.fields)) /\ Below w.heap.size w w' := by
 have HO := Lib.hid ho
 clear ho
 unfold kindG
 go_enter Tryz.func17, Tryz.ntmps17
 go_wp2_with fail
 have hY := heap_new (w.alloc (.cells #[.string k.tag, .slice A k.fields.length C, .int .i64 k.most, .string k.under] 46)) (.cells #[.string t] 9) (g := w.heap.size + 1) (by simp)
 have hb0 : Below w.heap.size w ((w.alloc (.cells #[.string k.tag, .slice A k.fields.length C, .int .i64 k.most, .string k.under] 46)).alloc (.cells #[.string t] 9)) := by go_grown
 generalize (w.alloc (.cells #[.string k.tag, .slice A k.fields.length C, .int .i64 k.most, .string k.under] 46)).alloc (.cells #[.string t] 9) = w1 at hY hb0 ⊢
 refine (ixc_c 52 (.pointer (some ⟨w.heap.size + 1, 0, none⟩)) (nameIs t) A C k.fields w1 (HO.out.below hb0) (fun _ _ => by kernel_rfl) (fun j hj wr hb => cat1_c _ _ t wr (cell_of_row _ _ 0 _ _ _ (heap_below hY hb)))).mono ?_
 rintro e w2 ⟨rfl, hb2⟩
 have hB2 := below_then hb2 hb0 hb0.size
 go_wp2
 go_ret
 exact ⟨rfl, hB2⟩
def katI (f : Fmt) (t : ByteArray) : Int := ixF (tagIs t) f.kinds
def katK (f : Fmt) (t : ByteArray) : RKd := if katI f t < 0 then kind0 else kA f.kinds (katI f t).toNat
def katA (f : Fmt) (FA : Nat -> Option Addr) (t : ByteArray) : Option Addr := if katI f t < 0 then none else FA (katI f t).toNat
def katC (f : Fmt) (FC : Nat -> Nat) (t : ByteArray) : Nat := if katI f t < 0 then 0 else FC (katI f t).toNat
theorem kat_cases (f : Fmt) (FA : Nat -> Option Addr) (FC : Nat -> Nat) (t : ByteArray) : (katI f t = -1 /\ katK f t = kind0 /\ katA f FA t = none /\ katC f FC t = 0) ∨
  ∃ k, k < f.kinds.length /\ katI f t = (k : Int) /\ katK f t = kA f.kinds k /\ katA f FA t = FA k /\ katC f FC t = FC k := by
 unfold katK katA katC
 rcases ixF_spec (tagIs t) f.kinds with ⟨h, -⟩ | ⟨k, hk, h, -, -⟩
 ·have : katI f t = -1 := h
  rw [this]
  exact .inl ⟨rfl, rfl, rfl, rfl⟩
 ·have : katI f t = (k : Int) := h
  rw [this, if_neg (by omega), if_neg (by omega), if_neg (by omega)]
  exact .inr ⟨k, hk, rfl, rfl, rfl, rfl⟩
set_option maxHeartbeats 1000000 in
set_option maxRecDepth 100000 in
theorem kindat_c (f : Fmt) (A : Option Addr) (c : Nat) (FA : Nat -> Option Addr) (FC : Nat -> Nat) (t : ByteArray) (w : World) (ho : Kinds w A f.kinds FA FC) :
  Calls Tryz.prog 16 #[fmtG f A c, .string t] w fun e w' => e = .returned (.tuple #[kindG (katK f t) (katA f FA t) (katC f FC t), .bool (decide (0 <= katI f t))]) /\ Below w.heap.size w w' := by
 have HO := Lib.hid ho
 have hn := ho.1.2
 have HK := Lib.hid (kat_cases f FA FC t)
 unfold fmtG
 clear ho
 go_enter Tryz.func16, Tryz.ntmps16
 go_wp2_with fail
 have hF := heap_old (heap_old (heap_new w (.cells #[.int .u8 f.mark, .int .u8 f.quote, .slice A f.kinds.length c, .string f.head, .string f.tail, .string f.count, .string f.sum] 24) rfl) (.cells #[.string t] 9)) (.cells #[.string ⟨#[]⟩, .slice none 0 0, .int .i64 0, .string ⟨#[]⟩] 46)
 have hY := heap_old (heap_new (w.alloc (.cells #[.int .u8 f.mark, .int .u8 f.quote, .slice A f.kinds.length c, .string f.head, .string f.tail, .string f.count, .string f.sum] 24)) (.cells #[.string t] 9) (g := w.heap.size + 1) (by simp)) (.cells #[.string ⟨#[]⟩, .slice none 0 0, .int .i64 0, .string ⟨#[]⟩] 46)
 have hZ := heap_new ((w.alloc (.cells #[.int .u8 f.mark, .int .u8 f.quote, .slice A f.kinds.length c, .string f.head, .string f.tail, .string f.count, .string f.sum] 24)).alloc (.cells #[.string t] 9)) (.cells #[.string ⟨#[]⟩, .slice none 0 0, .int .i64 0, .string ⟨#[]⟩] 46) (g := w.heap.size + 1 + 1) (by simp)
 have hb0 : Below w.heap.size w (((w.alloc (.cells #[.int .u8 f.mark, .int .u8 f.quote, .slice A f.kinds.length c, .string f.head, .string f.tail, .string f.count, .string f.sum] 24)).alloc (.cells #[.string t] 9)).alloc (.cells #[.string ⟨#[]⟩, .slice none 0 0, .int .i64 0, .string ⟨#[]⟩] 46)) := by go_grown
 generalize ((w.alloc (.cells #[.int .u8 f.mark, .int .u8 f.quote, .slice A f.kinds.length c, .string f.head, .string f.tail, .string f.count, .string f.sum] 24)).alloc (.cells #[.string t] 9)).alloc (.cells #[.string ⟨#[]⟩, .slice none 0 0, .int .i64 0, .string ⟨#[]⟩] 46) = w1 at hF hY hZ hb0 ⊢
 have hix := ixk_c 50 (.pointer (some ⟨w.heap.size + 1, 0, none⟩)) (tagIs t) A c f.kinds.length f.kinds FA FC w1 (Nat.le_refl _) (HO.out.below hb0) (fun _ _ => by kernel_rfl) (fun j hj wr hb => kat1_c _ _ _ _ t wr (cell_of_row _ _ 0 _ _ _ (heap_below hY hb)))
 rw [List.take_length] at hix
 have HIX := Lib.hid hix
 obtain ⟨n, hnn⟩ : ∃ n, f.kinds.length = n := ⟨_, rfl⟩
 have HN := Lib.hid hnn
 rw [hnn] at HIX hF hn ⊢
 clear hix hY hnn
 refine HIX.out.mono ?_
 rintro e w2 ⟨rfl, hb2⟩
 have hF2 := heap_below hF hb2
 have hZ2 := heap_below hZ hb2
 have hB2 := below_then hb2 hb0 hb0.size
 obtain ⟨⟨f0, f1, f2, f3, f4, f5, f6⟩, f7⟩ := obox7 hF2
 obtain ⟨⟨z0, z1, z2, z3⟩, ⟨y0, y1, y2, y3⟩, z4⟩ := obox4 hZ2
 have hn1 : w.heap.size + 1 + 1 < w2.heap.size := z4
 have HZ2 := Lib.hid hZ2
 clear hF hZ hF2 hZ2 hb2 HIX
 rcases HK.out with ⟨h1, h2, h3, h4⟩ | ⟨k, hk, h1, h2, h3, h4⟩
 ·have H1 := Lib.hid h1; have H2 := Lib.hid h2; have H3 := Lib.hid h3; have H4 := Lib.hid h4
  have hi : ixF (tagIs t) f.kinds = -1 := h1
  rw [hi]
  clear h1 h2 h3 h4 hi
  go_wp2
  refine bodyPost_ret (v := .tuple #[.agg #[.string ⟨#[]⟩, .slice none 0 0, .int .i64 0, .string ⟨#[]⟩], .bool false]) (by simp [results, Tryz.results16, go_sem, z0, z1, z2, z3]) rfl ⟨by rw [H1.out, H2.out, H3.out, H4.out]; rfl, ?_⟩
  go_grown
 ·have hkn : k < n := by rw [<- HN.out]; exact hk
  obtain ⟨b, off, rfl, hbw, hc⟩ := (HO.out.below hB2).2.1.get hk
  have c0 : w2.cell? ⟨b, off + k * 4, none⟩ = some (.string (kA f.kinds k).tag) := hc 0 (by decide)
  have c1 : w2.cell? ⟨b, off + k * 4 + 1, none⟩ = some (.slice (FA k) (kA f.kinds k).fields.length (FC k)) := hc 1 (by decide)
  have c2 : w2.cell? ⟨b, off + k * 4 + 2, none⟩ = some (.int .i64 (kA f.kinds k).most) := hc 2 (by decide)
  have c3 : w2.cell? ⟨b, off + k * 4 + 3, none⟩ = some (.string (kA f.kinds k).under) := hc 3 (by decide)
  have H1 := Lib.hid h1; have H2 := Lib.hid h2; have H3 := Lib.hid h3; have H4 := Lib.hid h4
  have hi : ixF (tagIs t) f.kinds = (k : Int) := h1
  rw [hi]
  have hk0 : ¬ (k : Int) < 0 := by omega
  obtain ⟨x, hx⟩ : ∃ x, kA f.kinds k = x := ⟨_, rfl⟩
  have HX := Lib.hid hx
  rw [hx] at c0 c1 c2 c3
  clear h1 h2 h3 h4 hi hc hk hx
  go_wp2
  have hz : ((((w2.setCell ⟨w.heap.size + 1 + 1, 0, none⟩ (.string x.tag)).setCell ⟨w.heap.size + 1 + 1, 1, none⟩ (.slice (FA k) x.fields.length (FC k))).setCell ⟨w.heap.size + 1 + 1, 2, none⟩ (.int .i64 x.most)).setCell ⟨w.heap.size + 1 + 1, 3, none⟩ (.string x.under)).heap[w.heap.size + 1 + 1]? = some (.cells #[.string x.tag, .slice (FA k) x.fields.length (FC k), .int .i64 x.most, .string x.under] 46 (0, 0)) := heap_set (heap_set (heap_set (heap_set HZ2.out 0 _) 1 _) 2 _) 3 _
  obtain ⟨⟨r0, r1, r2, r3⟩, -, -⟩ := obox4 hz
  refine bodyPost_ret (v := .tuple #[.agg #[.string x.tag, .slice (FA k) x.fields.length (FC k), .int .i64 x.most, .string x.under], .bool true]) (by simp [results, Tryz.results16, go_sem, r0, r1, r2, r3]) rfl ⟨by rw [H1.out, H2.out, H3.out, H4.out, HX.out, decide_eq_true (show (0 : Int) <= (k : Int) by omega)]; rfl, ?_⟩
  go_grown
end Go.Proofs.YtbnjejenejoibaaGreatDoor
namespace Go.Proofs.YtbnjejenejoibaaGreatDoor
open Go.RowKit Limb
set_option linter.unusedVariables false
set_option linter.unusedSimpArgs false
set_option linter.unnecessarySimpa false
def tailD (m : Nat) : List UInt8 := if m = 0 then [] else Lib.decDigits m
theorem tail_zero : tailD 0 = [] := rfl
theorem tail_pos {m : Nat} (h : 0 < m) : tailD m = Lib.decDigits m := if_neg (by omega)
theorem tail_step {m : Nat} (h : 0 < m) : tailD m = tailD (m / 10) ++ [UInt8.ofNat (48 + m % 10)] := by
 rw [tail_pos h, Lib.decDigits]
 by_cases h10 : m < 10
 ·rw [dif_pos h10, show m / 10 = 0 by omega, show m % 10 = m by omega, tail_zero]; rfl
 ·rw [dif_neg h10, tail_pos (by omega)]
theorem tail_len : ∀ (k m : Nat), m < 10 ^ k -> (tailD m).length <= k
 | 0, m, h => by have : m = 0 := by simpa using h
                 subst this; simp [tail_zero]
 | k + 1, m, h => by
  rcases Nat.eq_zero_or_pos m with h0 | h0
  ·subst h0; simp [tail_zero]
  ·rw [tail_step h0, List.length_append, List.length_singleton]
   have := tail_len k (m / 10) (by rw [Nat.pow_succ] at h; omega)
   omega
theorem div_step {ds d0 : List Nat} {j r x : Nat} (hj : j < ds.length) (hl : ds.length = d0.length) (hx : dg d0 j = x) (hv : 10 * val B32 (ds.drop (j + 1)) + r = val B32 (d0.drop (j + 1))) :
  10 * val B32 ((ds.set j ((r * 4294967296 + x) / 10)).drop j) + (r * 4294967296 + x) % 10 = val B32 (d0.drop j) := by
 have h1 : (ds.set j ((r * 4294967296 + x) / 10)).drop j = ((r * 4294967296 + x) / 10) :: ds.drop (j + 1) := by
  rw [List.drop_eq_getElem_cons (by simpa using hj), List.getElem_set_self]
  congr 1
  rw [List.drop_set_of_lt (by omega)]
 have h2 : d0.drop j = x :: d0.drop (j + 1) := by
  rw [List.drop_eq_getElem_cons (by omega)]
  congr 1
  have := dg_get (l := d0) (k := j) (by omega)
  rw [List.getElem?_eq_getElem (by omega)] at this
  injection this with this
  rw [this, hx]
 rw [h1, h2, val_cons, val_cons, <- hv]
 have h3 : (r * 4294967296 + x) % 10 + 10 * ((r * 4294967296 + x) / 10) = r * 4294967296 + x := by omega
 have h4 : B32 * (10 * val B32 (ds.drop (j + 1)) + r) = 10 * (B32 * val B32 (ds.drop (j + 1))) + r * 4294967296 := by
  rw [Nat.mul_add, Nat.mul_left_comm]; congr 1; rw [Nat.mul_comm]; rfl
 rw [h4, Nat.mul_add]
 generalize B32 * val B32 (ds.drop (j + 1)) = V
 omega
theorem take_set {ds d0 : List Nat} {j q : Nat} (h : ds.take (j + 1) = d0.take (j + 1)) : (ds.set j q).take j = d0.take j := by
 rw [List.take_set_of_le (by omega)]
 have := congrArg (List.take j) h
 rw [List.take_take, List.take_take, Nat.min_eq_left (by omega)] at this
 exact this
theorem dg_take {ds d0 : List Nat} {j : Nat} (h : ds.take (j + 1) = d0.take (j + 1)) : dg ds j = dg d0 j := by
 have := congrArg (fun l => l.getD j 0) h
 simp only [List.getD_eq_getElem?_getD, List.getElem?_take] at this
 rw [if_pos (by omega), if_pos (by omega)] at this
 unfold dg
 rw [List.getD_eq_getElem?_getD, List.getD_eq_getElem?_getD]
 exact this
theorem tgrown_heap {w w' : World} {B E g n size : Nat} {cs : Array Value} {T : TypeId} {f : Nat × Nat} {v : Value} {xs : List Value} (h : w.heap[g]? = some (.cells cs T f)) (hown : w.ownsRow B E size v n xs) (hg : w.grownBy w' v.ownBlock) (hne : E ≠ T) : w'.heap[g]? = some (.cells cs T f) := by
 refine (hg.block g (lt_heap h) ?_).trans h
 rcases hown.2 with ⟨hv, _⟩ | ⟨g', cap, cur, hv, _, hh, _⟩
 ·subst hv; simp [Value.ownBlock]
 ·subst hv
  have := heap_ne hh h hne
  simp [Value.ownBlock]
  omega
theorem town_ge {w : World} {B E n size : Nat} {v : Value} {xs : List Value} (hown : w.ownsRow B E size v n xs) : ∀ g, v.ownBlock = some g -> B <= g := by
 intro g hg
 rcases hown.2 with ⟨hv, _⟩ | ⟨g', cap, cur, hv, hb, hh, _⟩
 ·subst hv; simp [Value.ownBlock] at hg
 ·subst hv; simp [Value.ownBlock] at hg; omega
theorem town_grown {w w' : World} {B E n size B' E' n' size' : Nat} {v v' : Value} {xs xs' : List Value} (h : w.ownsRow B E size v n xs) (ho : w.ownsRow B' E' size' v' n' xs') (hg : w.grownBy w' v'.ownBlock) (hne : E' ≠ E) : w'.ownsRow B E size v n xs := by
 refine ⟨h.1, ?_⟩
 rcases h.2 with hn | ⟨g, cap, cur, hv, hb, hh, hr⟩
 ·exact .inl hn
 ·exact .inr ⟨g, cap, cur, hv, hb, tgrown_heap hh ho hg hne, hr⟩
theorem town_set {w : World} {B E n size B' E' n' size' c' g' i : Nat} {v : Value} {xs xs' : List Value} (h : w.ownsRow B E size v n xs) (ho : w.ownsRow B' E' size' (.slice (some ⟨g', 0, none⟩) n' c') n' xs') (hne : E' ≠ E) (u : Value) : (w.setCell ⟨g', i, none⟩ u).ownsRow B E size v n xs := by
 refine ⟨h.1, ?_⟩
 rcases ho.2 with ⟨hv, _⟩ | ⟨g2, cap2, cur2, hv2, _, hh2, _⟩
 ·injection hv with hv; cases hv
 ·injection hv2 with hv2
  injection hv2 with hv2
  injection hv2 with hv2
  subst hv2
  rcases h.2 with hn | ⟨g, cap, cur, hv, hb, hh, hr⟩
  ·exact .inl hn
  ·exact .inr ⟨g, cap, cur, hv, hb, heap_far hh (heap_ne hh hh2 (Ne.symm hne)) _, hr⟩
theorem Tryz.info5 : (Tryz.prog.info? 5).map (fun i => (i.zero, i.size, i.bytes)) = some (some (.int .u8 0), 1, 1) := by kernel_rfl
def RetTx (m : Nat) (w : World) (e : Ending) (w' : World) : Prop := e = .returned (.string ⟨(Lib.decDigits m).toArray⟩) /\ Below w.heap.size w w'
set_option maxHeartbeats 2000000 in
set_option maxRecDepth 100000 in
theorem text_c (w : World) {A : Option Addr} {n c : Nat} {m : Nat} (h : Big .u32 196 B32 w false A n c (m : Int)) (hm : m < 10 ^ 200) :
  Calls Tryz.prog 201 #[.agg #[.bool false, .slice A n c]] w (RetTx m w) := by
 obtain ⟨l, hd, hnc, hcm, gl, nl, sl, hz⟩ := h
 have hv : val B32 l = m := by unfold sg at hz; simp at hz; omega
 have hn : n <= 200 := by rw [<- hd.1]; exact small_len32 (neg := false) nl (by unfold Small; rw [sg_natAbs, hv]; exact hm)
 rcases Nat.eq_zero_or_pos n with h0 | h0
 ·subst h0
  have hl0 : l = [] := List.length_eq_zero_iff.1 hd.1
  subst hl0
  rw [val_nil] at hv
  subst hv
  clear hz sl hd nl gl
  go_enter Tryz.func201, Tryz.ntmps201
  go_wp2
  go_ret
  refine ⟨?_, by go_grown⟩
  rw [Lib.decDigits_one (by decide)]
  rfl
 ·have hmp : 0 < m := by rw [<- hv]; exact val_pos (by decide) nl (by intro e; have := hd.1; rw [e] at this; simp at this; omega)
  obtain ⟨i0, hi, hz0, hz1, hz2⟩ := info_parts Tryz.info5
  have HM := Lib.hid hm; have HV := Lib.hid hv
  clear hm hv hz sl
  go_enter Tryz.func201, Tryz.ntmps201
  go_wp2_with fail
  refine (clone32_c l A n c _ (hd.alloc _) h0 hnc (by omega)).mono ?_
  rintro e w1 ⟨A1, c1, rfl, hown, hb⟩
  have hX := heap_below (heap_new w (.cells #[.bool false, .slice A n c] 111) rfl) hb
  have hB : Below w.heap.size w w1 := below_then hb (by go_grown) (by simp only [World.size_alloc]; omega)
  have hown := own_mono hown (base' := w.heap.size) (by simp only [World.size_alloc]; omega)
  have hsz := hB.size
  clear hb hd
  go_wp2_with fail
  go_loopg [3, 4] m (fun M x y wr => ∃ (os ds : List Nat) (A2 : Option Addr) (c2 k : Nat), x = .slice A2 os.length c2 /\ y = .slice A1 k c1 /\ k <= 200 /\ wr.ownsRow w.heap.size 5 1 (.slice A2 os.length c2) os.length (digV .u8 os) /\ wr.ownsRow w.heap.size 196 1 (.slice A1 k c1) k (digV .u32 ds) /\ Digs B32 ds /\ Norm ds /\ val B32 ds = M /\
   tailD M ++ (os.map UInt8.ofNat).reverse = tailD m /\ (∀ o ∈ os, o < 256) /\ wr.heap[w.heap.size]? = some (.cells #[.bool false, .slice A n c] 111 (0, 0)) /\ Below w.heap.size w wr)
  case atStart => exact ⟨[], l, none, 0, n, rfl, rfl, hn, World.ownsRow_nil _ _ _ _, hown, gl, nl, HV.out, by simp, by simp, hX, hB⟩
  case round =>
   obtain ⟨os, ds, A2, c2, k, rfl, rfl, hk, hos, hds, gd, nd, hval, htl, hby, hX, hB⟩ := hrel
   have HT := Lib.hid htl; have HY := Lib.hid hby; have HX := Lib.hid hX
   have hdl : ds.length = k := by have := hds.1; rw [digV_length] at this; omega
   have hosl : os.length <= 200 := by
    have h1 := tail_len 200 m HM.out
    have h2 := congrArg List.length htl
    simp at h2
    omega
   clear htl hby hX
   rcases Nat.eq_zero_or_pos k with hk0 | hk0
   ·subst hk0
    have hd0 : ds = [] := List.length_eq_zero_iff.1 hdl
    subst hd0
    rw [val_nil] at hval
    subst hval
    have htl := HT.out
    rw [tail_zero, List.nil_append] at htl
    have hos0 : 0 < os.length := by
     rcases Nat.eq_zero_or_pos os.length with h | h
     ·have : os = [] := List.length_eq_zero_iff.1 h
      subst this
      have h2 := tail_step hmp
      rw [<- htl] at h2
      simp at h2
     ·exact h
    obtain ⟨A2b, hA2⟩ : ∃ g, A2 = some ⟨g, 0, none⟩ := by
     rcases hos.2 with ⟨_, h0⟩ | ⟨g, cap, cur, hv, hbg, _⟩
     ·omega
     ·injection hv with hA
      exact ⟨g, hA⟩
    subst hA2
    obtain ⟨b0, b1, b2, b3, b4⟩ := box2 HX.out
    clear hds gd nd hdl HX htl
    go_wp2_with fail
    have REV := reverse8_c os w.heap.size (some ⟨A2b, 0, none⟩) os.length c2 wr hos rfl (by omega) hos0
    refine REV.mono ?_
    rintro e w2 ⟨rfl, hown2, hb2⟩
    have hB2 := Lib.hid (hB.trans hb2)
    have hcv := run_convert_bytes_back (P := Tryz.prog) w2 246 9 5 ⟨A2b, 0, none⟩ c2 (os.reverse.map UInt8.ofNat) Tryz.underlying246 Tryz.underlying5 Tryz.underlying9 (by
     intro k hk
     have hk2 : k < os.reverse.length := by simpa using hk
     have h1 := (hown2.cellAt k (by simpa using hk2)).trans (digV_get .u8 hk2)
     have hadd : (⟨A2b, 0, none⟩ : Addr).add k = ⟨A2b, k, none⟩ := by unfold Addr.add; split <;> simp_all
     rw [hadd, h1]
     have h2 := dg_get hk2
     rw [List.getElem?_eq_getElem hk2] at h2
     injection h2 with h2
     have h3 : os.reverse[k] < 256 := HY.out _ (by have := List.getElem_mem hk2; simpa using this)
     rw [List.getElem_map, UInt8.toNat_ofNat', h2, Nat.mod_eq_of_lt (by rw [<- h2]; exact h3)])
    rw [show (os.reverse.map UInt8.ofNat).length = os.length by simp] at hcv
    clear REV hown2 hos hB hb2 b0 b1 b2 b3 b4
    go_wp2
    go_ret
    refine ⟨?_, hB2.out⟩
    have h5 := HT.out
    rw [tail_zero, List.nil_append, tail_pos hmp, <- List.map_reverse] at h5
    rw [<- h5, List.map_reverse]
    rfl
   ·obtain ⟨g, hA1, hbg⟩ : ∃ g, A1 = some ⟨g, 0, none⟩ /\ w.heap.size <= g := by
     rcases hds.2 with ⟨_, h0⟩ | ⟨g, cap, cur, hv, hbg, _⟩
     ·omega
     ·injection hv with hA
      exact ⟨g, hA, hbg⟩
    subst hA1
    have hkc : k <= c1 := (own_cap hds).1
    go_wp2_with fail
    obtain ⟨wo, rfl⟩ : ∃ wo : World, wo = wr := ⟨_, rfl⟩
    go_loopw [5, 6] (fun rv i wr => ∃ (j r : Nat) (es : List Nat), j <= k /\ rv = .int .u32 (r : Int) /\ i = .int .i64 ((j : Int) - 1) /\ r < 10 /\ es.length = k /\ es.take j = ds.take j /\ 10 * val B32 (es.drop j) + r = val B32 (ds.drop j) /\ Digs B32 es /\
     wr.ownsRow w.heap.size 196 1 (.slice (some ⟨g, 0, none⟩) k c1) k (digV .u32 es) /\ wr.ownsRow w.heap.size 5 1 (.slice A2 os.length c2) os.length (digV .u8 os) /\ wr.heap[w.heap.size]? = some (.cells #[.bool false, .slice A n c] 111 (0, 0)) /\ Below w.heap.size w wr) (fun _ i _ => (intOf i + 1).toNat)
    case atStart => exact ⟨k, 0, ds, Nat.le_refl _, rfl, by go_num, by omega, hdl, rfl, by rw [List.drop_eq_nil_of_le (by omega)]; rfl, gd, hds, hos, HX.out, hB⟩
    case round =>
     clear hB hos hds hX
     obtain ⟨j, r, es, hj, rfl, rfl, hr, hel, htk, hvl, ge, hes, hos, hX, hB⟩ := hrel
     have HTK := Lib.hid htk; have HVL := Lib.hid hvl; have HX := Lib.hid hX; have HEL := Lib.hid hel
     clear htk hvl hX hel
     rcases j with _ | j
     ·have hvl := HVL.out
      rw [List.drop_zero, List.drop_zero, hval] at hvl
      have hve : val B32 es = gk / 10 := by omega
      have hre : r = gk % 10 := by omega
      have HVE := Lib.hid hve; have HRE := Lib.hid hre
      have hdig : Dig wr .u32 196 (some ⟨g, 0, none⟩) k es := Dig.of_own hes
      have hc1m : c1 <= maxLen := (own_cap hes).2
      have hwrp : IntKind.u8.wrap (r : Int) = (r : Int) := IntWalk.u8_in _ (by omega)
      clear hvl hve hre HTK HVL
      go_wp2_with (first
       | (at_builtin; refine wpList_push_own rfl _ _ 246 rfl w.heap.size 5 i0 (.int .u8 0) 1 Tryz.underlying246 hi hz0 hz1 hz2 rfl (.slice A2 os.length c2) os.length (digV .u8 os) rfl hos (.int .u8 (48 + (r : Int))) rfl rfl (by unfold maxLen; omega) (by omega) hB.size ?_; intro A3 c3 w3 hos3 hg3; have hes3 := town_grown hes hos hg3 (by decide); have hX3 := Lib.hid (tgrown_heap HX.out hos hg3 (by decide)); have hB3 := hB.grown hg3 hB.size (town_ge hos); clear hos hes hg3))
      refine (trimmed_c es (some ⟨g, 0, none⟩) k c1 w3 (Dig.of_own hes3) (by omega) hc1m).mono ?_
      rintro e w4 ⟨rfl, k2, hk2, ht, rfl⟩
      have HT2 := Lib.hid ht
      clear ht
      go_wp2
      go_roundg (gk / 10)
      case measure =>
       have : 0 < gk := by rw [<- hval]; exact val_pos (by decide) nd (by intro e; rw [e] at hdl; simp at hdl; omega)
       omega
      case rel =>
       have hgk : 0 < gk := by rw [<- hval]; exact val_pos (by decide) nd (by intro e; rw [e] at hdl; simp at hdl; omega)
       refine ⟨os ++ [48 + r], es.take k2, A3, c3, k2, by simp, rfl, by omega, ?_, own_take hes3 hk2, by rw [<- HT2.out]; exact digs_trim ge, by rw [<- HT2.out]; exact norm_trim es, by rw [<- HT2.out, val_trim]; exact HVE.out, ?_, ?_, hX3.out, hB3⟩
       ·rw [List.length_append, List.length_singleton, digV_snoc]
        exact hos3
       ·rw [List.map_append, List.reverse_append, <- HT.out, tail_step hgk, HRE.out]
        simp
       ·intro o ho
        rcases List.mem_append.1 ho with h | h
        ·exact HY.out o h
        ·have : o = 48 + r := by simpa using h
         omega
     ·rw [show ((j + 1 : Nat) : Int) - 1 = (j : Int) by omega]
      have hxx := (hes.cellAt j (by omega)).trans (digV_get .u32 (l := es) (k := j) (by rw [HEL.out]; omega))
      have hfz := hes.frozenAt j
      obtain ⟨x, hx⟩ : ∃ x, dg es j = x := ⟨_, rfl⟩
      have hxb : x < 4294967296 := by rw [<- hx]; exact dg_lt ge (by decide) _
      rw [hx] at hxx
      have HXX := Lib.hid hx
      have DV := Lib.hid (fun w => div32_c r x w hr hxb)
      have hjk : (j : Int) < (k : Int) := by omega
      clear hx
      go_wp2_with (first | (refine (DV.out _).mono ?_; rintro e w2 ⟨⟨q, rfl⟩, rfl⟩))
      have hes2 : (wr.drewN q).ownsRow w.heap.size 196 1 (.slice (some ⟨g, 0, none⟩) k c1) k (digV .u32 es) := by exact hes
      have hos2 : (wr.drewN q).ownsRow w.heap.size 5 1 (.slice A2 os.length c2) os.length (digV .u8 os) := by exact hos
      have hB2 := (below_drewN hB q).setCell (p := ⟨g, j, none⟩) hbg (.int .u32 (((r : Int) * 4294967296 + (x : Int)) / 10))
      have hX2 : (wr.drewN q).heap[w.heap.size]? = some (.cells #[.bool false, .slice A n c] 111 (0, 0)) := by exact HX.out
      refine ⟨⟨j, (r * 4294967296 + x) % 10, es.set j ((r * 4294967296 + x) / 10), by omega, congrArg _ (by omega), rfl, by omega, by simp [HEL.out], take_set HTK.out, div_step (by rw [HEL.out]; omega) (by rw [HEL.out, hdl]) (by rw [<- dg_take HTK.out, HXX.out]) HVL.out, ge.set _ (by unfold B32; omega), row_store hes2 j (by omega), town_set hos2 hes2 (by decide) _, ?_, hB2⟩, by simp [intOf]⟩
      refine heap_far hX2 ?_ _
      rcases hes2.2 with ⟨hv, _⟩ | ⟨g2, cap2, cur2, hv2, _, hh2, _⟩
      ·injection hv with hv; cases hv
      ·injection hv2 with hv2
       injection hv2 with hv2
       injection hv2 with hv2
       subst hv2
       exact heap_ne hX2 hh2 (by decide)
end Go.Proofs.YtbnjejenejoibaaGreatDoor
