
/- The walks of kindAt and columnAt, and of the tests that hold a closure. -/
import Derived.Test.YthjlleifpnpfgaaGreatDoorF1
import Derived.Deep.QuietTactic
import Derived.BigQuiet
namespace Go.Proofs.YthjlleifpnpfgaaGreatDoor
open Go.RowKit Limb Nmb
set_option linter.unusedVariables false
set_option linter.unusedSimpArgs false
theorem bytes_dec (a b : ByteArray) : (a.toList == b.toList) = decide (a = b) := by
 by_cases h : a = b
 ·subst h; simp
 ·rw [decide_eq_false h]; exact (Lib.bytes_beq_false_iff _ _).2 h
theorem obox {w : World} {g : Nat} {cs : Array Value} {T : TypeId} (h : w.heap[g]? = some (.cells cs T (0, 0))) :
  (∀ i v, cs[i]? = some v -> w.cell? ⟨g, i, none⟩ = some v) /\ (∀ i, i < cs.size -> w.frozen? ⟨g, i, none⟩ = false) /\ g < w.heap.size := by
 refine ⟨fun i v hi => ?_, fun i hi => by simp [World.frozen?, h], lt_heap h⟩
 rw [cell_of_row w g i cs T _ h]
 exact hi
theorem obox4 {w : World} {g : Nat} {a b c d : Value} {T : TypeId} (h : w.heap[g]? = some (.cells #[a, b, c, d] T (0, 0))) :
  (w.cell? ⟨g, 0, none⟩ = some a /\ w.cell? ⟨g, 1, none⟩ = some b /\ w.cell? ⟨g, 2, none⟩ = some c /\ w.cell? ⟨g, 3, none⟩ = some d) /\ (w.frozen? ⟨g, 0, none⟩ = false /\ w.frozen? ⟨g, 1, none⟩ = false /\ w.frozen? ⟨g, 2, none⟩ = false /\ w.frozen? ⟨g, 3, none⟩ = false) /\ g < w.heap.size := by
 obtain ⟨h1, h2, h3⟩ := obox h
 exact ⟨⟨h1 0 _ rfl, h1 1 _ rfl, h1 2 _ rfl, h1 3 _ rfl⟩, ⟨h2 0 (by simp), h2 1 (by simp), h2 2 (by simp), h2 3 (by simp)⟩, h3⟩
theorem obox7 {w : World} {g : Nat} {a b c d e f i : Value} {T : TypeId} (h : w.heap[g]? = some (.cells #[a, b, c, d, e, f, i] T (0, 0))) :
  (w.cell? ⟨g, 0, none⟩ = some a /\ w.cell? ⟨g, 1, none⟩ = some b /\ w.cell? ⟨g, 2, none⟩ = some c /\ w.cell? ⟨g, 3, none⟩ = some d /\ w.cell? ⟨g, 4, none⟩ = some e /\ w.cell? ⟨g, 5, none⟩ = some f /\ w.cell? ⟨g, 6, none⟩ = some i) /\ g < w.heap.size := by
 obtain ⟨h1, h2, h3⟩ := obox h
 exact ⟨⟨h1 0 _ rfl, h1 1 _ rfl, h1 2 _ rfl, h1 3 _ rfl, h1 4 _ rfl, h1 5 _ rfl, h1 6 _ rfl⟩, h3⟩
theorem obox8 {w : World} {g : Nat} {a b c d e f i j : Value} {T : TypeId} (h : w.heap[g]? = some (.cells #[a, b, c, d, e, f, i, j] T (0, 0))) :
  (w.cell? ⟨g, 0, none⟩ = some a /\ w.cell? ⟨g, 1, none⟩ = some b /\ w.cell? ⟨g, 2, none⟩ = some c /\ w.cell? ⟨g, 3, none⟩ = some d /\ w.cell? ⟨g, 4, none⟩ = some e /\ w.cell? ⟨g, 5, none⟩ = some f /\ w.cell? ⟨g, 6, none⟩ = some i /\ w.cell? ⟨g, 7, none⟩ = some j) /\ g < w.heap.size := by
 obtain ⟨h1, h2, h3⟩ := obox h
 exact ⟨⟨h1 0 _ rfl, h1 1 _ rfl, h1 2 _ rfl, h1 3 _ rfl, h1 4 _ rfl, h1 5 _ rfl, h1 6 _ rfl, h1 7 _ rfl⟩, h3⟩
def fmtG (f : Fmt) (A : Option Addr) (c : Nat) : Value := .agg #[.int .u8 f.mark, .int .u8 f.quote, .slice A f.kinds.length c, .string f.head, .string f.tail, .string f.count, .string f.sum]
theorem kat1_c (k : RKd) (A : Option Addr) (C b : Nat) (t : ByteArray) (w : World) (hc : w.cell? ⟨b, 0, none⟩ = some (.string t)) :
  Calls Tryz.prog 62 #[kindG k A C, .pointer (some ⟨b, 0, none⟩)] w fun e w' => e = .returned (.bool (tagIs t k)) /\ Below w.heap.size w w' := by
 have hc' : ∀ o, (w.alloc o).cell? ⟨b, 0, none⟩ = some (.string t) := fun o => (World.cell?_alloc_some w _ o (by rw [hc]; rfl)).trans hc
 have hb := bytes_dec k.tag t
 unfold tagIs kindG
 cases hd : decide (k.tag = t) with
 | true =>
  rw [hd] at hb
  clear hc hd
  go_enter Tryz.func62, Tryz.ntmps62
  go_wp2
  go_ret
  exact ⟨rfl, by go_grown⟩
 | false =>
  rw [hd] at hb
  clear hc hd
  go_enter Tryz.func62, Tryz.ntmps62
  go_wp2
  go_ret
  exact ⟨rfl, by go_grown⟩
theorem cat1_c (k : Col) (b : Nat) (t : ByteArray) (w : World) (hc : w.cell? ⟨b, 0, none⟩ = some (.string t)) :
  Calls Tryz.prog 56 #[colG k, .pointer (some ⟨b, 0, none⟩)] w fun e w' => e = .returned (.bool (nameIs t k)) /\ Below w.heap.size w w' := by
 have hc' : ∀ o, (w.alloc o).cell? ⟨b, 0, none⟩ = some (.string t) := fun o => (World.cell?_alloc_some w _ o (by rw [hc]; rfl)).trans hc
 have hb := bytes_dec k.name t
 unfold nameIs colG
 cases hd : decide (k.name = t) with
 | true =>
  rw [hd] at hb
  clear hc hd
  go_enter Tryz.func56, Tryz.ntmps56
  go_wp2
  go_ret
  exact ⟨rfl, by go_grown⟩
 | false =>
  rw [hd] at hb
  clear hc hd
  go_enter Tryz.func56, Tryz.ntmps56
  go_wp2
  go_ret
  exact ⟨rfl, by go_grown⟩
theorem kf1_c (k x : RKd) (A XA : Option Addr) (C XC b : Nat) (w : World) (hc : w.heap[b]? = some (.cells #[.string x.tag, .slice XA x.fields.length XC, .int .i64 x.most, .string x.under] 46 (0, 0))) :
  Calls Tryz.prog 83 #[kindG k A C, .pointer (some ⟨b, 0, none⟩)] w fun e w' => e = .returned (.bool (tagIs x.tag k)) /\ Below w.heap.size w w' := by
 have hb := bytes_dec k.tag x.tag
 unfold tagIs kindG
 obtain ⟨⟨g0, -, -, -⟩, -, -⟩ := obox4 (heap_old hc (.cells #[.string k.tag, .slice A k.fields.length C, .int .i64 k.most, .string k.under] 46))
 cases hd : decide (k.tag = x.tag) with
 | true =>
  rw [hd] at hb
  clear hc hd
  go_enter Tryz.func83, Tryz.ntmps83
  go_wp2
  go_ret
  exact ⟨rfl, by go_grown⟩
 | false =>
  rw [hd] at hb
  clear hc hd
  go_enter Tryz.func83, Tryz.ntmps83
  go_wp2
  go_ret
  exact ⟨rfl, by go_grown⟩
theorem kf2_c (k x : RKd) (A XA : Option Addr) (C XC b : Nat) (w : World) (hc : w.heap[b]? = some (.cells #[.string x.tag, .slice XA x.fields.length XC, .int .i64 x.most, .string x.under] 46 (0, 0))) :
  Calls Tryz.prog 87 #[kindG k A C, .pointer (some ⟨b, 0, none⟩)] w fun e w' => e = .returned (.bool (tagIs x.under k)) /\ Below w.heap.size w w' := by
 have hb := bytes_dec k.tag x.under
 unfold tagIs kindG
 obtain ⟨⟨-, -, -, g0⟩, -, -⟩ := obox4 (heap_old hc (.cells #[.string k.tag, .slice A k.fields.length C, .int .i64 k.most, .string k.under] 46))
 cases hd : decide (k.tag = x.under) with
 | true =>
  rw [hd] at hb
  clear hc hd
  go_enter Tryz.func87, Tryz.ntmps87
  go_wp2
  go_ret
  exact ⟨rfl, by go_grown⟩
 | false =>
  rw [hd] at hb
  clear hc hd
  go_enter Tryz.func87, Tryz.ntmps87
  go_wp2
  go_ret
  exact ⟨rfl, by go_grown⟩
theorem cf1_c (k x : Col) (b : Nat) (w : World) (hc : w.cell? ⟨b, 0, none⟩ = some (.string x.name)) :
  Calls Tryz.prog 133 #[colG k, .pointer (some ⟨b, 0, none⟩)] w fun e w' => e = .returned (.bool (nameIs x.name k)) /\ Below w.heap.size w w' := by
 have hc' : ∀ o, (w.alloc o).cell? ⟨b, 0, none⟩ = some (.string x.name) := fun o => (World.cell?_alloc_some w _ o (by rw [hc]; rfl)).trans hc
 have hb := bytes_dec k.name x.name
 unfold nameIs colG
 cases hd : decide (k.name = x.name) with
 | true =>
  rw [hd] at hb
  clear hc hd
  go_enter Tryz.func133, Tryz.ntmps133
  go_wp2
  go_ret
  exact ⟨rfl, by go_grown⟩
 | false =>
  rw [hd] at hb
  clear hc hd
  go_enter Tryz.func133, Tryz.ntmps133
  go_wp2
  go_ret
  exact ⟨rfl, by go_grown⟩
set_option maxRecDepth 100000 in
theorem anyk_of (V W : Value) (b : Bool) (i : Int) (w0 w : World) (hi : decide (0 <= i) = b) (hb : Below w0.heap.size w0 w)
  (h : Calls Tryz.prog 54 #[V, W] w fun e w' => e = .returned (.int .i64 i) /\ Below w.heap.size w w') :
  Calls Tryz.prog 18 #[V, W] w fun e w' => e = .returned (.bool b) /\ Below w.heap.size w w' := by
 have HI := Lib.hid hi
 clear hi
 go_enter Tryz.func18, Tryz.ntmps18
 go_wp2_with fail
 refine h.mono ?_
 rintro e w2 ⟨rfl, hb2⟩
 go_wp2
 go_ret
 exact ⟨congrArg (fun b => Ending.returned (Value.bool b)) HI.out, hb2⟩
set_option maxRecDepth 100000 in
theorem anyc_of (V W : Value) (b : Bool) (i : Int) (w0 w : World) (hi : decide (0 <= i) = b) (hb : Below w0.heap.size w0 w)
  (h : Calls Tryz.prog 55 #[V, W] w fun e w' => e = .returned (.int .i64 i) /\ Below w.heap.size w w') :
  Calls Tryz.prog 132 #[V, W] w fun e w' => e = .returned (.bool b) /\ Below w.heap.size w w' := by
 have HI := Lib.hid hi
 clear hi
 go_enter Tryz.func132, Tryz.ntmps132
 go_wp2_with fail
 refine h.mono ?_
 rintro e w2 ⟨rfl, hb2⟩
 go_wp2
 go_ret
 exact ⟨congrArg (fun b => Ending.returned (Value.bool b)) HI.out, hb2⟩
set_option maxHeartbeats 1000000 in
set_option maxRecDepth 100000 in
theorem colat_c (k : RKd) (A : Option Addr) (C : Nat) (t : ByteArray) (w : World) (ho : Cols w A k.fields) :
  Calls Tryz.prog 20 #[kindG k A C, .string t] w fun e w' => e = .returned (.int .i64 (ixF (nameIs t) k.fields)) /\ Below w.heap.size w w' := by
 have HO := Lib.hid ho
 clear ho
 unfold kindG
 go_enter Tryz.func20, Tryz.ntmps20
 go_wp2_with fail
 have hY := heap_new (w.alloc (.cells #[.string k.tag, .slice A k.fields.length C, .int .i64 k.most, .string k.under] 46)) (.cells #[.string t] 9) (g := w.heap.size + 1) (by simp)
 have hb0 : Below w.heap.size w ((w.alloc (.cells #[.string k.tag, .slice A k.fields.length C, .int .i64 k.most, .string k.under] 46)).alloc (.cells #[.string t] 9)) := by go_grown
 generalize (w.alloc (.cells #[.string k.tag, .slice A k.fields.length C, .int .i64 k.most, .string k.under] 46)).alloc (.cells #[.string t] 9) = w1 at hY hb0 ⊢
 refine (ixc_c 56 (.pointer (some ⟨w.heap.size + 1, 0, none⟩)) (nameIs t) A C k.fields w1 (HO.out.below hb0) (fun _ _ => by kernel_rfl) (fun j hj wr hb => cat1_c _ _ t wr (cell_of_row _ _ 0 _ _ _ (heap_below hY hb)))).mono ?_
 rintro e w2 ⟨rfl, hb2⟩
 have hB2 := below_then hb2 hb0 hb0.size
 go_wp2
 go_ret
 exact ⟨rfl, hB2⟩
def katI (f : Fmt) (t : ByteArray) : Int := ixF (tagIs t) f.kinds
def katK (f : Fmt) (t : ByteArray) : RKd := if katI f t < 0 then kind0 else kA f.kinds (katI f t).toNat
def katA (f : Fmt) (FA : Nat -> Option Addr) (t : ByteArray) : Option Addr := if katI f t < 0 then none else FA (katI f t).toNat
def katC (f : Fmt) (FC : Nat -> Nat) (t : ByteArray) : Nat := if katI f t < 0 then 0 else FC (katI f t).toNat
theorem kat_cases (f : Fmt) (FA : Nat -> Option Addr) (FC : Nat -> Nat) (t : ByteArray) : (katI f t = -1 /\ katK f t = kind0 /\ katA f FA t = none /\ katC f FC t = 0) ∨
  ∃ k, k < f.kinds.length /\ katI f t = (k : Int) /\ katK f t = kA f.kinds k /\ katA f FA t = FA k /\ katC f FC t = FC k := by
 unfold katK katA katC
 rcases ixF_spec (tagIs t) f.kinds with ⟨h, -⟩ | ⟨k, hk, h, -, -⟩
 ·have : katI f t = -1 := h
  rw [this]
  exact .inl ⟨rfl, rfl, rfl, rfl⟩
 ·have : katI f t = (k : Int) := h
  rw [this, if_neg (by omega), if_neg (by omega), if_neg (by omega)]
  exact .inr ⟨k, hk, rfl, rfl, rfl, rfl⟩
set_option maxHeartbeats 1000000 in
set_option maxRecDepth 100000 in
theorem kindat_c (f : Fmt) (A : Option Addr) (c : Nat) (FA : Nat -> Option Addr) (FC : Nat -> Nat) (t : ByteArray) (w : World) (ho : Kinds w A f.kinds FA FC) :
  Calls Tryz.prog 29 #[fmtG f A c, .string t] w fun e w' => e = .returned (.tuple #[kindG (katK f t) (katA f FA t) (katC f FC t), .bool (decide (0 <= katI f t))]) /\ Below w.heap.size w w' := by
 have HO := Lib.hid ho
 have hn := ho.1.2
 have HK := Lib.hid (kat_cases f FA FC t)
 unfold fmtG
 clear ho
 go_enter Tryz.func29, Tryz.ntmps29
 go_wp2_with fail
 have hF := heap_old (heap_old (heap_new w (.cells #[.int .u8 f.mark, .int .u8 f.quote, .slice A f.kinds.length c, .string f.head, .string f.tail, .string f.count, .string f.sum] 24) rfl) (.cells #[.string t] 9)) (.cells #[.string ⟨#[]⟩, .slice none 0 0, .int .i64 0, .string ⟨#[]⟩] 46)
 have hY := heap_old (heap_new (w.alloc (.cells #[.int .u8 f.mark, .int .u8 f.quote, .slice A f.kinds.length c, .string f.head, .string f.tail, .string f.count, .string f.sum] 24)) (.cells #[.string t] 9) (g := w.heap.size + 1) (by simp)) (.cells #[.string ⟨#[]⟩, .slice none 0 0, .int .i64 0, .string ⟨#[]⟩] 46)
 have hZ := heap_new ((w.alloc (.cells #[.int .u8 f.mark, .int .u8 f.quote, .slice A f.kinds.length c, .string f.head, .string f.tail, .string f.count, .string f.sum] 24)).alloc (.cells #[.string t] 9)) (.cells #[.string ⟨#[]⟩, .slice none 0 0, .int .i64 0, .string ⟨#[]⟩] 46) (g := w.heap.size + 1 + 1) (by simp)
 have hb0 : Below w.heap.size w (((w.alloc (.cells #[.int .u8 f.mark, .int .u8 f.quote, .slice A f.kinds.length c, .string f.head, .string f.tail, .string f.count, .string f.sum] 24)).alloc (.cells #[.string t] 9)).alloc (.cells #[.string ⟨#[]⟩, .slice none 0 0, .int .i64 0, .string ⟨#[]⟩] 46)) := by go_grown
 generalize ((w.alloc (.cells #[.int .u8 f.mark, .int .u8 f.quote, .slice A f.kinds.length c, .string f.head, .string f.tail, .string f.count, .string f.sum] 24)).alloc (.cells #[.string t] 9)).alloc (.cells #[.string ⟨#[]⟩, .slice none 0 0, .int .i64 0, .string ⟨#[]⟩] 46) = w1 at hF hY hZ hb0 ⊢
 have hix := ixk_c 62 (.pointer (some ⟨w.heap.size + 1, 0, none⟩)) (tagIs t) A c f.kinds.length f.kinds FA FC w1 (Nat.le_refl _) (HO.out.below hb0) (fun _ _ => by kernel_rfl) (fun j hj wr hb => kat1_c _ _ _ _ t wr (cell_of_row _ _ 0 _ _ _ (heap_below hY hb)))
 rw [List.take_length] at hix
 have HIX := Lib.hid hix
 obtain ⟨n, hnn⟩ : ∃ n, f.kinds.length = n := ⟨_, rfl⟩
 have HN := Lib.hid hnn
 rw [hnn] at HIX hF hn ⊢
 clear hix hY hnn
 refine HIX.out.mono ?_
 rintro e w2 ⟨rfl, hb2⟩
 have hF2 := heap_below hF hb2
 have hZ2 := heap_below hZ hb2
 have hB2 := below_then hb2 hb0 hb0.size
 obtain ⟨⟨f0, f1, f2, f3, f4, f5, f6⟩, f7⟩ := obox7 hF2
 obtain ⟨⟨z0, z1, z2, z3⟩, ⟨y0, y1, y2, y3⟩, z4⟩ := obox4 hZ2
 have hn1 : w.heap.size + 1 + 1 < w2.heap.size := z4
 have HZ2 := Lib.hid hZ2
 clear hF hZ hF2 hZ2 hb2 HIX
 rcases HK.out with ⟨h1, h2, h3, h4⟩ | ⟨k, hk, h1, h2, h3, h4⟩
 ·have H1 := Lib.hid h1; have H2 := Lib.hid h2; have H3 := Lib.hid h3; have H4 := Lib.hid h4
  have hi : ixF (tagIs t) f.kinds = -1 := h1
  rw [hi]
  clear h1 h2 h3 h4 hi
  go_wp2
  refine bodyPost_ret (v := .tuple #[.agg #[.string ⟨#[]⟩, .slice none 0 0, .int .i64 0, .string ⟨#[]⟩], .bool false]) (by simp [results, Tryz.results29, go_sem, z0, z1, z2, z3]) rfl ⟨by rw [H1.out, H2.out, H3.out, H4.out]; rfl, ?_⟩
  go_grown
 ·have hkn : k < n := by rw [<- HN.out]; exact hk
  obtain ⟨b, off, rfl, hbw, hc⟩ := (HO.out.below hB2).2.1.get hk
  have c0 : w2.cell? ⟨b, off + k * 4, none⟩ = some (.string (kA f.kinds k).tag) := hc 0 (by decide)
  have c1 : w2.cell? ⟨b, off + k * 4 + 1, none⟩ = some (.slice (FA k) (kA f.kinds k).fields.length (FC k)) := hc 1 (by decide)
  have c2 : w2.cell? ⟨b, off + k * 4 + 2, none⟩ = some (.int .i64 (kA f.kinds k).most) := hc 2 (by decide)
  have c3 : w2.cell? ⟨b, off + k * 4 + 3, none⟩ = some (.string (kA f.kinds k).under) := hc 3 (by decide)
  have H1 := Lib.hid h1; have H2 := Lib.hid h2; have H3 := Lib.hid h3; have H4 := Lib.hid h4
  have hi : ixF (tagIs t) f.kinds = (k : Int) := h1
  rw [hi]
  have hk0 : ¬ (k : Int) < 0 := by omega
  obtain ⟨x, hx⟩ : ∃ x, kA f.kinds k = x := ⟨_, rfl⟩
  have HX := Lib.hid hx
  rw [hx] at c0 c1 c2 c3
  clear h1 h2 h3 h4 hi hc hk hx
  go_wp2
  have hz : ((((w2.setCell ⟨w.heap.size + 1 + 1, 0, none⟩ (.string x.tag)).setCell ⟨w.heap.size + 1 + 1, 1, none⟩ (.slice (FA k) x.fields.length (FC k))).setCell ⟨w.heap.size + 1 + 1, 2, none⟩ (.int .i64 x.most)).setCell ⟨w.heap.size + 1 + 1, 3, none⟩ (.string x.under)).heap[w.heap.size + 1 + 1]? = some (.cells #[.string x.tag, .slice (FA k) x.fields.length (FC k), .int .i64 x.most, .string x.under] 46 (0, 0)) := heap_set (heap_set (heap_set (heap_set HZ2.out 0 _) 1 _) 2 _) 3 _
  obtain ⟨⟨r0, r1, r2, r3⟩, -, -⟩ := obox4 hz
  refine bodyPost_ret (v := .tuple #[.agg #[.string x.tag, .slice (FA k) x.fields.length (FC k), .int .i64 x.most, .string x.under], .bool true]) (by simp [results, Tryz.results29, go_sem, r0, r1, r2, r3]) rfl ⟨by rw [H1.out, H2.out, H3.out, H4.out, HX.out, decide_eq_true (show (0 : Int) <= (k : Int) by omega)]; rfl, ?_⟩
  go_grown
end Go.Proofs.YthjlleifpnpfgaaGreatDoor
