
/- The walks of the reference's fitsIn and isLess. (Printed by genB6.py.) -/
import Derived.Test.YtaiabjiehpcaoaaGreatDoorB5
import Derived.Test.YtaiabjiehpcaoaaGreatDoorK5
import Derived.Test.YtaiabjiehpcaoaaGreatDoorJ1
import Derived.Test.YtaiabjiehpcaoaaGreatDoorRH
namespace Go.Proofs.YtaiabjiehpcaoaaGreatDoor
open Go.RowKit Limb Nmb Work
set_option linter.unusedVariables false
set_option linter.unusedSimpArgs false
theorem sfit_eq (f : Fmt) (c : Col) {s : ByteArray} (h : s ≠ ⟨#[]⟩) : sfitB f c s = (valOk c s.data.toList && (decide (((wrS f.mark c s).size : Int) <= c.width) && (decide (f.mark = 0) || (decide (f.quote ≠ 0) || decide (Lib.indexByte s.data.toList (UInt8.ofNat f.mark.toNat) < 0))))) := by
 unfold sfitB valF
 rw [if_neg h]
 cases valOk c s.data.toList with
 | false => rfl
 | true =>
  rw [if_neg (by decide), Bool.true_and]
  by_cases h2 : c.width < ((wrS f.mark c s).size : Int)
  ·rw [if_pos h2, decide_eq_false (show ¬ (((wrS f.mark c s).size : Int) <= c.width) by omega)]; rfl
  ·rw [if_neg h2, decide_eq_true (show ((wrS f.mark c s).size : Int) <= c.width by omega), Bool.true_and]
   by_cases h3 : f.mark = 0
   ·rw [if_neg (c := f.mark ≠ 0 /\ _ /\ _) (fun h => h.1 h3), decide_eq_true h3]; rfl
   ·rw [decide_eq_false (p := f.mark = 0) h3, Bool.false_or]
    by_cases h4 : f.quote = 0
    ·rw [decide_eq_false (p := f.quote ≠ 0) (fun h => h h4), Bool.false_or]
     by_cases h5 : 0 <= Lib.indexByte s.data.toList (UInt8.ofNat f.mark.toNat)
     ·rw [if_pos ⟨h3, h4, h5⟩, decide_eq_false (show ¬ (Lib.indexByte s.data.toList (UInt8.ofNat f.mark.toNat) < 0) by omega)]; rfl
     ·rw [if_neg (fun h => h5 h.2.2), decide_eq_true (show Lib.indexByte s.data.toList (UInt8.ofNat f.mark.toNat) < 0 by omega)]; rfl
    ·rw [if_neg (fun h => h4 h.2.1), decide_eq_true h4]; rfl
set_option maxHeartbeats 8000000 in
set_option maxRecDepth 100000 in
theorem rfitsin_c (f : Fmt) (A : Option Addr) (cp : Nat) (c : Col) (s : ByteArray) (w : World) (h0 : s ≠ ⟨#[]⟩) (hs : s.size <= 9223372036854775807) (hm : 0 <= f.mark /\ f.mark <= 255) (hk : ColK f.mark c) (ht : Tab w) :
  Calls Tryz.prog 64 #[fmtG f A cp, colG c, .string s] w (RetB (sfitB f c s) w) := by
 have hsz : 0 < s.size := by
  rcases Nat.eq_zero_or_pos s.size with h | h
  ·exact absurd (by cases s with | mk d => congr 1; exact Array.eq_empty_of_size_eq_zero h) h0
  ·exact h
 have HIS := Lib.hid (fun wx => isof_c c s wx hsz hs)
 have HWR := Lib.hid (fun (hv : valOk c s.data.toList = true) wx h => rwritten_c f A f.kinds.length cp c s wx hs (fun _ => hv) hk h)
 have HIX := Lib.hid (show ∀ wx, Calls Tryz.prog 90 #[.string s, .int .u8 f.mark] wx fun e w' => e = .returned (.int .i64 (Lib.indexByte s.data.toList (UInt8.ofNat f.mark.toNat))) /\ Below wx.heap.size wx w' from fun wx => (ixbyte_c s f.mark wx hm).mono fun e w' h => ⟨h.1, by rw [<- h.2]; exact Below.refl _ _⟩)
 have HE0 := Lib.hid (sfit_eq f c h0)
 have HTW := Lib.hid ht
 obtain ⟨R, hR⟩ : ∃ x, sfitB f c s = x := ⟨_, rfl⟩
 obtain ⟨V, hV⟩ : ∃ x, valOk c s.data.toList = x := ⟨_, rfl⟩
 obtain ⟨S, hS⟩ : ∃ x, wrS f.mark c s = x := ⟨_, rfl⟩
 obtain ⟨I, hI⟩ : ∃ x, Lib.indexByte s.data.toList (UInt8.ofNat f.mark.toNat) = x := ⟨_, rfl⟩
 rw [hR, hV, hS, hI] at HE0
 rw [hV] at HIS HWR
 rw [hS] at HWR
 rw [hI] at HIX
 rw [hR]
 clear hR hV hS hI hk ht hm
 unfold RetB at HIS ⊢
 unfold RetS at HWR
 obtain ⟨fm, fq, fks, fd, ft, fc, fs0⟩ := f
 obtain ⟨cn, ck, cw, cl, cm, cr, ci, ce⟩ := c
 unfold colG at HIS HWR ⊢
 unfold fmtG
 simp only at HIS HWR HIX HE0 ⊢
 obtain ⟨nk, hnk⟩ : ∃ x, fks.length = x := ⟨_, rfl⟩
 rw [hnk] at HWR ⊢
 clear hnk
 have hP1 := heap_old (heap_new w (.cells #[.int .u8 fm, .int .u8 fq, .slice A nk cp, .string fd, .string ft, .string fc, .string fs0] 24) rfl) (.cells #[.string cn, .int .i64 ck, .int .i64 cw, .int .i64 cl, .int .i64 cm, .bool cr, .int .u8 ci, .bool ce] 60)
 have hP2 := heap_new (w.alloc (.cells #[.int .u8 fm, .int .u8 fq, .slice A nk cp, .string fd, .string ft, .string fc, .string fs0] 24)) (.cells #[.string cn, .int .i64 ck, .int .i64 cw, .int .i64 cl, .int .i64 cm, .bool cr, .int .u8 ci, .bool ce] 60) (g := w.heap.size + 1) (by simp)
 have hB1 : Below w.heap.size w ((w.alloc (.cells #[.int .u8 fm, .int .u8 fq, .slice A nk cp, .string fd, .string ft, .string fc, .string fs0] 24)).alloc (.cells #[.string cn, .int .i64 ck, .int .i64 cw, .int .i64 cl, .int .i64 cm, .bool cr, .int .u8 ci, .bool ce] 60)) := by go_grown
 go_enter Tryz.func64, Tryz.ntmps64
 go_upto_region 1 with fail
 generalize (w.alloc (.cells #[.int .u8 fm, .int .u8 fq, .slice A nk cp, .string fd, .string ft, .string fc, .string fs0] 24)).alloc (.cells #[.string cn, .int .i64 ck, .int .i64 cw, .int .i64 cl, .int .i64 cm, .bool cr, .int .u8 ci, .bool ce] 60) = w1 at hP1 hP2 hB1 ⊢
 have HB1 := Lib.hid hB1
 have HTB := Lib.hid (HTW.out.below hB1)
 have HSB := Lib.hid (show ∀ wx, Below w1.heap.size w1 wx -> (fun w' : World => w'.cell? ⟨w.heap.size, 0, none⟩ = some (.int .u8 fm) /\ w'.cell? ⟨w.heap.size, 1, none⟩ = some (.int .u8 fq) /\ w'.cell? ⟨w.heap.size, 2, none⟩ = some (.slice A nk cp) /\ w'.cell? ⟨w.heap.size, 3, none⟩ = some (.string fd) /\ w'.cell? ⟨w.heap.size, 4, none⟩ = some (.string ft) /\ w'.cell? ⟨w.heap.size, 5, none⟩ = some (.string fc) /\ w'.cell? ⟨w.heap.size, 6, none⟩ = some (.string fs0) /\ w'.cell? ⟨w.heap.size + 1, 0, none⟩ = some (.string cn) /\ w'.cell? ⟨w.heap.size + 1, 1, none⟩ = some (.int .i64 ck) /\ w'.cell? ⟨w.heap.size + 1, 2, none⟩ = some (.int .i64 cw) /\ w'.cell? ⟨w.heap.size + 1, 3, none⟩ = some (.int .i64 cl) /\ w'.cell? ⟨w.heap.size + 1, 4, none⟩ = some (.int .i64 cm) /\ w'.cell? ⟨w.heap.size + 1, 5, none⟩ = some (.bool cr) /\ w'.cell? ⟨w.heap.size + 1, 6, none⟩ = some (.int .u8 ci) /\ w'.cell? ⟨w.heap.size + 1, 7, none⟩ = some (.bool ce)) wx from fun wx h => by
  obtain ⟨⟨p0, p1, p2, p3, p4, p5, p6⟩, -⟩ := obox7 (heap_below hP1 h)
  obtain ⟨⟨x0, x1, x2, x3, x4, x5, x6, x7⟩, -⟩ := obox8 (heap_below hP2 h)
  exact ⟨p0, p1, p2, p3, p4, p5, p6, x0, x1, x2, x3, x4, x5, x6, x7⟩)
 clear hP1 hP2 hB1
 cases V with
 | false =>
  have HE := Lib.hid (show R = false from HE0.out)
  have hT := HSB.out _ (Below.refl _ _).drew
  refine region_till 30 (fun w' : World => w'.cell? ⟨w.heap.size, 0, none⟩ = some (.int .u8 fm) /\ w'.cell? ⟨w.heap.size, 1, none⟩ = some (.int .u8 fq) /\ w'.cell? ⟨w.heap.size, 2, none⟩ = some (.slice A nk cp) /\ w'.cell? ⟨w.heap.size, 3, none⟩ = some (.string fd) /\ w'.cell? ⟨w.heap.size, 4, none⟩ = some (.string ft) /\ w'.cell? ⟨w.heap.size, 5, none⟩ = some (.string fc) /\ w'.cell? ⟨w.heap.size, 6, none⟩ = some (.string fs0) /\ w'.cell? ⟨w.heap.size + 1, 0, none⟩ = some (.string cn) /\ w'.cell? ⟨w.heap.size + 1, 1, none⟩ = some (.int .i64 ck) /\ w'.cell? ⟨w.heap.size + 1, 2, none⟩ = some (.int .i64 cw) /\ w'.cell? ⟨w.heap.size + 1, 3, none⟩ = some (.int .i64 cl) /\ w'.cell? ⟨w.heap.size + 1, 4, none⟩ = some (.int .i64 cm) /\ w'.cell? ⟨w.heap.size + 1, 5, none⟩ = some (.bool cr) /\ w'.cell? ⟨w.heap.size + 1, 6, none⟩ = some (.int .u8 ci) /\ w'.cell? ⟨w.heap.size + 1, 7, none⟩ = some (.bool ce)) (by kernel_rfl) ?_
  refine Till.tk (i := 0) (v := ?_) rfl [2, 3, 7, 13, 29] hT (Or.inl ⟨by kernel_rfl, ?_⟩) ?_
  rotate_left
  ·(intro w' hw'; obtain ⟨u0, u1, u2, u3, u4, u5, u6, u7, u8, u9, u10, u11, u12, u13, u14⟩ := hw'; go_simp; try with_reducible rfl)
  (try simp only [Act.put, Till.a, Till.b, Till.c])
  refine Till.tk (i := 1) (v := ?_) rfl [2, 3, 7, 13, 29] hT (Or.inl ⟨by kernel_rfl, ?_⟩) ?_
  rotate_left
  ·(intro w' hw'; obtain ⟨u0, u1, u2, u3, u4, u5, u6, u7, u8, u9, u10, u11, u12, u13, u14⟩ := hw'; go_simp; try with_reducible rfl)
  (try simp only [Act.put, Till.a, Till.b, Till.c])
  refine Till.step (i := 2) (by kernel_rfl) rfl ?_
  intro K hK
  go_simp
  (go_at_call 88; refine (HIS.out _).mono ?_; rintro _ w3 ⟨rfl, hb3⟩; (have T3 : Below w1.heap.size w1 w3 := ⟨hb3.os, hb3.tape, hb3.output, hb3.size, hb3.block⟩))
  have hT := HSB.out _ T3
  refine hK.out _ _ (fun _ => hT) ?_
  clear hK K
  (try simp only [Act.put, Till.a, Till.b, Till.c])
  refine Till.tk (i := 3) (v := ?_) rfl [7, 13, 29] hT (Or.inl ⟨by kernel_rfl, ?_⟩) ?_
  rotate_left
  ·(intro w' hw'; obtain ⟨u0, u1, u2, u3, u4, u5, u6, u7, u8, u9, u10, u11, u12, u13, u14⟩ := hw'; go_simp; try with_reducible rfl)
  (try simp only [Act.put, Till.a, Till.b, Till.c])
  refine Till.tk (i := 4) (v := undef) rfl [7, 13, 29] hT (Or.inr ⟨by kernel_rfl, rfl⟩) ?_
  (try simp only [Act.put, Till.a, Till.b, Till.c])
  refine Till.tk (i := 5) (v := undef) rfl [7, 13, 29] hT (Or.inr ⟨by kernel_rfl, rfl⟩) ?_
  (try simp only [Act.put, Till.a, Till.b, Till.c])
  refine Till.tk (i := 6) (v := undef) rfl [7, 13, 29] hT (Or.inr ⟨by kernel_rfl, rfl⟩) ?_
  (try simp only [Act.put, Till.a, Till.b, Till.c])
  refine Till.tk (i := 9) (v := undef) rfl [10, 11, 12, 13, 29] hT (Or.inr ⟨by kernel_rfl, rfl⟩) ?_
  (try simp only [Act.put, Till.a, Till.b, Till.c])
  refine Till.tk (i := 10) (v := undef) rfl [11, 12, 13, 29] hT (Or.inr ⟨by kernel_rfl, rfl⟩) ?_
  (try simp only [Act.put, Till.a, Till.b, Till.c])
  refine Till.step (i := 7) (by kernel_rfl) rfl ?_
  intro K hK
  go_simp
  refine hK.out _ _ (fun _ => hT) ?_
  clear hK K
  (try simp only [Act.put, Till.a, Till.b, Till.c])
  refine Till.tk (i := 8) (v := undef) rfl [11, 12, 13, 29] hT (Or.inr ⟨by kernel_rfl, rfl⟩) ?_
  (try simp only [Act.put, Till.a, Till.b, Till.c])
  refine Till.tk (i := 11) (v := undef) rfl [12, 13, 29] hT (Or.inr ⟨by kernel_rfl, rfl⟩) ?_
  (try simp only [Act.put, Till.a, Till.b, Till.c])
  refine Till.tk (i := 12) (v := ?_) rfl [13, 29] hT (Or.inl ⟨by kernel_rfl, ?_⟩) ?_
  rotate_left
  ·(intro w' hw'; obtain ⟨u0, u1, u2, u3, u4, u5, u6, u7, u8, u9, u10, u11, u12, u13, u14⟩ := hw'; go_simp; try with_reducible rfl)
  (try simp only [Act.put, Till.a, Till.b, Till.c])
  refine Till.tk (i := 13) (v := ?_) rfl [29] hT (Or.inl ⟨by kernel_rfl, ?_⟩) ?_
  rotate_left
  ·(intro w' hw'; obtain ⟨u0, u1, u2, u3, u4, u5, u6, u7, u8, u9, u10, u11, u12, u13, u14⟩ := hw'; go_simp; try with_reducible rfl)
  (try simp only [Act.put, Till.a, Till.b, Till.c])
  refine Till.tk (i := 14) (v := undef) rfl [15, 16, 17, 22, 26] hT (Or.inr ⟨by kernel_rfl, rfl⟩) ?_
  (try simp only [Act.put, Till.a, Till.b, Till.c])
  refine Till.tk (i := 15) (v := undef) rfl [16, 17, 22, 26] hT (Or.inr ⟨by kernel_rfl, rfl⟩) ?_
  (try simp only [Act.put, Till.a, Till.b, Till.c])
  refine Till.tk (i := 16) (v := undef) rfl [17, 22, 26] hT (Or.inr ⟨by kernel_rfl, rfl⟩) ?_
  (try simp only [Act.put, Till.a, Till.b, Till.c])
  refine Till.tk (i := 17) (v := undef) rfl [22, 26] hT (Or.inr ⟨by kernel_rfl, rfl⟩) ?_
  (try simp only [Act.put, Till.a, Till.b, Till.c])
  refine Till.tk (i := 18) (v := undef) rfl [19, 20, 21, 22, 26] hT (Or.inr ⟨by kernel_rfl, rfl⟩) ?_
  (try simp only [Act.put, Till.a, Till.b, Till.c])
  refine Till.tk (i := 19) (v := undef) rfl [20, 21, 22, 26] hT (Or.inr ⟨by kernel_rfl, rfl⟩) ?_
  (try simp only [Act.put, Till.a, Till.b, Till.c])
  refine Till.tk (i := 20) (v := undef) rfl [21, 22, 26] hT (Or.inr ⟨by kernel_rfl, rfl⟩) ?_
  (try simp only [Act.put, Till.a, Till.b, Till.c])
  refine Till.tk (i := 21) (v := undef) rfl [22, 26] hT (Or.inr ⟨by kernel_rfl, rfl⟩) ?_
  (try simp only [Act.put, Till.a, Till.b, Till.c])
  refine Till.tk (i := 22) (v := undef) rfl [26] hT (Or.inr ⟨by kernel_rfl, rfl⟩) ?_
  (try simp only [Act.put, Till.a, Till.b, Till.c])
  refine Till.tk (i := 23) (v := undef) rfl [26] hT (Or.inr ⟨by kernel_rfl, rfl⟩) ?_
  (try simp only [Act.put, Till.a, Till.b, Till.c])
  refine Till.tk (i := 24) (v := undef) rfl [25, 26] hT (Or.inr ⟨by kernel_rfl, rfl⟩) ?_
  (try simp only [Act.put, Till.a, Till.b, Till.c])
  refine Till.tk (i := 25) (v := undef) rfl [26] hT (Or.inr ⟨by kernel_rfl, rfl⟩) ?_
  (try simp only [Act.put, Till.a, Till.b, Till.c])
  refine Till.step (i := 26) (by kernel_rfl) rfl ?_
  intro K hK
  go_simp
  refine hK.out _ _ (fun _ => hT) ?_
  clear hK K
  (try simp only [Act.put, Till.a, Till.b, Till.c])
  refine Till.tk (i := 27) (v := undef) rfl [28, 29] hT (Or.inr ⟨by kernel_rfl, rfl⟩) ?_
  (try simp only [Act.put, Till.a, Till.b, Till.c])
  refine Till.tk (i := 28) (v := undef) rfl [29] hT (Or.inr ⟨by kernel_rfl, rfl⟩) ?_
  (try simp only [Act.put, Till.a, Till.b, Till.c])
  refine Till.tk (i := 29) (v := ?_) rfl [] hT (Or.inl ⟨by kernel_rfl, ?_⟩) ?_
  rotate_left
  ·(intro w' hw'; obtain ⟨u0, u1, u2, u3, u4, u5, u6, u7, u8, u9, u10, u11, u12, u13, u14⟩ := hw'; go_simp; try with_reducible rfl)
  (try simp only [Act.put, Till.a, Till.b, Till.c])
  refine Till.step (i := 30) (by kernel_rfl) rfl ?_
  intro K hK
  go_simp
  refine hK.out _ _ (fun h => absurd h (by decide)) ?_
  clear hK K
  (try simp only [Act.put, Till.a, Till.b, Till.c])
  refine Till.done (by kernel_rfl) ?_ _
  go_wp2
  go_ret
  exact ⟨by rw [HE.out]; rfl, below_then T3 HB1.out HB1.out.size⟩
 | true =>
  have HE1 := Lib.hid (show R = (decide ((S.size : Int) <= cw) && (decide (fm = 0) || (decide (fq ≠ 0) || decide (I < 0)))) from HE0.out)
  clear HE0
  by_cases h1 : (S.size : Int) <= cw
  case neg =>
   have HE := Lib.hid (show R = false by rw [HE1.out, decide_eq_false h1]; rfl)
   have g1 : decide ((S.size : Int) <= cw) = false := decide_eq_false h1
   clear h1
   have hT := HSB.out _ (Below.refl _ _).drew
   refine region_till 30 (fun w' : World => w'.cell? ⟨w.heap.size, 0, none⟩ = some (.int .u8 fm) /\ w'.cell? ⟨w.heap.size, 1, none⟩ = some (.int .u8 fq) /\ w'.cell? ⟨w.heap.size, 2, none⟩ = some (.slice A nk cp) /\ w'.cell? ⟨w.heap.size, 3, none⟩ = some (.string fd) /\ w'.cell? ⟨w.heap.size, 4, none⟩ = some (.string ft) /\ w'.cell? ⟨w.heap.size, 5, none⟩ = some (.string fc) /\ w'.cell? ⟨w.heap.size, 6, none⟩ = some (.string fs0) /\ w'.cell? ⟨w.heap.size + 1, 0, none⟩ = some (.string cn) /\ w'.cell? ⟨w.heap.size + 1, 1, none⟩ = some (.int .i64 ck) /\ w'.cell? ⟨w.heap.size + 1, 2, none⟩ = some (.int .i64 cw) /\ w'.cell? ⟨w.heap.size + 1, 3, none⟩ = some (.int .i64 cl) /\ w'.cell? ⟨w.heap.size + 1, 4, none⟩ = some (.int .i64 cm) /\ w'.cell? ⟨w.heap.size + 1, 5, none⟩ = some (.bool cr) /\ w'.cell? ⟨w.heap.size + 1, 6, none⟩ = some (.int .u8 ci) /\ w'.cell? ⟨w.heap.size + 1, 7, none⟩ = some (.bool ce)) (by kernel_rfl) ?_
   refine Till.tk (i := 0) (v := ?_) rfl [2, 3, 7, 13, 29] hT (Or.inl ⟨by kernel_rfl, ?_⟩) ?_
   rotate_left
   ·(intro w' hw'; obtain ⟨u0, u1, u2, u3, u4, u5, u6, u7, u8, u9, u10, u11, u12, u13, u14⟩ := hw'; go_simp; try with_reducible rfl)
   (try simp only [Act.put, Till.a, Till.b, Till.c])
   refine Till.tk (i := 1) (v := ?_) rfl [2, 3, 7, 13, 29] hT (Or.inl ⟨by kernel_rfl, ?_⟩) ?_
   rotate_left
   ·(intro w' hw'; obtain ⟨u0, u1, u2, u3, u4, u5, u6, u7, u8, u9, u10, u11, u12, u13, u14⟩ := hw'; go_simp; try with_reducible rfl)
   (try simp only [Act.put, Till.a, Till.b, Till.c])
   refine Till.step (i := 2) (by kernel_rfl) rfl ?_
   intro K hK
   go_simp
   (go_at_call 88; refine (HIS.out _).mono ?_; rintro _ w3 ⟨rfl, hb3⟩; (have T3 : Below w1.heap.size w1 w3 := ⟨hb3.os, hb3.tape, hb3.output, hb3.size, hb3.block⟩))
   have hT := HSB.out _ T3
   refine hK.out _ _ (fun _ => hT) ?_
   clear hK K
   (try simp only [Act.put, Till.a, Till.b, Till.c])
   refine Till.tk (i := 3) (v := ?_) rfl [7, 13, 29] hT (Or.inl ⟨by kernel_rfl, ?_⟩) ?_
   rotate_left
   ·(intro w' hw'; obtain ⟨u0, u1, u2, u3, u4, u5, u6, u7, u8, u9, u10, u11, u12, u13, u14⟩ := hw'; go_simp; try with_reducible rfl)
   (try simp only [Act.put, Till.a, Till.b, Till.c])
   refine Till.tk (i := 4) (v := ?_) rfl [7, 13, 29] hT (Or.inl ⟨by kernel_rfl, ?_⟩) ?_
   rotate_left
   ·(intro w' hw'; obtain ⟨u0, u1, u2, u3, u4, u5, u6, u7, u8, u9, u10, u11, u12, u13, u14⟩ := hw'; go_simp; try with_reducible rfl)
   (try simp only [Act.put, Till.a, Till.b, Till.c])
   refine Till.tk (i := 5) (v := ?_) rfl [7, 13, 29] hT (Or.inl ⟨by kernel_rfl, ?_⟩) ?_
   rotate_left
   ·(intro w' hw'; obtain ⟨u0, u1, u2, u3, u4, u5, u6, u7, u8, u9, u10, u11, u12, u13, u14⟩ := hw'; go_simp; try with_reducible rfl)
   (try simp only [Act.put, Till.a, Till.b, Till.c])
   refine Till.tk (i := 6) (v := ?_) rfl [7, 13, 29] hT (Or.inl ⟨by kernel_rfl, ?_⟩) ?_
   rotate_left
   ·(intro w' hw'; obtain ⟨u0, u1, u2, u3, u4, u5, u6, u7, u8, u9, u10, u11, u12, u13, u14⟩ := hw'; go_simp; try with_reducible rfl)
   (try simp only [Act.put, Till.a, Till.b, Till.c])
   refine Till.tk (i := 9) (v := ?_) rfl [10, 11, 12, 13, 29] hT (Or.inl ⟨by kernel_rfl, ?_⟩) ?_
   rotate_left
   ·(intro w' hw'; obtain ⟨u0, u1, u2, u3, u4, u5, u6, u7, u8, u9, u10, u11, u12, u13, u14⟩ := hw'; go_simp; try with_reducible rfl)
   (try simp only [Act.put, Till.a, Till.b, Till.c])
   refine Till.tk (i := 10) (v := ?_) rfl [11, 12, 13, 29] hT (Or.inl ⟨by kernel_rfl, ?_⟩) ?_
   rotate_left
   ·(intro w' hw'; obtain ⟨u0, u1, u2, u3, u4, u5, u6, u7, u8, u9, u10, u11, u12, u13, u14⟩ := hw'; go_simp; try with_reducible rfl)
   (try simp only [Act.put, Till.a, Till.b, Till.c])
   refine Till.step (i := 7) (by kernel_rfl) rfl ?_
   intro K hK
   go_simp
   (go_at_call 89; refine (HWR.out rfl _ (HTB.out.below T3)).mono ?_; rintro _ w4 ⟨rfl, hb4⟩; (have T4 : Below w1.heap.size w1 w4 := below_then hb4 T3 T3.size))
   have hT := HSB.out _ T4
   refine hK.out _ _ (fun _ => hT) ?_
   clear hK K
   (try simp only [Act.put, Till.a, Till.b, Till.c])
   refine Till.tk (i := 8) (v := ?_) rfl [11, 12, 13, 29] hT (Or.inl ⟨by kernel_rfl, ?_⟩) ?_
   rotate_left
   ·(intro w' hw'; obtain ⟨u0, u1, u2, u3, u4, u5, u6, u7, u8, u9, u10, u11, u12, u13, u14⟩ := hw'; go_simp; try with_reducible rfl)
   (try simp only [Act.put, Till.a, Till.b, Till.c])
   refine Till.tk (i := 11) (v := ?_) rfl [12, 13, 29] hT (Or.inl ⟨by kernel_rfl, ?_⟩) ?_
   rotate_left
   ·(intro w' hw'; obtain ⟨u0, u1, u2, u3, u4, u5, u6, u7, u8, u9, u10, u11, u12, u13, u14⟩ := hw'; go_simp; try with_reducible rfl)
   (try simp only [Act.put, Till.a, Till.b, Till.c])
   refine Till.tk (i := 12) (v := ?_) rfl [13, 29] hT (Or.inl ⟨by kernel_rfl, ?_⟩) ?_
   rotate_left
   ·(intro w' hw'; obtain ⟨u0, u1, u2, u3, u4, u5, u6, u7, u8, u9, u10, u11, u12, u13, u14⟩ := hw'; go_simp; try with_reducible rfl)
   (try simp only [Act.put, Till.a, Till.b, Till.c])
   refine Till.tk (i := 13) (v := ?_) rfl [29] hT (Or.inl ⟨by kernel_rfl, ?_⟩) ?_
   rotate_left
   ·(intro w' hw'; obtain ⟨u0, u1, u2, u3, u4, u5, u6, u7, u8, u9, u10, u11, u12, u13, u14⟩ := hw'; go_simp; try with_reducible rfl)
   (try simp only [Act.put, Till.a, Till.b, Till.c])
   refine Till.tk (i := 14) (v := undef) rfl [15, 16, 17, 22, 26] hT (Or.inr ⟨by kernel_rfl, rfl⟩) ?_
   (try simp only [Act.put, Till.a, Till.b, Till.c])
   refine Till.tk (i := 15) (v := undef) rfl [16, 17, 22, 26] hT (Or.inr ⟨by kernel_rfl, rfl⟩) ?_
   (try simp only [Act.put, Till.a, Till.b, Till.c])
   refine Till.tk (i := 16) (v := undef) rfl [17, 22, 26] hT (Or.inr ⟨by kernel_rfl, rfl⟩) ?_
   (try simp only [Act.put, Till.a, Till.b, Till.c])
   refine Till.tk (i := 17) (v := undef) rfl [22, 26] hT (Or.inr ⟨by kernel_rfl, rfl⟩) ?_
   (try simp only [Act.put, Till.a, Till.b, Till.c])
   refine Till.tk (i := 18) (v := undef) rfl [19, 20, 21, 22, 26] hT (Or.inr ⟨by kernel_rfl, rfl⟩) ?_
   (try simp only [Act.put, Till.a, Till.b, Till.c])
   refine Till.tk (i := 19) (v := undef) rfl [20, 21, 22, 26] hT (Or.inr ⟨by kernel_rfl, rfl⟩) ?_
   (try simp only [Act.put, Till.a, Till.b, Till.c])
   refine Till.tk (i := 20) (v := undef) rfl [21, 22, 26] hT (Or.inr ⟨by kernel_rfl, rfl⟩) ?_
   (try simp only [Act.put, Till.a, Till.b, Till.c])
   refine Till.tk (i := 21) (v := undef) rfl [22, 26] hT (Or.inr ⟨by kernel_rfl, rfl⟩) ?_
   (try simp only [Act.put, Till.a, Till.b, Till.c])
   refine Till.tk (i := 22) (v := undef) rfl [26] hT (Or.inr ⟨by kernel_rfl, rfl⟩) ?_
   (try simp only [Act.put, Till.a, Till.b, Till.c])
   refine Till.tk (i := 23) (v := undef) rfl [26] hT (Or.inr ⟨by kernel_rfl, rfl⟩) ?_
   (try simp only [Act.put, Till.a, Till.b, Till.c])
   refine Till.tk (i := 24) (v := undef) rfl [25, 26] hT (Or.inr ⟨by kernel_rfl, rfl⟩) ?_
   (try simp only [Act.put, Till.a, Till.b, Till.c])
   refine Till.tk (i := 25) (v := undef) rfl [26] hT (Or.inr ⟨by kernel_rfl, rfl⟩) ?_
   (try simp only [Act.put, Till.a, Till.b, Till.c])
   refine Till.step (i := 26) (by kernel_rfl) rfl ?_
   intro K hK
   go_simp
   refine hK.out _ _ (fun _ => hT) ?_
   clear hK K
   (try simp only [Act.put, Till.a, Till.b, Till.c])
   refine Till.tk (i := 27) (v := undef) rfl [28, 29] hT (Or.inr ⟨by kernel_rfl, rfl⟩) ?_
   (try simp only [Act.put, Till.a, Till.b, Till.c])
   refine Till.tk (i := 28) (v := undef) rfl [29] hT (Or.inr ⟨by kernel_rfl, rfl⟩) ?_
   (try simp only [Act.put, Till.a, Till.b, Till.c])
   refine Till.tk (i := 29) (v := ?_) rfl [] hT (Or.inl ⟨by kernel_rfl, ?_⟩) ?_
   rotate_left
   ·(intro w' hw'; obtain ⟨u0, u1, u2, u3, u4, u5, u6, u7, u8, u9, u10, u11, u12, u13, u14⟩ := hw'; go_simp; try with_reducible rfl)
   (try simp only [Act.put, Till.a, Till.b, Till.c])
   refine Till.step (i := 30) (by kernel_rfl) rfl ?_
   intro K hK
   go_simp
   refine hK.out _ _ (fun h => absurd h (by decide)) ?_
   clear hK K
   (try simp only [Act.put, Till.a, Till.b, Till.c])
   refine Till.done (by kernel_rfl) ?_ _
   go_wp2
   go_ret
   exact ⟨by rw [HE.out]; rfl, below_then T4 HB1.out HB1.out.size⟩
  have HE2 := Lib.hid (show R = (decide (fm = 0) || (decide (fq ≠ 0) || decide (I < 0))) by rw [HE1.out, decide_eq_true h1]; rfl)
  have g1 : decide ((S.size : Int) <= cw) = true := decide_eq_true h1
  clear h1 HE1
  by_cases h2 : fm = 0
  ·have HE := Lib.hid (show R = true by rw [HE2.out, decide_eq_true h2]; rfl)
   have g2 : (fm == 0) = true := by simpa using h2
   clear h2
   have hT := HSB.out _ (Below.refl _ _).drew
   refine region_till 30 (fun w' : World => w'.cell? ⟨w.heap.size, 0, none⟩ = some (.int .u8 fm) /\ w'.cell? ⟨w.heap.size, 1, none⟩ = some (.int .u8 fq) /\ w'.cell? ⟨w.heap.size, 2, none⟩ = some (.slice A nk cp) /\ w'.cell? ⟨w.heap.size, 3, none⟩ = some (.string fd) /\ w'.cell? ⟨w.heap.size, 4, none⟩ = some (.string ft) /\ w'.cell? ⟨w.heap.size, 5, none⟩ = some (.string fc) /\ w'.cell? ⟨w.heap.size, 6, none⟩ = some (.string fs0) /\ w'.cell? ⟨w.heap.size + 1, 0, none⟩ = some (.string cn) /\ w'.cell? ⟨w.heap.size + 1, 1, none⟩ = some (.int .i64 ck) /\ w'.cell? ⟨w.heap.size + 1, 2, none⟩ = some (.int .i64 cw) /\ w'.cell? ⟨w.heap.size + 1, 3, none⟩ = some (.int .i64 cl) /\ w'.cell? ⟨w.heap.size + 1, 4, none⟩ = some (.int .i64 cm) /\ w'.cell? ⟨w.heap.size + 1, 5, none⟩ = some (.bool cr) /\ w'.cell? ⟨w.heap.size + 1, 6, none⟩ = some (.int .u8 ci) /\ w'.cell? ⟨w.heap.size + 1, 7, none⟩ = some (.bool ce)) (by kernel_rfl) ?_
   refine Till.tk (i := 0) (v := ?_) rfl [2, 3, 7, 13, 29] hT (Or.inl ⟨by kernel_rfl, ?_⟩) ?_
   rotate_left
   ·(intro w' hw'; obtain ⟨u0, u1, u2, u3, u4, u5, u6, u7, u8, u9, u10, u11, u12, u13, u14⟩ := hw'; go_simp; try with_reducible rfl)
   (try simp only [Act.put, Till.a, Till.b, Till.c])
   refine Till.tk (i := 1) (v := ?_) rfl [2, 3, 7, 13, 29] hT (Or.inl ⟨by kernel_rfl, ?_⟩) ?_
   rotate_left
   ·(intro w' hw'; obtain ⟨u0, u1, u2, u3, u4, u5, u6, u7, u8, u9, u10, u11, u12, u13, u14⟩ := hw'; go_simp; try with_reducible rfl)
   (try simp only [Act.put, Till.a, Till.b, Till.c])
   refine Till.step (i := 2) (by kernel_rfl) rfl ?_
   intro K hK
   go_simp
   (go_at_call 88; refine (HIS.out _).mono ?_; rintro _ w3 ⟨rfl, hb3⟩; (have T3 : Below w1.heap.size w1 w3 := ⟨hb3.os, hb3.tape, hb3.output, hb3.size, hb3.block⟩))
   have hT := HSB.out _ T3
   refine hK.out _ _ (fun _ => hT) ?_
   clear hK K
   (try simp only [Act.put, Till.a, Till.b, Till.c])
   refine Till.tk (i := 3) (v := ?_) rfl [7, 13, 29] hT (Or.inl ⟨by kernel_rfl, ?_⟩) ?_
   rotate_left
   ·(intro w' hw'; obtain ⟨u0, u1, u2, u3, u4, u5, u6, u7, u8, u9, u10, u11, u12, u13, u14⟩ := hw'; go_simp; try with_reducible rfl)
   (try simp only [Act.put, Till.a, Till.b, Till.c])
   refine Till.tk (i := 4) (v := ?_) rfl [7, 13, 29] hT (Or.inl ⟨by kernel_rfl, ?_⟩) ?_
   rotate_left
   ·(intro w' hw'; obtain ⟨u0, u1, u2, u3, u4, u5, u6, u7, u8, u9, u10, u11, u12, u13, u14⟩ := hw'; go_simp; try with_reducible rfl)
   (try simp only [Act.put, Till.a, Till.b, Till.c])
   refine Till.tk (i := 5) (v := ?_) rfl [7, 13, 29] hT (Or.inl ⟨by kernel_rfl, ?_⟩) ?_
   rotate_left
   ·(intro w' hw'; obtain ⟨u0, u1, u2, u3, u4, u5, u6, u7, u8, u9, u10, u11, u12, u13, u14⟩ := hw'; go_simp; try with_reducible rfl)
   (try simp only [Act.put, Till.a, Till.b, Till.c])
   refine Till.tk (i := 6) (v := ?_) rfl [7, 13, 29] hT (Or.inl ⟨by kernel_rfl, ?_⟩) ?_
   rotate_left
   ·(intro w' hw'; obtain ⟨u0, u1, u2, u3, u4, u5, u6, u7, u8, u9, u10, u11, u12, u13, u14⟩ := hw'; go_simp; try with_reducible rfl)
   (try simp only [Act.put, Till.a, Till.b, Till.c])
   refine Till.tk (i := 9) (v := ?_) rfl [10, 11, 12, 13, 29] hT (Or.inl ⟨by kernel_rfl, ?_⟩) ?_
   rotate_left
   ·(intro w' hw'; obtain ⟨u0, u1, u2, u3, u4, u5, u6, u7, u8, u9, u10, u11, u12, u13, u14⟩ := hw'; go_simp; try with_reducible rfl)
   (try simp only [Act.put, Till.a, Till.b, Till.c])
   refine Till.tk (i := 10) (v := ?_) rfl [11, 12, 13, 29] hT (Or.inl ⟨by kernel_rfl, ?_⟩) ?_
   rotate_left
   ·(intro w' hw'; obtain ⟨u0, u1, u2, u3, u4, u5, u6, u7, u8, u9, u10, u11, u12, u13, u14⟩ := hw'; go_simp; try with_reducible rfl)
   (try simp only [Act.put, Till.a, Till.b, Till.c])
   refine Till.step (i := 7) (by kernel_rfl) rfl ?_
   intro K hK
   go_simp
   (go_at_call 89; refine (HWR.out rfl _ (HTB.out.below T3)).mono ?_; rintro _ w4 ⟨rfl, hb4⟩; (have T4 : Below w1.heap.size w1 w4 := below_then hb4 T3 T3.size))
   have hT := HSB.out _ T4
   refine hK.out _ _ (fun _ => hT) ?_
   clear hK K
   (try simp only [Act.put, Till.a, Till.b, Till.c])
   refine Till.tk (i := 8) (v := ?_) rfl [11, 12, 13, 29] hT (Or.inl ⟨by kernel_rfl, ?_⟩) ?_
   rotate_left
   ·(intro w' hw'; obtain ⟨u0, u1, u2, u3, u4, u5, u6, u7, u8, u9, u10, u11, u12, u13, u14⟩ := hw'; go_simp; try with_reducible rfl)
   (try simp only [Act.put, Till.a, Till.b, Till.c])
   refine Till.tk (i := 11) (v := ?_) rfl [12, 13, 29] hT (Or.inl ⟨by kernel_rfl, ?_⟩) ?_
   rotate_left
   ·(intro w' hw'; obtain ⟨u0, u1, u2, u3, u4, u5, u6, u7, u8, u9, u10, u11, u12, u13, u14⟩ := hw'; go_simp; try with_reducible rfl)
   (try simp only [Act.put, Till.a, Till.b, Till.c])
   refine Till.tk (i := 12) (v := ?_) rfl [13, 29] hT (Or.inl ⟨by kernel_rfl, ?_⟩) ?_
   rotate_left
   ·(intro w' hw'; obtain ⟨u0, u1, u2, u3, u4, u5, u6, u7, u8, u9, u10, u11, u12, u13, u14⟩ := hw'; go_simp; try with_reducible rfl)
   (try simp only [Act.put, Till.a, Till.b, Till.c])
   refine Till.tk (i := 13) (v := ?_) rfl [29] hT (Or.inl ⟨by kernel_rfl, ?_⟩) ?_
   rotate_left
   ·(intro w' hw'; obtain ⟨u0, u1, u2, u3, u4, u5, u6, u7, u8, u9, u10, u11, u12, u13, u14⟩ := hw'; go_simp; try with_reducible rfl)
   (try simp only [Act.put, Till.a, Till.b, Till.c])
   refine Till.tk (i := 14) (v := ?_) rfl [15, 16, 17, 22, 26] hT (Or.inl ⟨by kernel_rfl, ?_⟩) ?_
   rotate_left
   ·(intro w' hw'; obtain ⟨u0, u1, u2, u3, u4, u5, u6, u7, u8, u9, u10, u11, u12, u13, u14⟩ := hw'; go_simp; try with_reducible rfl)
   (try simp only [Act.put, Till.a, Till.b, Till.c])
   refine Till.tk (i := 15) (v := ?_) rfl [16, 17, 22, 26] hT (Or.inl ⟨by kernel_rfl, ?_⟩) ?_
   rotate_left
   ·(intro w' hw'; obtain ⟨u0, u1, u2, u3, u4, u5, u6, u7, u8, u9, u10, u11, u12, u13, u14⟩ := hw'; go_simp; try with_reducible rfl)
   (try simp only [Act.put, Till.a, Till.b, Till.c])
   refine Till.tk (i := 16) (v := ?_) rfl [17, 22, 26] hT (Or.inl ⟨by kernel_rfl, ?_⟩) ?_
   rotate_left
   ·(intro w' hw'; obtain ⟨u0, u1, u2, u3, u4, u5, u6, u7, u8, u9, u10, u11, u12, u13, u14⟩ := hw'; go_simp; try with_reducible rfl)
   (try simp only [Act.put, Till.a, Till.b, Till.c])
   refine Till.tk (i := 17) (v := ?_) rfl [22, 26] hT (Or.inl ⟨by kernel_rfl, ?_⟩) ?_
   rotate_left
   ·(intro w' hw'; obtain ⟨u0, u1, u2, u3, u4, u5, u6, u7, u8, u9, u10, u11, u12, u13, u14⟩ := hw'; go_simp; try with_reducible rfl)
   (try simp only [Act.put, Till.a, Till.b, Till.c])
   refine Till.tk (i := 18) (v := undef) rfl [19, 20, 21, 22, 26] hT (Or.inr ⟨by kernel_rfl, rfl⟩) ?_
   (try simp only [Act.put, Till.a, Till.b, Till.c])
   refine Till.tk (i := 19) (v := undef) rfl [20, 21, 22, 26] hT (Or.inr ⟨by kernel_rfl, rfl⟩) ?_
   (try simp only [Act.put, Till.a, Till.b, Till.c])
   refine Till.tk (i := 20) (v := undef) rfl [21, 22, 26] hT (Or.inr ⟨by kernel_rfl, rfl⟩) ?_
   (try simp only [Act.put, Till.a, Till.b, Till.c])
   refine Till.tk (i := 21) (v := ?_) rfl [22, 26] hT (Or.inl ⟨by kernel_rfl, ?_⟩) ?_
   rotate_left
   ·(intro w' hw'; obtain ⟨u0, u1, u2, u3, u4, u5, u6, u7, u8, u9, u10, u11, u12, u13, u14⟩ := hw'; go_simp; try with_reducible rfl)
   (try simp only [Act.put, Till.a, Till.b, Till.c])
   refine Till.tk (i := 22) (v := ?_) rfl [26] hT (Or.inl ⟨by kernel_rfl, ?_⟩) ?_
   rotate_left
   ·(intro w' hw'; obtain ⟨u0, u1, u2, u3, u4, u5, u6, u7, u8, u9, u10, u11, u12, u13, u14⟩ := hw'; go_simp; try with_reducible rfl)
   (try simp only [Act.put, Till.a, Till.b, Till.c])
   refine Till.tk (i := 23) (v := undef) rfl [26] hT (Or.inr ⟨by kernel_rfl, rfl⟩) ?_
   (try simp only [Act.put, Till.a, Till.b, Till.c])
   refine Till.tk (i := 24) (v := undef) rfl [25, 26] hT (Or.inr ⟨by kernel_rfl, rfl⟩) ?_
   (try simp only [Act.put, Till.a, Till.b, Till.c])
   refine Till.tk (i := 25) (v := undef) rfl [26] hT (Or.inr ⟨by kernel_rfl, rfl⟩) ?_
   (try simp only [Act.put, Till.a, Till.b, Till.c])
   refine Till.step (i := 26) (by kernel_rfl) rfl ?_
   intro K hK
   go_simp
   refine hK.out _ _ (fun _ => hT) ?_
   clear hK K
   (try simp only [Act.put, Till.a, Till.b, Till.c])
   refine Till.tk (i := 27) (v := undef) rfl [28, 29] hT (Or.inr ⟨by kernel_rfl, rfl⟩) ?_
   (try simp only [Act.put, Till.a, Till.b, Till.c])
   refine Till.tk (i := 28) (v := ?_) rfl [29] hT (Or.inl ⟨by kernel_rfl, ?_⟩) ?_
   rotate_left
   ·(intro w' hw'; obtain ⟨u0, u1, u2, u3, u4, u5, u6, u7, u8, u9, u10, u11, u12, u13, u14⟩ := hw'; go_simp; try with_reducible rfl)
   (try simp only [Act.put, Till.a, Till.b, Till.c])
   refine Till.tk (i := 29) (v := ?_) rfl [] hT (Or.inl ⟨by kernel_rfl, ?_⟩) ?_
   rotate_left
   ·(intro w' hw'; obtain ⟨u0, u1, u2, u3, u4, u5, u6, u7, u8, u9, u10, u11, u12, u13, u14⟩ := hw'; go_simp; try with_reducible rfl)
   (try simp only [Act.put, Till.a, Till.b, Till.c])
   refine Till.step (i := 30) (by kernel_rfl) rfl ?_
   intro K hK
   go_simp
   refine hK.out _ _ (fun h => absurd h (by decide)) ?_
   clear hK K
   (try simp only [Act.put, Till.a, Till.b, Till.c])
   refine Till.done (by kernel_rfl) ?_ _
   go_wp2
   go_ret
   exact ⟨by rw [HE.out]; rfl, below_then T4 HB1.out HB1.out.size⟩
  have HE3 := Lib.hid (show R = (decide (fq ≠ 0) || decide (I < 0)) by rw [HE2.out, decide_eq_false h2]; rfl)
  have g2 : (fm == 0) = false := by simpa using h2
  clear h2 HE2
  by_cases h3 : fq = 0
  case neg =>
   have HE := Lib.hid (show R = true by rw [HE3.out, decide_eq_true h3]; rfl)
   have g3 : (fq != 0) = true := by simpa using h3
   clear h3
   have hT := HSB.out _ (Below.refl _ _).drew
   refine region_till 30 (fun w' : World => w'.cell? ⟨w.heap.size, 0, none⟩ = some (.int .u8 fm) /\ w'.cell? ⟨w.heap.size, 1, none⟩ = some (.int .u8 fq) /\ w'.cell? ⟨w.heap.size, 2, none⟩ = some (.slice A nk cp) /\ w'.cell? ⟨w.heap.size, 3, none⟩ = some (.string fd) /\ w'.cell? ⟨w.heap.size, 4, none⟩ = some (.string ft) /\ w'.cell? ⟨w.heap.size, 5, none⟩ = some (.string fc) /\ w'.cell? ⟨w.heap.size, 6, none⟩ = some (.string fs0) /\ w'.cell? ⟨w.heap.size + 1, 0, none⟩ = some (.string cn) /\ w'.cell? ⟨w.heap.size + 1, 1, none⟩ = some (.int .i64 ck) /\ w'.cell? ⟨w.heap.size + 1, 2, none⟩ = some (.int .i64 cw) /\ w'.cell? ⟨w.heap.size + 1, 3, none⟩ = some (.int .i64 cl) /\ w'.cell? ⟨w.heap.size + 1, 4, none⟩ = some (.int .i64 cm) /\ w'.cell? ⟨w.heap.size + 1, 5, none⟩ = some (.bool cr) /\ w'.cell? ⟨w.heap.size + 1, 6, none⟩ = some (.int .u8 ci) /\ w'.cell? ⟨w.heap.size + 1, 7, none⟩ = some (.bool ce)) (by kernel_rfl) ?_
   refine Till.tk (i := 0) (v := ?_) rfl [2, 3, 7, 13, 29] hT (Or.inl ⟨by kernel_rfl, ?_⟩) ?_
   rotate_left
   ·(intro w' hw'; obtain ⟨u0, u1, u2, u3, u4, u5, u6, u7, u8, u9, u10, u11, u12, u13, u14⟩ := hw'; go_simp; try with_reducible rfl)
   (try simp only [Act.put, Till.a, Till.b, Till.c])
   refine Till.tk (i := 1) (v := ?_) rfl [2, 3, 7, 13, 29] hT (Or.inl ⟨by kernel_rfl, ?_⟩) ?_
   rotate_left
   ·(intro w' hw'; obtain ⟨u0, u1, u2, u3, u4, u5, u6, u7, u8, u9, u10, u11, u12, u13, u14⟩ := hw'; go_simp; try with_reducible rfl)
   (try simp only [Act.put, Till.a, Till.b, Till.c])
   refine Till.step (i := 2) (by kernel_rfl) rfl ?_
   intro K hK
   go_simp
   (go_at_call 88; refine (HIS.out _).mono ?_; rintro _ w3 ⟨rfl, hb3⟩; (have T3 : Below w1.heap.size w1 w3 := ⟨hb3.os, hb3.tape, hb3.output, hb3.size, hb3.block⟩))
   have hT := HSB.out _ T3
   refine hK.out _ _ (fun _ => hT) ?_
   clear hK K
   (try simp only [Act.put, Till.a, Till.b, Till.c])
   refine Till.tk (i := 3) (v := ?_) rfl [7, 13, 29] hT (Or.inl ⟨by kernel_rfl, ?_⟩) ?_
   rotate_left
   ·(intro w' hw'; obtain ⟨u0, u1, u2, u3, u4, u5, u6, u7, u8, u9, u10, u11, u12, u13, u14⟩ := hw'; go_simp; try with_reducible rfl)
   (try simp only [Act.put, Till.a, Till.b, Till.c])
   refine Till.tk (i := 4) (v := ?_) rfl [7, 13, 29] hT (Or.inl ⟨by kernel_rfl, ?_⟩) ?_
   rotate_left
   ·(intro w' hw'; obtain ⟨u0, u1, u2, u3, u4, u5, u6, u7, u8, u9, u10, u11, u12, u13, u14⟩ := hw'; go_simp; try with_reducible rfl)
   (try simp only [Act.put, Till.a, Till.b, Till.c])
   refine Till.tk (i := 5) (v := ?_) rfl [7, 13, 29] hT (Or.inl ⟨by kernel_rfl, ?_⟩) ?_
   rotate_left
   ·(intro w' hw'; obtain ⟨u0, u1, u2, u3, u4, u5, u6, u7, u8, u9, u10, u11, u12, u13, u14⟩ := hw'; go_simp; try with_reducible rfl)
   (try simp only [Act.put, Till.a, Till.b, Till.c])
   refine Till.tk (i := 6) (v := ?_) rfl [7, 13, 29] hT (Or.inl ⟨by kernel_rfl, ?_⟩) ?_
   rotate_left
   ·(intro w' hw'; obtain ⟨u0, u1, u2, u3, u4, u5, u6, u7, u8, u9, u10, u11, u12, u13, u14⟩ := hw'; go_simp; try with_reducible rfl)
   (try simp only [Act.put, Till.a, Till.b, Till.c])
   refine Till.tk (i := 9) (v := ?_) rfl [10, 11, 12, 13, 29] hT (Or.inl ⟨by kernel_rfl, ?_⟩) ?_
   rotate_left
   ·(intro w' hw'; obtain ⟨u0, u1, u2, u3, u4, u5, u6, u7, u8, u9, u10, u11, u12, u13, u14⟩ := hw'; go_simp; try with_reducible rfl)
   (try simp only [Act.put, Till.a, Till.b, Till.c])
   refine Till.tk (i := 10) (v := ?_) rfl [11, 12, 13, 29] hT (Or.inl ⟨by kernel_rfl, ?_⟩) ?_
   rotate_left
   ·(intro w' hw'; obtain ⟨u0, u1, u2, u3, u4, u5, u6, u7, u8, u9, u10, u11, u12, u13, u14⟩ := hw'; go_simp; try with_reducible rfl)
   (try simp only [Act.put, Till.a, Till.b, Till.c])
   refine Till.step (i := 7) (by kernel_rfl) rfl ?_
   intro K hK
   go_simp
   (go_at_call 89; refine (HWR.out rfl _ (HTB.out.below T3)).mono ?_; rintro _ w4 ⟨rfl, hb4⟩; (have T4 : Below w1.heap.size w1 w4 := below_then hb4 T3 T3.size))
   have hT := HSB.out _ T4
   refine hK.out _ _ (fun _ => hT) ?_
   clear hK K
   (try simp only [Act.put, Till.a, Till.b, Till.c])
   refine Till.tk (i := 8) (v := ?_) rfl [11, 12, 13, 29] hT (Or.inl ⟨by kernel_rfl, ?_⟩) ?_
   rotate_left
   ·(intro w' hw'; obtain ⟨u0, u1, u2, u3, u4, u5, u6, u7, u8, u9, u10, u11, u12, u13, u14⟩ := hw'; go_simp; try with_reducible rfl)
   (try simp only [Act.put, Till.a, Till.b, Till.c])
   refine Till.tk (i := 11) (v := ?_) rfl [12, 13, 29] hT (Or.inl ⟨by kernel_rfl, ?_⟩) ?_
   rotate_left
   ·(intro w' hw'; obtain ⟨u0, u1, u2, u3, u4, u5, u6, u7, u8, u9, u10, u11, u12, u13, u14⟩ := hw'; go_simp; try with_reducible rfl)
   (try simp only [Act.put, Till.a, Till.b, Till.c])
   refine Till.tk (i := 12) (v := ?_) rfl [13, 29] hT (Or.inl ⟨by kernel_rfl, ?_⟩) ?_
   rotate_left
   ·(intro w' hw'; obtain ⟨u0, u1, u2, u3, u4, u5, u6, u7, u8, u9, u10, u11, u12, u13, u14⟩ := hw'; go_simp; try with_reducible rfl)
   (try simp only [Act.put, Till.a, Till.b, Till.c])
   refine Till.tk (i := 13) (v := ?_) rfl [29] hT (Or.inl ⟨by kernel_rfl, ?_⟩) ?_
   rotate_left
   ·(intro w' hw'; obtain ⟨u0, u1, u2, u3, u4, u5, u6, u7, u8, u9, u10, u11, u12, u13, u14⟩ := hw'; go_simp; try with_reducible rfl)
   (try simp only [Act.put, Till.a, Till.b, Till.c])
   refine Till.tk (i := 14) (v := ?_) rfl [15, 16, 17, 22, 26] hT (Or.inl ⟨by kernel_rfl, ?_⟩) ?_
   rotate_left
   ·(intro w' hw'; obtain ⟨u0, u1, u2, u3, u4, u5, u6, u7, u8, u9, u10, u11, u12, u13, u14⟩ := hw'; go_simp; try with_reducible rfl)
   (try simp only [Act.put, Till.a, Till.b, Till.c])
   refine Till.tk (i := 15) (v := ?_) rfl [16, 17, 22, 26] hT (Or.inl ⟨by kernel_rfl, ?_⟩) ?_
   rotate_left
   ·(intro w' hw'; obtain ⟨u0, u1, u2, u3, u4, u5, u6, u7, u8, u9, u10, u11, u12, u13, u14⟩ := hw'; go_simp; try with_reducible rfl)
   (try simp only [Act.put, Till.a, Till.b, Till.c])
   refine Till.tk (i := 16) (v := ?_) rfl [17, 22, 26] hT (Or.inl ⟨by kernel_rfl, ?_⟩) ?_
   rotate_left
   ·(intro w' hw'; obtain ⟨u0, u1, u2, u3, u4, u5, u6, u7, u8, u9, u10, u11, u12, u13, u14⟩ := hw'; go_simp; try with_reducible rfl)
   (try simp only [Act.put, Till.a, Till.b, Till.c])
   refine Till.tk (i := 17) (v := ?_) rfl [22, 26] hT (Or.inl ⟨by kernel_rfl, ?_⟩) ?_
   rotate_left
   ·(intro w' hw'; obtain ⟨u0, u1, u2, u3, u4, u5, u6, u7, u8, u9, u10, u11, u12, u13, u14⟩ := hw'; go_simp; try with_reducible rfl)
   (try simp only [Act.put, Till.a, Till.b, Till.c])
   refine Till.tk (i := 18) (v := ?_) rfl [19, 20, 21, 22, 26] hT (Or.inl ⟨by kernel_rfl, ?_⟩) ?_
   rotate_left
   ·(intro w' hw'; obtain ⟨u0, u1, u2, u3, u4, u5, u6, u7, u8, u9, u10, u11, u12, u13, u14⟩ := hw'; go_simp; try with_reducible rfl)
   (try simp only [Act.put, Till.a, Till.b, Till.c])
   refine Till.tk (i := 19) (v := ?_) rfl [20, 21, 22, 26] hT (Or.inl ⟨by kernel_rfl, ?_⟩) ?_
   rotate_left
   ·(intro w' hw'; obtain ⟨u0, u1, u2, u3, u4, u5, u6, u7, u8, u9, u10, u11, u12, u13, u14⟩ := hw'; go_simp; try with_reducible rfl)
   (try simp only [Act.put, Till.a, Till.b, Till.c])
   refine Till.tk (i := 20) (v := ?_) rfl [21, 22, 26] hT (Or.inl ⟨by kernel_rfl, ?_⟩) ?_
   rotate_left
   ·(intro w' hw'; obtain ⟨u0, u1, u2, u3, u4, u5, u6, u7, u8, u9, u10, u11, u12, u13, u14⟩ := hw'; go_simp; try with_reducible rfl)
   (try simp only [Act.put, Till.a, Till.b, Till.c])
   refine Till.tk (i := 21) (v := ?_) rfl [22, 26] hT (Or.inl ⟨by kernel_rfl, ?_⟩) ?_
   rotate_left
   ·(intro w' hw'; obtain ⟨u0, u1, u2, u3, u4, u5, u6, u7, u8, u9, u10, u11, u12, u13, u14⟩ := hw'; go_simp; try with_reducible rfl)
   (try simp only [Act.put, Till.a, Till.b, Till.c])
   refine Till.tk (i := 22) (v := ?_) rfl [26] hT (Or.inl ⟨by kernel_rfl, ?_⟩) ?_
   rotate_left
   ·(intro w' hw'; obtain ⟨u0, u1, u2, u3, u4, u5, u6, u7, u8, u9, u10, u11, u12, u13, u14⟩ := hw'; go_simp; try with_reducible rfl)
   (try simp only [Act.put, Till.a, Till.b, Till.c])
   refine Till.tk (i := 23) (v := undef) rfl [26] hT (Or.inr ⟨by kernel_rfl, rfl⟩) ?_
   (try simp only [Act.put, Till.a, Till.b, Till.c])
   refine Till.tk (i := 24) (v := undef) rfl [25, 26] hT (Or.inr ⟨by kernel_rfl, rfl⟩) ?_
   (try simp only [Act.put, Till.a, Till.b, Till.c])
   refine Till.tk (i := 25) (v := undef) rfl [26] hT (Or.inr ⟨by kernel_rfl, rfl⟩) ?_
   (try simp only [Act.put, Till.a, Till.b, Till.c])
   refine Till.step (i := 26) (by kernel_rfl) rfl ?_
   intro K hK
   go_simp
   refine hK.out _ _ (fun _ => hT) ?_
   clear hK K
   (try simp only [Act.put, Till.a, Till.b, Till.c])
   refine Till.tk (i := 27) (v := undef) rfl [28, 29] hT (Or.inr ⟨by kernel_rfl, rfl⟩) ?_
   (try simp only [Act.put, Till.a, Till.b, Till.c])
   refine Till.tk (i := 28) (v := ?_) rfl [29] hT (Or.inl ⟨by kernel_rfl, ?_⟩) ?_
   rotate_left
   ·(intro w' hw'; obtain ⟨u0, u1, u2, u3, u4, u5, u6, u7, u8, u9, u10, u11, u12, u13, u14⟩ := hw'; go_simp; try with_reducible rfl)
   (try simp only [Act.put, Till.a, Till.b, Till.c])
   refine Till.tk (i := 29) (v := ?_) rfl [] hT (Or.inl ⟨by kernel_rfl, ?_⟩) ?_
   rotate_left
   ·(intro w' hw'; obtain ⟨u0, u1, u2, u3, u4, u5, u6, u7, u8, u9, u10, u11, u12, u13, u14⟩ := hw'; go_simp; try with_reducible rfl)
   (try simp only [Act.put, Till.a, Till.b, Till.c])
   refine Till.step (i := 30) (by kernel_rfl) rfl ?_
   intro K hK
   go_simp
   refine hK.out _ _ (fun h => absurd h (by decide)) ?_
   clear hK K
   (try simp only [Act.put, Till.a, Till.b, Till.c])
   refine Till.done (by kernel_rfl) ?_ _
   go_wp2
   go_ret
   exact ⟨by rw [HE.out]; rfl, below_then T4 HB1.out HB1.out.size⟩
  have HE := Lib.hid (show R = decide (I < 0) by rw [HE3.out, decide_eq_false (fun h => h h3)]; rfl)
  have g3 : (fq != 0) = false := by simpa using h3
  clear h3 HE3
  have hT := HSB.out _ (Below.refl _ _).drew
  refine region_till 30 (fun w' : World => w'.cell? ⟨w.heap.size, 0, none⟩ = some (.int .u8 fm) /\ w'.cell? ⟨w.heap.size, 1, none⟩ = some (.int .u8 fq) /\ w'.cell? ⟨w.heap.size, 2, none⟩ = some (.slice A nk cp) /\ w'.cell? ⟨w.heap.size, 3, none⟩ = some (.string fd) /\ w'.cell? ⟨w.heap.size, 4, none⟩ = some (.string ft) /\ w'.cell? ⟨w.heap.size, 5, none⟩ = some (.string fc) /\ w'.cell? ⟨w.heap.size, 6, none⟩ = some (.string fs0) /\ w'.cell? ⟨w.heap.size + 1, 0, none⟩ = some (.string cn) /\ w'.cell? ⟨w.heap.size + 1, 1, none⟩ = some (.int .i64 ck) /\ w'.cell? ⟨w.heap.size + 1, 2, none⟩ = some (.int .i64 cw) /\ w'.cell? ⟨w.heap.size + 1, 3, none⟩ = some (.int .i64 cl) /\ w'.cell? ⟨w.heap.size + 1, 4, none⟩ = some (.int .i64 cm) /\ w'.cell? ⟨w.heap.size + 1, 5, none⟩ = some (.bool cr) /\ w'.cell? ⟨w.heap.size + 1, 6, none⟩ = some (.int .u8 ci) /\ w'.cell? ⟨w.heap.size + 1, 7, none⟩ = some (.bool ce)) (by kernel_rfl) ?_
  refine Till.tk (i := 0) (v := ?_) rfl [2, 3, 7, 13, 29] hT (Or.inl ⟨by kernel_rfl, ?_⟩) ?_
  rotate_left
  ·(intro w' hw'; obtain ⟨u0, u1, u2, u3, u4, u5, u6, u7, u8, u9, u10, u11, u12, u13, u14⟩ := hw'; go_simp; try with_reducible rfl)
  (try simp only [Act.put, Till.a, Till.b, Till.c])
  refine Till.tk (i := 1) (v := ?_) rfl [2, 3, 7, 13, 29] hT (Or.inl ⟨by kernel_rfl, ?_⟩) ?_
  rotate_left
  ·(intro w' hw'; obtain ⟨u0, u1, u2, u3, u4, u5, u6, u7, u8, u9, u10, u11, u12, u13, u14⟩ := hw'; go_simp; try with_reducible rfl)
  (try simp only [Act.put, Till.a, Till.b, Till.c])
  refine Till.step (i := 2) (by kernel_rfl) rfl ?_
  intro K hK
  go_simp
  (go_at_call 88; refine (HIS.out _).mono ?_; rintro _ w3 ⟨rfl, hb3⟩; (have T3 : Below w1.heap.size w1 w3 := ⟨hb3.os, hb3.tape, hb3.output, hb3.size, hb3.block⟩))
  have hT := HSB.out _ T3
  refine hK.out _ _ (fun _ => hT) ?_
  clear hK K
  (try simp only [Act.put, Till.a, Till.b, Till.c])
  refine Till.tk (i := 3) (v := ?_) rfl [7, 13, 29] hT (Or.inl ⟨by kernel_rfl, ?_⟩) ?_
  rotate_left
  ·(intro w' hw'; obtain ⟨u0, u1, u2, u3, u4, u5, u6, u7, u8, u9, u10, u11, u12, u13, u14⟩ := hw'; go_simp; try with_reducible rfl)
  (try simp only [Act.put, Till.a, Till.b, Till.c])
  refine Till.tk (i := 4) (v := ?_) rfl [7, 13, 29] hT (Or.inl ⟨by kernel_rfl, ?_⟩) ?_
  rotate_left
  ·(intro w' hw'; obtain ⟨u0, u1, u2, u3, u4, u5, u6, u7, u8, u9, u10, u11, u12, u13, u14⟩ := hw'; go_simp; try with_reducible rfl)
  (try simp only [Act.put, Till.a, Till.b, Till.c])
  refine Till.tk (i := 5) (v := ?_) rfl [7, 13, 29] hT (Or.inl ⟨by kernel_rfl, ?_⟩) ?_
  rotate_left
  ·(intro w' hw'; obtain ⟨u0, u1, u2, u3, u4, u5, u6, u7, u8, u9, u10, u11, u12, u13, u14⟩ := hw'; go_simp; try with_reducible rfl)
  (try simp only [Act.put, Till.a, Till.b, Till.c])
  refine Till.tk (i := 6) (v := ?_) rfl [7, 13, 29] hT (Or.inl ⟨by kernel_rfl, ?_⟩) ?_
  rotate_left
  ·(intro w' hw'; obtain ⟨u0, u1, u2, u3, u4, u5, u6, u7, u8, u9, u10, u11, u12, u13, u14⟩ := hw'; go_simp; try with_reducible rfl)
  (try simp only [Act.put, Till.a, Till.b, Till.c])
  refine Till.tk (i := 9) (v := ?_) rfl [10, 11, 12, 13, 29] hT (Or.inl ⟨by kernel_rfl, ?_⟩) ?_
  rotate_left
  ·(intro w' hw'; obtain ⟨u0, u1, u2, u3, u4, u5, u6, u7, u8, u9, u10, u11, u12, u13, u14⟩ := hw'; go_simp; try with_reducible rfl)
  (try simp only [Act.put, Till.a, Till.b, Till.c])
  refine Till.tk (i := 10) (v := ?_) rfl [11, 12, 13, 29] hT (Or.inl ⟨by kernel_rfl, ?_⟩) ?_
  rotate_left
  ·(intro w' hw'; obtain ⟨u0, u1, u2, u3, u4, u5, u6, u7, u8, u9, u10, u11, u12, u13, u14⟩ := hw'; go_simp; try with_reducible rfl)
  (try simp only [Act.put, Till.a, Till.b, Till.c])
  refine Till.step (i := 7) (by kernel_rfl) rfl ?_
  intro K hK
  go_simp
  (go_at_call 89; refine (HWR.out rfl _ (HTB.out.below T3)).mono ?_; rintro _ w4 ⟨rfl, hb4⟩; (have T4 : Below w1.heap.size w1 w4 := below_then hb4 T3 T3.size))
  have hT := HSB.out _ T4
  refine hK.out _ _ (fun _ => hT) ?_
  clear hK K
  (try simp only [Act.put, Till.a, Till.b, Till.c])
  refine Till.tk (i := 8) (v := ?_) rfl [11, 12, 13, 29] hT (Or.inl ⟨by kernel_rfl, ?_⟩) ?_
  rotate_left
  ·(intro w' hw'; obtain ⟨u0, u1, u2, u3, u4, u5, u6, u7, u8, u9, u10, u11, u12, u13, u14⟩ := hw'; go_simp; try with_reducible rfl)
  (try simp only [Act.put, Till.a, Till.b, Till.c])
  refine Till.tk (i := 11) (v := ?_) rfl [12, 13, 29] hT (Or.inl ⟨by kernel_rfl, ?_⟩) ?_
  rotate_left
  ·(intro w' hw'; obtain ⟨u0, u1, u2, u3, u4, u5, u6, u7, u8, u9, u10, u11, u12, u13, u14⟩ := hw'; go_simp; try with_reducible rfl)
  (try simp only [Act.put, Till.a, Till.b, Till.c])
  refine Till.tk (i := 12) (v := ?_) rfl [13, 29] hT (Or.inl ⟨by kernel_rfl, ?_⟩) ?_
  rotate_left
  ·(intro w' hw'; obtain ⟨u0, u1, u2, u3, u4, u5, u6, u7, u8, u9, u10, u11, u12, u13, u14⟩ := hw'; go_simp; try with_reducible rfl)
  (try simp only [Act.put, Till.a, Till.b, Till.c])
  refine Till.tk (i := 13) (v := ?_) rfl [29] hT (Or.inl ⟨by kernel_rfl, ?_⟩) ?_
  rotate_left
  ·(intro w' hw'; obtain ⟨u0, u1, u2, u3, u4, u5, u6, u7, u8, u9, u10, u11, u12, u13, u14⟩ := hw'; go_simp; try with_reducible rfl)
  (try simp only [Act.put, Till.a, Till.b, Till.c])
  refine Till.tk (i := 14) (v := ?_) rfl [15, 16, 17, 22, 26] hT (Or.inl ⟨by kernel_rfl, ?_⟩) ?_
  rotate_left
  ·(intro w' hw'; obtain ⟨u0, u1, u2, u3, u4, u5, u6, u7, u8, u9, u10, u11, u12, u13, u14⟩ := hw'; go_simp; try with_reducible rfl)
  (try simp only [Act.put, Till.a, Till.b, Till.c])
  refine Till.tk (i := 15) (v := ?_) rfl [16, 17, 22, 26] hT (Or.inl ⟨by kernel_rfl, ?_⟩) ?_
  rotate_left
  ·(intro w' hw'; obtain ⟨u0, u1, u2, u3, u4, u5, u6, u7, u8, u9, u10, u11, u12, u13, u14⟩ := hw'; go_simp; try with_reducible rfl)
  (try simp only [Act.put, Till.a, Till.b, Till.c])
  refine Till.tk (i := 16) (v := ?_) rfl [17, 22, 26] hT (Or.inl ⟨by kernel_rfl, ?_⟩) ?_
  rotate_left
  ·(intro w' hw'; obtain ⟨u0, u1, u2, u3, u4, u5, u6, u7, u8, u9, u10, u11, u12, u13, u14⟩ := hw'; go_simp; try with_reducible rfl)
  (try simp only [Act.put, Till.a, Till.b, Till.c])
  refine Till.tk (i := 17) (v := ?_) rfl [22, 26] hT (Or.inl ⟨by kernel_rfl, ?_⟩) ?_
  rotate_left
  ·(intro w' hw'; obtain ⟨u0, u1, u2, u3, u4, u5, u6, u7, u8, u9, u10, u11, u12, u13, u14⟩ := hw'; go_simp; try with_reducible rfl)
  (try simp only [Act.put, Till.a, Till.b, Till.c])
  refine Till.tk (i := 18) (v := ?_) rfl [19, 20, 21, 22, 26] hT (Or.inl ⟨by kernel_rfl, ?_⟩) ?_
  rotate_left
  ·(intro w' hw'; obtain ⟨u0, u1, u2, u3, u4, u5, u6, u7, u8, u9, u10, u11, u12, u13, u14⟩ := hw'; go_simp; try with_reducible rfl)
  (try simp only [Act.put, Till.a, Till.b, Till.c])
  refine Till.tk (i := 19) (v := ?_) rfl [20, 21, 22, 26] hT (Or.inl ⟨by kernel_rfl, ?_⟩) ?_
  rotate_left
  ·(intro w' hw'; obtain ⟨u0, u1, u2, u3, u4, u5, u6, u7, u8, u9, u10, u11, u12, u13, u14⟩ := hw'; go_simp; try with_reducible rfl)
  (try simp only [Act.put, Till.a, Till.b, Till.c])
  refine Till.tk (i := 20) (v := ?_) rfl [21, 22, 26] hT (Or.inl ⟨by kernel_rfl, ?_⟩) ?_
  rotate_left
  ·(intro w' hw'; obtain ⟨u0, u1, u2, u3, u4, u5, u6, u7, u8, u9, u10, u11, u12, u13, u14⟩ := hw'; go_simp; try with_reducible rfl)
  (try simp only [Act.put, Till.a, Till.b, Till.c])
  refine Till.tk (i := 21) (v := ?_) rfl [22, 26] hT (Or.inl ⟨by kernel_rfl, ?_⟩) ?_
  rotate_left
  ·(intro w' hw'; obtain ⟨u0, u1, u2, u3, u4, u5, u6, u7, u8, u9, u10, u11, u12, u13, u14⟩ := hw'; go_simp; try with_reducible rfl)
  (try simp only [Act.put, Till.a, Till.b, Till.c])
  refine Till.tk (i := 22) (v := ?_) rfl [26] hT (Or.inl ⟨by kernel_rfl, ?_⟩) ?_
  rotate_left
  ·(intro w' hw'; obtain ⟨u0, u1, u2, u3, u4, u5, u6, u7, u8, u9, u10, u11, u12, u13, u14⟩ := hw'; go_simp; try with_reducible rfl)
  (try simp only [Act.put, Till.a, Till.b, Till.c])
  refine Till.tk (i := 23) (v := ?_) rfl [26] hT (Or.inl ⟨by kernel_rfl, ?_⟩) ?_
  rotate_left
  ·(intro w' hw'; obtain ⟨u0, u1, u2, u3, u4, u5, u6, u7, u8, u9, u10, u11, u12, u13, u14⟩ := hw'; go_simp; try with_reducible rfl)
  (try simp only [Act.put, Till.a, Till.b, Till.c])
  refine Till.tk (i := 24) (v := ?_) rfl [25, 26] hT (Or.inl ⟨by kernel_rfl, ?_⟩) ?_
  rotate_left
  ·(intro w' hw'; obtain ⟨u0, u1, u2, u3, u4, u5, u6, u7, u8, u9, u10, u11, u12, u13, u14⟩ := hw'; go_simp; try with_reducible rfl)
  (try simp only [Act.put, Till.a, Till.b, Till.c])
  refine Till.tk (i := 25) (v := ?_) rfl [26] hT (Or.inl ⟨by kernel_rfl, ?_⟩) ?_
  rotate_left
  ·(intro w' hw'; obtain ⟨u0, u1, u2, u3, u4, u5, u6, u7, u8, u9, u10, u11, u12, u13, u14⟩ := hw'; go_simp; try with_reducible rfl)
  (try simp only [Act.put, Till.a, Till.b, Till.c])
  refine Till.step (i := 26) (by kernel_rfl) rfl ?_
  intro K hK
  go_simp
  (go_at_call 90; refine (HIX.out _).mono ?_; rintro _ w5 ⟨rfl, hb5⟩; (have T5 : Below w1.heap.size w1 w5 := below_then hb5 T4 T4.size))
  have hT := HSB.out _ T5
  refine hK.out _ _ (fun _ => hT) ?_
  clear hK K
  (try simp only [Act.put, Till.a, Till.b, Till.c])
  refine Till.tk (i := 27) (v := ?_) rfl [28, 29] hT (Or.inl ⟨by kernel_rfl, ?_⟩) ?_
  rotate_left
  ·(intro w' hw'; obtain ⟨u0, u1, u2, u3, u4, u5, u6, u7, u8, u9, u10, u11, u12, u13, u14⟩ := hw'; go_simp; try with_reducible rfl)
  (try simp only [Act.put, Till.a, Till.b, Till.c])
  refine Till.tk (i := 28) (v := ?_) rfl [29] hT (Or.inl ⟨by kernel_rfl, ?_⟩) ?_
  rotate_left
  ·(intro w' hw'; obtain ⟨u0, u1, u2, u3, u4, u5, u6, u7, u8, u9, u10, u11, u12, u13, u14⟩ := hw'; go_simp; try with_reducible rfl)
  (try simp only [Act.put, Till.a, Till.b, Till.c])
  refine Till.tk (i := 29) (v := ?_) rfl [] hT (Or.inl ⟨by kernel_rfl, ?_⟩) ?_
  rotate_left
  ·(intro w' hw'; obtain ⟨u0, u1, u2, u3, u4, u5, u6, u7, u8, u9, u10, u11, u12, u13, u14⟩ := hw'; go_simp; try with_reducible rfl)
  (try simp only [Act.put, Till.a, Till.b, Till.c])
  refine Till.step (i := 30) (by kernel_rfl) rfl ?_
  intro K hK
  go_simp
  refine hK.out _ _ (fun h => absurd h (by decide)) ?_
  clear hK K
  (try simp only [Act.put, Till.a, Till.b, Till.c])
  refine Till.done (by kernel_rfl) ?_ _
  go_wp2
  go_ret
  exact ⟨by rw [HE.out]; rfl, below_then T5 HB1.out HB1.out.size⟩
end Go.Proofs.YtaiabjiehpcaoaaGreatDoor
