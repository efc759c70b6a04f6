/- The walk of the reference's samples. (Printed by genB4.py.) The walk of the reference's samples, of number columns. (Printed by genB5.py.) -/
import Derived.Test.YtaiabjiehpcaoaaGreatDoorB1
import Derived.Test.YtaiabjiehpcaoaaGreatDoorB3
import Derived.Test.YtaiabjiehpcaoaaGreatDoorT14
import Derived.Test.YtaiabjiehpcaoaaGreatDoorY1
import Derived.Test.YtaiabjiehpcaoaaGreatDoorM2
-- merged: B4 B5
namespace Go.Proofs.YtaiabjiehpcaoaaGreatDoor
open Go.RowKit Limb Nmb Work
set_option linter.unusedVariables false
set_option linter.unusedSimpArgs false
def StO (w1 wr : World) (X : Option Addr) (n c : Nat) (L : List ByteArray) : Prop := L.length = n /\ wr.ownsRow w1.heap.size 9 1 (.slice X n c) n (ystrV L) /\ Below w1.heap.size w1 wr
theorem StO.nil {w1 wr : World} (hb : Below w1.heap.size w1 wr) : StO w1 wr none 0 0 [] := ⟨rfl, World.ownsRow_nil _ _ _ _, hb⟩
theorem StO.bel {w1 wr : World} {X : Option Addr} {n c : Nat} {L : List ByteArray} (h : StO w1 wr X n c L) : Below w1.heap.size w1 wr := h.2.2
theorem StO.own {w1 wr : World} {X : Option Addr} {n c : Nat} {L : List ByteArray} (h : StO w1 wr X n c L) : wr.ownsRow w1.heap.size 9 1 (.slice X n c) n (ystrV L) := h.2.1
theorem StO.below {w1 wr w' : World} {X : Option Addr} {n c : Nat} {L : List ByteArray} (h : StO w1 wr X n c L) (hb : Below wr.heap.size wr w') : StO w1 w' X n c L := ⟨h.1, own_below h.2.1 hb, below_then hb h.2.2 h.2.2.size⟩
theorem StO.push {w1 wr w' : World} {X X' : Option Addr} {n c c' : Nat} {L : List ByteArray} {s : ByteArray} (h : StO w1 wr X n c L) (ho : w'.ownsRow w1.heap.size 9 1 (.slice X' (n + 1) c') (n + 1) (ystrV (L ++ [s]))) (hg : wr.grownBy w' (Value.slice X n c).ownBlock) : StO w1 w' X' (n + 1) c' (L ++ [s]) :=
 ⟨by rw [List.length_append, h.1]; rfl, ho, h.2.2.grown hg h.2.2.size (fun j hj => (h.2.1.lt j hj).1)⟩
def RetSts (L : List ByteArray) (w : World) (e : Ending) (w' : World) : Prop := ∃ X c, e = .returned (.slice X L.length c) /\ Sts w' X L /\ L.length <= 9223372036854775807 /\ Below w.heap.size w w'
theorem StO.ret {w1 wr w : World} {X : Option Addr} {n c : Nat} {L : List ByteArray} (h : StO w1 wr X n c L) (hb : Below w.heap.size w wr) : RetSts L w (.returned (.slice X n c)) wr :=
 ⟨X, c, by rw [h.1], fun hn => by
  obtain ⟨g, e, h2, -, -⟩ := yown_sts h.2.1 (by rw [<- h.1]; exact hn)
  subst e
  exact h2 hn, by have := own_cap h.2.1; have := h.1; unfold maxLen at *; omega, hb⟩
theorem flat_rng {α : Type} (f : Nat -> List α) (n : Nat) : (List.range (n + 1)).flatMap f = (List.range n).flatMap f ++ f n := by rw [List.range_succ, List.flatMap_append]; simp
set_option maxHeartbeats 4000000 in
set_option maxRecDepth 100000 in
theorem samples_day {fm fq : Int} {A : Option Addr} {nk cp : Nat} {fd ft fc fs0 cn : ByteArray} (cw cl cm ci : Int) (cr ce : Bool) (w : World) :
  Calls Tryz.prog 63 #[.agg #[.int .u8 fm, .int .u8 fq, .slice A nk cp, .string fd, .string ft, .string fc, .string fs0], .agg #[.string cn, .int .i64 3, .int .i64 cw, .int .i64 cl, .int .i64 cm, .bool cr, .int .u8 ci, .bool ce]] w (RetSts [dayT] w) := by
 obtain ⟨i0, hi⟩ : ∃ i, Tryz.prog.info? 9 = some i := ⟨_, rfl⟩
 have hz0i : i0.zero = some (.string ⟨#[]⟩) := by obtain rfl := Option.some.inj (hi.symm.trans rfl); rfl
 have hz1i : i0.size = 1 := by obtain rfl := Option.some.inj (hi.symm.trans rfl); rfl
 have hz2i : i0.bytes = 16 := by obtain rfl := Option.some.inj (hi.symm.trans rfl); rfl
 have HI0 := Lib.hid hi; have HZ0 := Lib.hid hz0i; have HZ1 := Lib.hid hz1i; have HZ2 := Lib.hid hz2i
 clear hi hz0i hz1i hz2i
 have hP1 := heap_old (heap_new w (.cells #[.int .u8 fm, .int .u8 fq, .slice A nk cp, .string fd, .string ft, .string fc, .string fs0] 24) rfl) (.cells #[.string cn, .int .i64 3, .int .i64 cw, .int .i64 cl, .int .i64 cm, .bool cr, .int .u8 ci, .bool ce] 60)
 have hP2 := heap_new (w.alloc (.cells #[.int .u8 fm, .int .u8 fq, .slice A nk cp, .string fd, .string ft, .string fc, .string fs0] 24)) (.cells #[.string cn, .int .i64 3, .int .i64 cw, .int .i64 cl, .int .i64 cm, .bool cr, .int .u8 ci, .bool ce] 60) (g := w.heap.size + 1) (by simp)
 have hB1 : Below w.heap.size w ((w.alloc (.cells #[.int .u8 fm, .int .u8 fq, .slice A nk cp, .string fd, .string ft, .string fc, .string fs0] 24)).alloc (.cells #[.string cn, .int .i64 3, .int .i64 cw, .int .i64 cl, .int .i64 cm, .bool cr, .int .u8 ci, .bool ce] 60)) := by go_grown
 go_enter Tryz.func63, Tryz.ntmps63
 go_upto_region 1 with fail
 generalize (w.alloc (.cells #[.int .u8 fm, .int .u8 fq, .slice A nk cp, .string fd, .string ft, .string fc, .string fs0] 24)).alloc (.cells #[.string cn, .int .i64 3, .int .i64 cw, .int .i64 cl, .int .i64 cm, .bool cr, .int .u8 ci, .bool ce] 60) = w1 at hP1 hP2 hB1 ⊢
 have HP2 := Lib.hid hP2; have HB1 := Lib.hid hB1
 have HW := Lib.hid (show ∀ wx, Below w1.heap.size w1 wx -> wx.heap[w.heap.size + 1]? = some (.cells #[.string cn, .int .i64 3, .int .i64 cw, .int .i64 cl, .int .i64 cm, .bool cr, .int .u8 ci, .bool ce] 60 (0, 0)) /\ Below w.heap.size w wx from fun wx h => ⟨heap_below HP2.out h, below_then h HB1.out HB1.out.size⟩)
 obtain ⟨⟨x0, x1, x2, x3, x4, x5, x6, x7⟩, -⟩ := obox8 hP2
 clear hP1 hP2 hB1
 go_wp2
 go_ret
 exact ⟨some ⟨w1.heap.size, 0, none⟩, 1, rfl, fun _ => ⟨w1.heap.size, 0, #[.string dayT], (0, 0), rfl, heap_new _ _ rfl, fun j hj => by
  obtain rfl : j = 0 := by simp at hj; omega
  rfl⟩, by decide, below_then (show Below w1.heap.size w1 _ by go_grown) HB1.out HB1.out.size⟩
set_option maxHeartbeats 4000000 in
set_option maxRecDepth 100000 in
theorem samples_text {fm fq : Int} {A : Option Addr} {nk cp : Nat} {fd ft fc fs0 cn : ByteArray} (W : Nat) (hW : 1 <= W /\ W <= 100) (cl cm ci : Int) (cr ce : Bool) (w : World) :
  Calls Tryz.prog 63 #[.agg #[.int .u8 fm, .int .u8 fq, .slice A nk cp, .string fd, .string ft, .string fc, .string fs0], .agg #[.string cn, .int .i64 1, .int .i64 (W : Int), .int .i64 cl, .int .i64 cm, .bool cr, .int .u8 ci, .bool ce]] w (RetSts (smpT W) w) := by
 have hw1 := hW.1; have hw2 := hW.2
 have HSM := Lib.hid (show smpT W = (List.range 94).map (fun b => repS W (UInt8.ofNat (33 + b))) ++ (if 2 < W then [bs (97 :: (List.replicate (W - 2) 32 ++ [97]))] else []) from rfl)
 obtain ⟨R, hR⟩ : ∃ x, smpT W = x := ⟨_, rfl⟩
 rw [hR] at HSM ⊢
 clear hR hW
 obtain ⟨i0, hi⟩ : ∃ i, Tryz.prog.info? 9 = some i := ⟨_, rfl⟩
 have hz0i : i0.zero = some (.string ⟨#[]⟩) := by obtain rfl := Option.some.inj (hi.symm.trans rfl); rfl
 have hz1i : i0.size = 1 := by obtain rfl := Option.some.inj (hi.symm.trans rfl); rfl
 have hz2i : i0.bytes = 16 := by obtain rfl := Option.some.inj (hi.symm.trans rfl); rfl
 have HI0 := Lib.hid hi; have HZ0 := Lib.hid hz0i; have HZ1 := Lib.hid hz1i; have HZ2 := Lib.hid hz2i
 clear hi hz0i hz1i hz2i
 have hP1 := heap_old (heap_new w (.cells #[.int .u8 fm, .int .u8 fq, .slice A nk cp, .string fd, .string ft, .string fc, .string fs0] 24) rfl) (.cells #[.string cn, .int .i64 1, .int .i64 (W : Int), .int .i64 cl, .int .i64 cm, .bool cr, .int .u8 ci, .bool ce] 60)
 have hP2 := heap_new (w.alloc (.cells #[.int .u8 fm, .int .u8 fq, .slice A nk cp, .string fd, .string ft, .string fc, .string fs0] 24)) (.cells #[.string cn, .int .i64 1, .int .i64 (W : Int), .int .i64 cl, .int .i64 cm, .bool cr, .int .u8 ci, .bool ce] 60) (g := w.heap.size + 1) (by simp)
 have hB1 : Below w.heap.size w ((w.alloc (.cells #[.int .u8 fm, .int .u8 fq, .slice A nk cp, .string fd, .string ft, .string fc, .string fs0] 24)).alloc (.cells #[.string cn, .int .i64 1, .int .i64 (W : Int), .int .i64 cl, .int .i64 cm, .bool cr, .int .u8 ci, .bool ce] 60)) := by go_grown
 go_enter Tryz.func63, Tryz.ntmps63
 go_upto_region 1 with fail
 generalize (w.alloc (.cells #[.int .u8 fm, .int .u8 fq, .slice A nk cp, .string fd, .string ft, .string fc, .string fs0] 24)).alloc (.cells #[.string cn, .int .i64 1, .int .i64 (W : Int), .int .i64 cl, .int .i64 cm, .bool cr, .int .u8 ci, .bool ce] 60) = w1 at hP1 hP2 hB1 ⊢
 have HP2 := Lib.hid hP2; have HB1 := Lib.hid hB1
 have HW := Lib.hid (show ∀ wx, Below w1.heap.size w1 wx -> wx.heap[w.heap.size + 1]? = some (.cells #[.string cn, .int .i64 1, .int .i64 (W : Int), .int .i64 cl, .int .i64 cm, .bool cr, .int .u8 ci, .bool ce] 60 (0, 0)) /\ Below w.heap.size w wx from fun wx h => ⟨heap_below HP2.out h, below_then h HB1.out HB1.out.size⟩)
 obtain ⟨⟨x0, x1, x2, x3, x4, x5, x6, x7⟩, -⟩ := obox8 hP2
 clear hP1 hP2 hB1
 go_wp2_with fail
 clear x0 x1 x2 x3 x4 x5 x6 x7
 go_loopw [6, 5] (fun i o wr => ∃ (j : Nat) (X : Option Addr) (c : Nat), j <= 94 /\ i = .int .u8 ((33 + j : Nat) : Int) /\ o = .slice X j c /\ Hid (StO w1 wr X j c ((List.range j).map (fun b => repS W (UInt8.ofNat (33 + b)))))) (fun i o _ => 200 - (intOf i).toNat)
 case atStart => exact ⟨0, none, 0, by omega, rfl, rfl, Lib.hid (StO.nil (Below.refl _ _))⟩
 case round =>
  obtain ⟨j, X, c, hj, rfl, rfl, HO⟩ := hrel
  obtain ⟨q, -⟩ := HW.out _ HO.out.bel
  obtain ⟨⟨x0, x1, x2, x3, x4, x5, x6, x7⟩, -⟩ := obox8 q
  rcases Nat.lt_or_ge j 94 with hlt | hge
  ·have tk : decide (((33 + j : Nat) : Int) <= 126) = true := decide_eq_true (by omega)
   have hcr : ∀ w, (convert 5 21 (.int .u8 ((33 + j : Nat) : Int))).run Tryz.prog w = .ok (.int .i32 ((33 + j : Nat) : Int)) w := fun w => run_rune6 _ w (by omega)
   have henc := enc_small (b := ((33 + j : Nat) : Int)) (by omega) (by omega)
   rw [Int.toNat_natCast] at henc
   have hcv2 : ∀ w, (convert 21 9 (.int .i32 ((33 + j : Nat) : Int))).run Tryz.prog w = .ok (.string ⟨#[UInt8.ofNat (33 + j)]⟩) w := fun w => run_enc6 henc w
   have HNX := Lib.hid (show (List.range (j + 1)).map (fun b => repS W (UInt8.ofNat (33 + b))) = (List.range j).map (fun b => repS W (UInt8.ofNat (33 + b))) ++ [bs (List.replicate W (UInt8.ofNat (33 + j)))] by rw [List.range_succ, List.map_append]; rfl)
   have HRP := Lib.hid (fun wx => repeat_c (UInt8.ofNat (33 + j)) W wx (by omega))
   obtain ⟨B, hB⟩ : ∃ x, UInt8.ofNat (33 + j) = x := ⟨_, rfl⟩
   obtain ⟨s, hs⟩ : ∃ x, bs (List.replicate W B) = x := ⟨_, rfl⟩
   obtain ⟨L, hL⟩ : ∃ x, (List.range j).map (fun b => repS W (UInt8.ofNat (33 + b))) = x := ⟨_, rfl⟩
   obtain ⟨v, hv⟩ : ∃ x, ((33 + j : Nat) : Int) = x := ⟨_, rfl⟩
   have hvb : 33 <= v /\ v <= 126 := by omega
   have hwr : IntKind.u8.wrap (v + 1) = v + 1 := IntWalk.u8_in _ (by omega)
   have HV := Lib.hid hv
   rw [hB] at HNX HRP hcv2
   rw [hs] at HNX HRP
   rw [hL] at HNX HO
   rw [hv] at tk hcr hcv2 ⊢
   clear hB hs hL hv henc q
   go_wp2_with fail
   refine (HRP.out _).mono ?_
   rintro _ w7 ⟨rfl, hb7⟩
   have HO7 := Lib.hid (HO.out.below hb7)
   have HOW := Lib.hid HO7.out.own
   have hz7 := HO7.out.bel.size
   clear x0 x1 x2 x3 x4 x5 x6 x7 hb7 HO
   go_wp2_with (at_builtin; (with_reducible refine ywpList_push_strs rfl _ _ 47 rfl w1.heap.size i0 (.string ⟨#[]⟩) Tryz.underlying47 HI0.out HZ0.out HZ1.out HZ2.out rfl (.slice X j c) j (L) rfl HOW.out 1 [.string (s)] [s] rfl rfl rfl (by omega) hz7 ?_); intro X8 c8 w8 hown8 hg8)
   have HO8 := Lib.hid (HO7.out.push hown8 hg8)
   rw [<- HNX.out] at HO8
   clear hown8 hg8 HO7 HOW
   go_roundw
   case rel => first | exact ⟨j + 1, X8, c8, by omega, by rw [show ((33 + (j + 1) : Nat) : Int) = v + 1 by have := HV.out; omega]; (try rw [hwr]), rfl, HO8⟩ | ((repeat apply Exists.intro); exact ⟨⟨j + 1, X8, c8, by omega, by rw [show ((33 + (j + 1) : Nat) : Int) = v + 1 by have := HV.out; omega]; (try rw [hwr]), rfl, HO8⟩, rfl⟩)
   case measure => simp [intOf]; omega
  ·obtain rfl : j = 94 := by omega
   by_cases h2 : 2 < W
   ·have tk : decide ((2 : Int) < (W : Int)) = true := decide_eq_true (by omega)
    have HNX := Lib.hid (show R = (List.range 94).map (fun b => repS W (UInt8.ofNat (33 + b))) ++ [bs (97 :: (List.replicate (W - 2) 32 ++ [97]))] by rw [HSM.out, if_pos h2])
    have hwr : IntKind.i64.wrap ((W : Int) - 2) = ((W - 2 : Nat) : Int) := by rw [IntWalk.i64_in _ (by omega)]; omega
    have HRP := Lib.hid (fun wx => repeat_c 32 (W - 2) wx (by omega))
    obtain ⟨s, hs⟩ : ∃ x, bs (97 :: (List.replicate (W - 2) 32 ++ [97])) = x := ⟨_, rfl⟩
    obtain ⟨L, hL⟩ : ∃ x, (List.range 94).map (fun b => repS W (UInt8.ofNat (33 + b))) = x := ⟨_, rfl⟩
    obtain ⟨y, hy⟩ : ∃ x, bs (List.replicate (W - 2) 32) = x := ⟨_, rfl⟩
    have HS := Lib.hid (show (⟨#[97]⟩ : ByteArray) ++ y ++ ⟨#[97]⟩ = s by
     rw [<- hs, <- hy]
     rw [bs_cat (⟨#[97]⟩ : ByteArray) (bs (List.replicate (W - 2) 32)) [97] (List.replicate (W - 2) 32) rfl (by simp [bs])]
     rw [bs_cat (bs ([97] ++ List.replicate (W - 2) 32)) (⟨#[97]⟩ : ByteArray) ([97] ++ List.replicate (W - 2) 32) [97] (by simp [bs]) rfl]
     rfl)
    have hysz : y.size = W - 2 := by rw [<- hy]; simp [bs, ByteArray.size]
    rw [hs] at HNX
    rw [hy] at HRP
    rw [hL] at HNX HO
    clear hs hL hy h2 q
    go_wp2_with fail
    refine (HRP.out _).mono ?_
    rintro _ w7 ⟨rfl, hb7⟩
    have HO7 := Lib.hid (HO.out.below hb7)
    have HOW := Lib.hid HO7.out.own
    have hz7 := HO7.out.bel.size
    have k1 : ¬ (9223372036854775807 < (⟨#[97]⟩ : ByteArray).size + y.size) := by rw [hysz]; show ¬ (9223372036854775807 < 1 + (W - 2)); omega
    have k2 : ¬ (9223372036854775807 < ((⟨#[97]⟩ : ByteArray) ++ y).size + (⟨#[97]⟩ : ByteArray).size) := by rw [ByteArray.size_append, hysz]; show ¬ (9223372036854775807 < 1 + (W - 2) + 1); omega
    clear x0 x1 x2 x3 x4 x5 x6 x7 hb7 HO
    go_wp2_with (at_builtin; (with_reducible refine ywpList_push_strs rfl _ _ 47 rfl w1.heap.size i0 (.string ⟨#[]⟩) Tryz.underlying47 HI0.out HZ0.out HZ1.out HZ2.out rfl (.slice X 94 c) 94 (L) rfl HOW.out 1 [.string ((⟨#[97]⟩ : ByteArray) ++ y ++ ⟨#[97]⟩)] [(⟨#[97]⟩ : ByteArray) ++ y ++ ⟨#[97]⟩] rfl rfl rfl (by omega) hz7 ?_); intro X8 c8 w8 hown8 hg8)
    have HO8 := Lib.hid (HO7.out.push hown8 hg8)
    rw [HS.out, <- HNX.out] at HO8
    go_ret
    exact HO8.out.ret (HW.out _ HO8.out.bel).2
   ·have tk : decide ((2 : Int) < (W : Int)) = false := decide_eq_false (by omega)
    have HNX := Lib.hid (show R = (List.range 94).map (fun b => repS W (UInt8.ofNat (33 + b))) by rw [HSM.out, if_neg h2, List.append_nil])
    rw [<- HNX.out] at HO
    clear h2
    go_wp2
    go_ret
    exact HO.out.ret (HW.out _ HO.out.bel).2
theorem pow10_le {t : Nat} (h : t <= 16) : 10 ^ t <= 10000000000000000 := by
 have h1 : 10 ^ t <= 10 ^ 16 := Nat.pow_le_pow_right (by decide) h
 have e : (10 : Nat) ^ 16 = 10000000000000000 := by decide
 omega
theorem smp_take {N : Int} {p i : Nat} (h : i < 6) : ((smpU N).take (i + 1)).flatMap (smpE p) = ((smpU N).take i).flatMap (smpE p) ++ smpE p ((smpU N).getD i 0) := by
 rcases (show i = 0 ∨ i = 1 ∨ i = 2 ∨ i = 3 ∨ i = 4 ∨ i = 5 by omega) with rfl | rfl | rfl | rfl | rfl | rfl <;> simp [smpU]
theorem smpU_bd {N : Int} (h : 0 <= N /\ N <= 10000000000000000) (i : Nat) : -10000000000000000 <= (smpU N).getD i 0 /\ (smpU N).getD i 0 <= 10000000000000000 := by
 rcases (show i = 0 ∨ i = 1 ∨ i = 2 ∨ i = 3 ∨ i = 4 ∨ i = 5 ∨ 6 <= i by omega) with rfl | rfl | rfl | rfl | rfl | rfl | h6
 ·show _ <= N - 1 /\ N - 1 <= _; omega
 ·show _ <= 1 - N /\ 1 - N <= _; omega
 ·show (-10000000000000000 : Int) <= 1000000000000000 /\ (1000000000000000 : Int) <= _; omega
 ·show (-10000000000000000 : Int) <= -1000000000000000 /\ (-1000000000000000 : Int) <= _; omega
 ·show _ <= N / 10 /\ N / 10 <= _; omega
 ·show _ <= -(N / 10) /\ -(N / 10) <= _; omega
 ·rw [List.getD_eq_getElem?_getD, List.getElem?_eq_none (by show 6 <= i; exact h6)]; decide
theorem arr_cell {w : World} {g : Nat} {N : Int} {i : Nat} (h : w.heap[g]? = some (.cells #[.int .i64 (N - 1), .int .i64 (1 - N), .int .i64 1000000000000000, .int .i64 (-1000000000000000), .int .i64 (N / 10), .int .i64 (-(N / 10))] 3 (0, 0))) (hi : i < 6) : w.cell? ⟨g, i, none⟩ = some (.int .i64 ((smpU N).getD i 0)) := by
 refine (cell_of_row w g i _ _ _ h).trans ?_
 rcases (show i = 0 ∨ i = 1 ∨ i = 2 ∨ i = 3 ∨ i = 4 ∨ i = 5 by omega) with rfl | rfl | rfl | rfl | rfl | rfl <;> rfl
theorem tdiv_pos10 {n : Int} (h : 0 <= n) : n.tdiv 10 = n / 10 := Int.tdiv_eq_ediv_of_nonneg h
theorem tdiv_neg10 {n : Int} (h : 0 <= n) : (-n).tdiv 10 = -(n / 10) := by rw [Int.neg_tdiv, Int.tdiv_eq_ediv_of_nonneg h]
set_option maxHeartbeats 4000000 in
set_option maxRecDepth 100000 in
theorem samples_num {fm fq : Int} {A : Option Addr} {nk cp : Nat} {fd ft fc fs0 cn : ByteArray} (PL : Nat) (hPL : PL <= 9) (cw cm ci : Int) (cr ce : Bool) (w : World) (ht : Tab w) :
  Calls Tryz.prog 63 #[.agg #[.int .u8 fm, .int .u8 fq, .slice A nk cp, .string fd, .string ft, .string fc, .string fs0], .agg #[.string cn, .int .i64 2, .int .i64 cw, .int .i64 (PL : Int), .int .i64 cm, .bool cr, .int .u8 ci, .bool ce]] w (RetSts (smpN PL) w) := by
 have HTB := Lib.hid ht
 clear ht
 have HSM := Lib.hid (show smpN PL = (List.range (PL + 1)).flatMap smpP ++ [bs [48]] from rfl)
 have HSP := Lib.hid (show ∀ p, smpP p = (List.range 16).flatMap (fun d => smpD p (d + 1)) from fun p => rfl)
 have HSD := Lib.hid (show ∀ p d, smpD p d = (smpU ((10 ^ d : Nat) : Int)).flatMap (smpE p) from fun p d => rfl)
 have HFR := Lib.hid (fun (f : Nat -> List ByteArray) n => flat_rng f n)
 obtain ⟨R, hR⟩ : ∃ x, smpN PL = x := ⟨_, rfl⟩
 rw [hR] at HSM ⊢
 clear hR
 obtain ⟨i0, hi⟩ : ∃ i, Tryz.prog.info? 9 = some i := ⟨_, rfl⟩
 have hz0i : i0.zero = some (.string ⟨#[]⟩) := by obtain rfl := Option.some.inj (hi.symm.trans rfl); rfl
 have hz1i : i0.size = 1 := by obtain rfl := Option.some.inj (hi.symm.trans rfl); rfl
 have hz2i : i0.bytes = 16 := by obtain rfl := Option.some.inj (hi.symm.trans rfl); rfl
 have HI0 := Lib.hid hi; have HZ0 := Lib.hid hz0i; have HZ1 := Lib.hid hz1i; have HZ2 := Lib.hid hz2i
 clear hi hz0i hz1i hz2i
 have hP1 := heap_old (heap_new w (.cells #[.int .u8 fm, .int .u8 fq, .slice A nk cp, .string fd, .string ft, .string fc, .string fs0] 24) rfl) (.cells #[.string cn, .int .i64 2, .int .i64 cw, .int .i64 (PL : Int), .int .i64 cm, .bool cr, .int .u8 ci, .bool ce] 60)
 have hP2 := heap_new (w.alloc (.cells #[.int .u8 fm, .int .u8 fq, .slice A nk cp, .string fd, .string ft, .string fc, .string fs0] 24)) (.cells #[.string cn, .int .i64 2, .int .i64 cw, .int .i64 (PL : Int), .int .i64 cm, .bool cr, .int .u8 ci, .bool ce] 60) (g := w.heap.size + 1) (by simp)
 have hB1 : Below w.heap.size w ((w.alloc (.cells #[.int .u8 fm, .int .u8 fq, .slice A nk cp, .string fd, .string ft, .string fc, .string fs0] 24)).alloc (.cells #[.string cn, .int .i64 2, .int .i64 cw, .int .i64 (PL : Int), .int .i64 cm, .bool cr, .int .u8 ci, .bool ce] 60)) := by go_grown
 go_enter Tryz.func63, Tryz.ntmps63
 go_upto_region 1 with fail
 generalize (w.alloc (.cells #[.int .u8 fm, .int .u8 fq, .slice A nk cp, .string fd, .string ft, .string fc, .string fs0] 24)).alloc (.cells #[.string cn, .int .i64 2, .int .i64 cw, .int .i64 (PL : Int), .int .i64 cm, .bool cr, .int .u8 ci, .bool ce] 60) = w1 at hP1 hP2 hB1 ⊢
 have HP2 := Lib.hid hP2; have HB1 := Lib.hid hB1
 have HW := Lib.hid (show ∀ wx, Below w1.heap.size w1 wx -> wx.heap[w.heap.size + 1]? = some (.cells #[.string cn, .int .i64 2, .int .i64 cw, .int .i64 (PL : Int), .int .i64 cm, .bool cr, .int .u8 ci, .bool ce] 60 (0, 0)) /\ Below w.heap.size w wx from fun wx h => ⟨heap_below HP2.out h, below_then h HB1.out HB1.out.size⟩)
 obtain ⟨⟨x0, x1, x2, x3, x4, x5, x6, x7⟩, -⟩ := obox8 hP2
 clear hP1 hP2 hB1
 have hwp : IntKind.i64.wrap ((PL : Int) + 1) = ((PL + 1 : Nat) : Int) := by rw [IntWalk.i64_in _ (by omega)]; omega
 obtain ⟨P1, hP1⟩ : ∃ x, PL + 1 = x := ⟨_, rfl⟩
 rw [hP1] at hwp HSM
 have hP10 : P1 <= 10 := by omega
 clear hP1
 go_upto_region 14 with fail
 (try rw [hwp])
 clear x0 x1 x2 x3 x4 x5 x6 x7 hwp
 go_loopw [51, 5] (fun i o wr => ∃ (p : Nat) (X : Option Addr) (n c : Nat), p <= P1 /\ i = .int .i64 p /\ o = .slice X n c /\ n <= 96 * p /\ Hid (StO w1 wr X n c ((List.range p).flatMap smpP))) (fun i o _ => P1 - (intOf i).toNat)
 case atStart => exact ⟨0, none, 0, 0, by omega, rfl, rfl, by omega, Lib.hid (StO.nil (Below.refl _ _))⟩
 case round =>
  obtain ⟨p, X, n, c, hp, rfl, rfl, hn, HO⟩ := hrel
  rcases Nat.lt_or_ge p P1 with hlt | hge
  ·have tk : decide ((p : Int) < (P1 : Int)) = true := decide_eq_true (by omega)
   have HNX := Lib.hid (HFR.out smpP p)
   rw [HSP.out p] at HNX
   obtain ⟨L0, hL0⟩ : ∃ x, (List.range p).flatMap smpP = x := ⟨_, rfl⟩
   rw [hL0] at HNX HO
   clear hL0
   go_upto_region 17 with fail
   go_loopw [8, 5] (fun i o wr => ∃ (k : Nat) (X : Option Addr) (n c : Nat), k <= 16 /\ i = .int .i64 ((k + 1 : Nat) : Int) /\ o = .slice X n c /\ n <= 96 * p + 6 * k /\ Hid (StO w1 wr X n c (L0 ++ (List.range k).flatMap (fun d => smpD p (d + 1))))) (fun i o _ => 100 - (intOf i).toNat)
   case atStart => exact ⟨0, X, n, c, by omega, rfl, rfl, by omega, Lib.hid (by have := HO.out; simpa using this)⟩
   case round =>
    clear HO hn
    obtain ⟨k, X, n, c, hk, rfl, rfl, hn, HO⟩ := hrel
    rcases Nat.lt_or_ge k 16 with hlt2 | hge2
    ·have tk2 : decide (((k + 1 : Nat) : Int) <= 16) = true := decide_eq_true (by omega)
     have HNK := Lib.hid (HFR.out (fun d => smpD p (d + 1)) k)
     have HN0 := Lib.hid (HSD.out p (k + 1))
     obtain ⟨L1, hL1⟩ : ∃ x, L0 ++ (List.range k).flatMap (fun d => smpD p (d + 1)) = x := ⟨_, rfl⟩
     have HNL := Lib.hid (show L0 ++ (List.range (k + 1)).flatMap (fun d => smpD p (d + 1)) = L1 ++ smpD p (k + 1) by rw [HNK.out, <- hL1, List.append_assoc])
     rw [hL1] at HO
     obtain ⟨k1, hk1⟩ : ∃ x, k + 1 = x := ⟨_, rfl⟩
     have HK1 := Lib.hid hk1
     rw [hk1] at tk2 HN0 ⊢
     have hk16 : k1 <= 16 := by omega
     clear HNK hL1 hk1
     go_upto_region 21 with fail
     obtain ⟨wA, hwA⟩ : ∃ x, wr = x := ⟨_, rfl⟩
     rw [hwA] at HO ⊢
     clear hwA wr
     go_loopw [59, 9] (fun i v wr => ∃ (t : Nat), t <= k1 /\ i = .int .i64 t /\ v = .int .i64 ((10 ^ t : Nat) : Int) /\ Hid (wr = wA)) (fun i v _ => k1 - (intOf i).toNat)
     case atStart => exact ⟨0, by omega, rfl, rfl, Lib.hid rfl⟩
     case round =>
      obtain ⟨t, htk, rfl, rfl, HWA⟩ := hrel
      have hpw := pow10_le (t := t) (by omega)
      rcases Nat.lt_or_ge t k1 with hlt3 | hge3
      ·have hpw2 := pow10_le (t := t + 1) (by omega)
       have hps : 10 ^ (t + 1) = 10 ^ t * 10 := Nat.pow_succ ..
       have HPS := Lib.hid hps
       obtain ⟨T, hT⟩ : ∃ x, 10 ^ t = x := ⟨_, rfl⟩
       rw [hT] at hps hpw HPS ⊢
       have hwr : IntKind.i64.wrap ((T : Int) * 10) = (T : Int) * 10 := IntWalk.i64_in _ (by omega)
       have tk3 : decide ((t : Int) < (k1 : Int)) = true := decide_eq_true (by omega)
       clear hT hps
       go_wp2
       go_roundw
       case rel => exact ⟨t + 1, by omega, by go_num, by rw [HPS.out]; (try rw [hwr]); (try push_cast); (try rfl), HWA⟩
       case measure => simp [intOf]; omega
      ·obtain rfl : t = k1 := by omega
       obtain ⟨N, hN⟩ : ∃ x, ((10 ^ t : Nat) : Int) = x := ⟨_, rfl⟩
       rw [hN] at HN0 ⊢
       have hN1 : 0 <= N /\ N <= 10000000000000000 := by
        have h9 := hpw
        rw [<- hN]
        generalize 10 ^ t = T at h9 ⊢
        omega
       have a1 : IntKind.i64.wrap (N - 1) = N - 1 := IntWalk.i64_in _ (by omega)
       have a2 : IntKind.i64.wrap (1 - N) = 1 - N := IntWalk.i64_in _ (by omega)
       have a3 : IntKind.i64.wrap (-N) = -N := IntWalk.i64_in _ (by omega)
       have a4 : N.tdiv 10 = N / 10 := tdiv_pos10 hN1.1
       have a5 : (-N).tdiv 10 = -(N / 10) := tdiv_neg10 hN1.1
       have a6 : IntKind.i64.wrap (N / 10) = N / 10 := IntWalk.i64_in _ (by omega)
       have a7 : IntKind.i64.wrap (-(N / 10)) = -(N / 10) := IntWalk.i64_in _ (by omega)
       have HNB := Lib.hid hN1
       have hww := HWA.out
       subst hww
       have HWA := HO
       clear hN hpw hN1
       have HAR := Lib.hid (heap_new wr (.cells #[.int .i64 (N - 1), .int .i64 (1 - N), .int .i64 1000000000000000, .int .i64 (-1000000000000000), .int .i64 (N / 10), .int .i64 (-(N / 10))] 3) rfl)
       have HOA := Lib.hid (show StO w1 (wr.alloc (.cells #[.int .i64 (N - 1), .int .i64 (1 - N), .int .i64 1000000000000000, .int .i64 (-1000000000000000), .int .i64 (N / 10), .int .i64 (-(N / 10))] 3)) X n c L1 from HO.out.below (by go_grown))
       go_upto_region 25 with fail
       (try simp only [a1, a2, a3, a4, a5, a6, a7])
       obtain ⟨AB, hAB⟩ : ∃ x, wr.heap.size = x := ⟨_, rfl⟩
       rw [hAB] at HAR
       try rw [hAB]
       generalize wr.alloc (.cells #[.int .i64 (N - 1), .int .i64 (1 - N), .int .i64 1000000000000000, .int .i64 (-1000000000000000), .int .i64 (N / 10), .int .i64 (-(N / 10))] 3) = wB at HAR HOA ⊢
       clear hAB HWA HO a1 a2 a3 a4 a5 a6 a7
       go_loopw [75, 5] (fun i o wr => ∃ (x : Nat) (X : Option Addr) (n c : Nat), x <= 6 /\ i = .int .i64 x /\ o = .slice X n c /\ n <= 96 * p + 6 * k + x /\ Hid (wr.heap[AB]? = some (.cells #[.int .i64 (N - 1), .int .i64 (1 - N), .int .i64 1000000000000000, .int .i64 (-1000000000000000), .int .i64 (N / 10), .int .i64 (-(N / 10))] 3 (0, 0))) /\ Hid (StO w1 wr X n c (L1 ++ ((smpU N).take x).flatMap (smpE p)))) (fun i o _ => 6 - (intOf i).toNat)
       case atStart => exact ⟨0, X, n, c, by omega, rfl, rfl, by omega, HAR, Lib.hid (by have := HOA.out; simpa using this)⟩
       case round =>
        clear HAR HOA hn
        obtain ⟨x, X, n, c, hx, rfl, rfl, hn, HAR, HO⟩ := hrel
        rcases Nat.lt_or_ge x 6 with hlt4 | hge4
        ·have tk4 : decide ((x : Int) < 6) = true := decide_eq_true (by omega)
         have HNX4 := Lib.hid (smp_take (N := N) (p := p) hlt4)
         have hub := smpU_bd HNB.out x
         have hc0 := arr_cell HAR.out hlt4
         obtain ⟨u, hu⟩ : ∃ x', (smpU N).getD x 0 = x' := ⟨_, rfl⟩
         rw [hu] at HNX4 hub hc0
         have HE := Lib.hid (show smpE p u = if decB u (p : Int) = true then [nrmS u p] else [] from rfl)
         obtain ⟨L2, hL2⟩ : ∃ x', L1 ++ ((smpU N).take x).flatMap (smpE p) = x' := ⟨_, rfl⟩
         have HNL4 := Lib.hid (show L1 ++ ((smpU N).take (x + 1)).flatMap (smpE p) = L2 ++ smpE p u by rw [HNX4.out, <- hL2, List.append_assoc])
         rw [hL2] at HO
         have hzr := HO.out.bel.size
         have HDB := Lib.hid (heap_new wr (.cells #[.int .i64 u, .int .i64 (p : Int)] 70) rfl)
         have HAR5 := Lib.hid (heap_old HAR.out (.cells #[.int .i64 u, .int .i64 (p : Int)] 70))
         have HO5 := Lib.hid (show StO w1 (wr.alloc (.cells #[.int .i64 u, .int .i64 (p : Int)] 70)) X n c L2 from HO.out.below (by go_grown))
         have k0 : (0 : Int) <= (x : Int) := by omega
         clear hu hL2
         go_upto_region 28 with fail
         obtain ⟨db, hdb⟩ : ∃ x', wr.heap.size = x' := ⟨_, rfl⟩
         rw [hdb] at HDB
         try rw [hdb]
         generalize wr.alloc (.cells #[.int .i64 u, .int .i64 (p : Int)] 70) = w5 at HDB HAR5 HO5 ⊢
         clear hdb HAR HO hc0
         obtain ⟨d0, d1, -, -, -⟩ := box2 HDB.out
         go_wp2_with fail
         refine (tdec_c u (p : Int) _).mono ?_
         rintro _ w6 ⟨rfl, hb6⟩
         have HDB6 := Lib.hid (heap_below HDB.out hb6); have HAR6 := Lib.hid (heap_below HAR5.out hb6); have HO6 := Lib.hid (HO5.out.below hb6)
         clear d0 d1 hb6 HDB HAR5 HO5
         cases hd : decB u (p : Int) with
         | false =>
          have hdf : decF u (p : Int) = 1 := if_neg (by rw [hd]; decide)
          have HS := Lib.hid (show L1 ++ ((smpU N).take (x + 1)).flatMap (smpE p) = L2 by rw [HNL4.out, HE.out, hd, if_neg (by decide), List.append_nil])
          rw [hdf]
          clear hd hdf
          go_wp2
          go_roundw
          case rel => first | exact ⟨x + 1, X, n, c, by omega, by go_num, rfl, by omega, HAR6, by rw [HS.out]; exact HO6⟩ | ((repeat apply Exists.intro); exact ⟨⟨x + 1, X, n, c, by omega, by go_num, rfl, by omega, HAR6, by rw [HS.out]; exact HO6⟩, rfl⟩)
          case measure => simp [intOf]; omega
         | true =>
          have hdf : decF u (p : Int) = 0 := if_pos hd
          have HS := Lib.hid (show L1 ++ ((smpU N).take (x + 1)).flatMap (smpE p) = L2 ++ [nrmS u p] by rw [HNL4.out, HE.out, hd, if_pos rfl])
          have hld := least_dec hd
          rw [Int.toNat_natCast] at hld
          have HNM := Lib.hid (fun wx => normal_c u p wx hd)
          have HNS := Lib.hid (show bs (textR (leastF u p).1 (leastF u p).2) = nrmS u p by unfold textR nrmS; rw [if_pos hld])
          have hlf : decF (leastF u p).1 (leastF u p).2 = 0 := if_pos hld
          have HTX := Lib.hid (fun wx h => rtext_c (leastF u p).1 (leastF u p).2 wx h)
          rw [hlf] at HTX
          unfold RetLe at HNM
          unfold RetST at HTX
          obtain ⟨s, hs⟩ : ∃ x', nrmS u p = x' := ⟨_, rfl⟩
          rw [hs] at HS HNS
          obtain ⟨⟨lu, lp⟩, hl⟩ : ∃ x', leastF u p = x' := ⟨_, rfl⟩
          rw [hl] at HNM HNS HTX
          simp only at HNM HNS HTX
          rw [hdf]
          clear hd hdf hld hlf hs hl
          obtain ⟨d0, d1, -, -, -⟩ := box2 HDB6.out
          go_wp2_with fail
          refine (HNM.out _).mono ?_
          rintro _ w7 ⟨rfl, hb7⟩
          have HAR7 := Lib.hid (heap_below HAR6.out hb7); have HO7 := Lib.hid (HO6.out.below hb7)
          clear d0 d1 hb7 HDB6 HAR6 HO6
          go_wp2_with fail
          refine (HTX.out _ (HTB.out.below (HW.out _ HO7.out.bel).2)).mono ?_
          rintro _ w8' ⟨sx, rfl, hsx, hb8⟩
          have hsx2 := (bs_of hsx).trans HNS.out
          have HAR8 := Lib.hid (heap_below HAR7.out hb8); have HO8 := Lib.hid (HO7.out.below hb8)
          subst hsx2
          have HOW := Lib.hid HO8.out.own
          have hz8 := HO8.out.bel.size
          clear hb8 HAR7 HO7 hsx HNS
          go_wp2_with (at_builtin; (with_reducible refine ywpList_push_strs rfl _ _ 47 rfl w1.heap.size i0 (.string ⟨#[]⟩) Tryz.underlying47 HI0.out HZ0.out HZ1.out HZ2.out rfl (.slice X n c) n (L2) rfl HOW.out 1 [.string (sx)] [sx] rfl rfl rfl (by omega) hz8 ?_); intro X8 c8 w8 hown8 hg8)
          have HO9 := Lib.hid (HO8.out.push hown8 hg8)
          rw [<- HS.out] at HO9
          have HAR9 := Lib.hid (show w8.heap[AB]? = some (.cells #[.int .i64 (N - 1), .int .i64 (1 - N), .int .i64 1000000000000000, .int .i64 (-1000000000000000), .int .i64 (N / 10), .int .i64 (-(N / 10))] 3 (0, 0)) from own_ty HOW.out hg8 HAR8.out (by decide))
          clear hown8 hg8 HO8 HAR8 HOW
          go_roundw
          case rel => first | exact ⟨x + 1, X8, n + 1, c8, by omega, by go_num, rfl, by omega, HAR9, HO9⟩ | ((repeat apply Exists.intro); exact ⟨⟨x + 1, X8, n + 1, c8, by omega, by go_num, rfl, by omega, HAR9, HO9⟩, rfl⟩)
          case measure => simp [intOf]; omega
        ·obtain rfl : x = 6 := by omega
         have HS := Lib.hid (show L0 ++ (List.range (k + 1)).flatMap (fun d => smpD p (d + 1)) = L1 ++ ((smpU N).take 6).flatMap (smpE p) by rw [HNL.out, HK1.out, HN0.out]; rfl)
         rw [<- HS.out] at HO
         have hw2 : IntKind.i64.wrap (((t : Nat) : Int) + 1) = ((k + 1 + 1 : Nat) : Int) := by rw [IntWalk.i64_in _ (by omega)]; have := HK1.out; omega
         have hkk := HK1.out
         clear HS HNL HN0
         go_wp2
         go_roundw
         case rel => first | exact ⟨k + 1, X, n, c, by omega, by (try rw [hw2]); (first | rfl | (congr 1; omega)), rfl, by omega, HO⟩ | ((repeat apply Exists.intro); exact ⟨⟨k + 1, X, n, c, by omega, by (try rw [hw2]); (first | rfl | (congr 1; omega)), rfl, by omega, HO⟩, rfl⟩)
         case measure => simp [intOf]; omega
    ·obtain rfl : k = 16 := by omega
     have HS := Lib.hid (show (List.range (p + 1)).flatMap smpP = L0 ++ (List.range 16).flatMap (fun d => smpD p (d + 1)) from HNX.out)
     rw [<- HS.out] at HO
     clear HS HNX
     go_wp2
     go_roundw
     case rel => first | exact ⟨p + 1, X, n, c, by omega, by go_num, rfl, by omega, HO⟩ | ((repeat apply Exists.intro); exact ⟨⟨p + 1, X, n, c, by omega, by go_num, rfl, by omega, HO⟩, rfl⟩)
     case measure => simp [intOf]; omega
  ·obtain rfl : p = P1 := by omega
   have HOW := Lib.hid HO.out.own
   have hz8 := HO.out.bel.size
   obtain ⟨L2, hL2⟩ : ∃ x, (List.range p).flatMap smpP = x := ⟨_, rfl⟩
   rw [hL2] at HO HOW HSM
   have HS := Lib.hid (show R = L2 ++ [(⟨#[48]⟩ : ByteArray)] from HSM.out)
   clear hL2
   go_wp2_with (at_builtin; (with_reducible refine ywpList_push_strs rfl _ _ 47 rfl w1.heap.size i0 (.string ⟨#[]⟩) Tryz.underlying47 HI0.out HZ0.out HZ1.out HZ2.out rfl (.slice X n c) n (L2) rfl HOW.out 1 [.string (⟨#[48]⟩)] [⟨#[48]⟩] rfl rfl rfl (by omega) hz8 ?_); intro X8 c8 w8 hown8 hg8)
   have HO9 := Lib.hid (HO.out.push hown8 hg8)
   rw [<- HS.out] at HO9
   go_ret
   exact HO9.out.ret (HW.out _ HO9.out.bel).2
theorem samples_c (f : Fmt) (A : Option Addr) (cp : Nat) (c : Col) (w : World) (hk : ColK f.mark c) (ht : Tab w) : Calls Tryz.prog 63 #[fmtG f A cp, colG c] w (RetSts (smpL c) w) := by
 obtain ⟨h1, h2⟩ := hk.kind
 obtain ⟨h3, h4⟩ := hk.width
 have h5 := hk.places
 obtain ⟨m, q, ks, hd, tl, ct, sm⟩ := f
 obtain ⟨cn, ck, cw, cl, cm, cr, ci, ce⟩ := c
 simp only at h1 h2 h3 h4 h5
 unfold fmtG colG smpL
 simp only
 rcases (show ck = 1 ∨ ck = 2 ∨ ck = 3 by omega) with rfl | rfl | rfl
 ·obtain ⟨W, rfl⟩ : ∃ W : Nat, cw = (W : Int) := ⟨cw.toNat, by omega⟩
  rw [if_neg (by decide), if_pos rfl, Int.toNat_natCast]
  exact samples_text W (by omega) cl cm ci cr ce w
 ·obtain ⟨PL, rfl⟩ : ∃ P : Nat, cl = (P : Int) := ⟨cl.toNat, by have := (h5 rfl).1; omega⟩
  rw [if_neg (by decide), if_neg (by decide), Int.toNat_natCast]
  exact samples_num PL (by have := (h5 rfl).2; omega) cw cm ci cr ce w ht
 ·rw [if_pos rfl]
  exact samples_day cw cl cm ci cr ce w
end Go.Proofs.YtaiabjiehpcaoaaGreatDoor
