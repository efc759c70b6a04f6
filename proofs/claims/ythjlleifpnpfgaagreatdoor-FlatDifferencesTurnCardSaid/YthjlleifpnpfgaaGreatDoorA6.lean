
/- The walks of read and ReadText. -/
import Derived.Test.YthjlleifpnpfgaaGreatDoorA5
import Derived.Deep.RegionWith
namespace Go.Proofs.YthjlleifpnpfgaaGreatDoor
open Go.RowKit Limb
def numL (l : List UInt8) : Nat := l.foldl (fun a c => a * 10 + (c.toNat - 48)) 0
theorem numL_step {l : List UInt8} {j : Nat} (h : j < l.length) : numL (l.take (j + 1)) = numL (l.take j) * 10 + (l[j].toNat - 48) := by
 unfold numL; rw [List.take_succ_eq_append_getElem h, List.foldl_append]; rfl
theorem numL_lt {l : List UInt8} (h : inB l 48 57 = true) : ∀ j, j <= l.length -> numL (l.take j) < 10 ^ j := by
 intro j
 induction j with
 | zero => intro _; simp [numL]
 | succ j ih =>
  intro hj
  rw [numL_step (by omega), Nat.pow_succ]
  have h1 := ih (by omega)
  have h2 := List.all_eq_true.1 h l[j] (List.getElem_mem _)
  have h3 := of_decide_eq_true h2
  omega
def readR (neg : Bool) (l : List UInt8) (nb : Int) : Int × Int × Int :=
 if neg then (if numL l = 0 then (0, 0, 10) else made (-(numL l : Int)) nb) else made (numL l : Int) nb
set_option maxHeartbeats 8000000 in
set_option maxRecDepth 100000 in
theorem read_c (neg : Bool) (a b : ByteArray) (w : World) (hd : inB (a.data.toList ++ b.data.toList) 48 57 = true) (hl : a.size + b.size <= 40) :
  Calls Tryz.prog 109 #[.bool neg, .string a, .string b] w (RetD (readR neg (a.data.toList ++ b.data.toList) b.size) w) := by
 obtain ⟨s, hs⟩ : ∃ s : ByteArray, s = a ++ b := ⟨_, rfl⟩
 have hsd : s.data.toList = a.data.toList ++ b.data.toList := by rw [hs]; simp
 have hsz : s.size = a.size + b.size := by rw [hs]; simp
 rw [<- hsd] at hd ⊢
 have hab : a ++ b = s := hs.symm
 clear hs hsd
 have hz : s.size <= 40 := by omega
 clear hsz
 have HD := Lib.hid hd; clear hd
 go_enter Tryz.func109, Tryz.ntmps109
 go_wp2_with fail
 refine (of_c 0 _ (by omega) (by omega)).mono ?_
 rintro e w2 ⟨s2, A2, n2, c2, rfl, hv2, hb2⟩
 have hR2 := heap_below (heap_new w _ rfl) hb2
 have hbel2 := below_then hb2 (w := w) (B := w.heap.size) (by go_grown) (by simp only [World.size_alloc]; omega)
 have hz2 := hbel2.size
 have hlt2 := lt_heap hR2
 clear hb2
 go_wp2_with fail
 go_loopw [15] (fun i wr => ∃ (j : Nat) (t : Bool) (A : Option Addr) (k c : Nat), j <= s.size /\ i = .int .i64 j /\ wr.heap[w2.heap.size]? = some (.cells #[.bool t, .slice A k c] 123 (0, 0)) /\ wr.heap[w.heap.size]? = some (.cells #[.int .i64 0, .int .i64 0] 118 (0, 0)) /\
   Big .u32 189 B32 wr t A k c ((numL (s.data.toList.take j) : Nat) : Int) /\ Below w.heap.size w wr) (fun i _ => s.size - (intOf i).toNat)
 case atStart => exact ⟨0, s2, A2, n2, c2, Nat.zero_le _, rfl, heap_new _ _ rfl, heap_old hR2 _, by exact hv2.alloc _, hbel2.alloc hz2 _⟩
 case round =>
  obtain ⟨j, t, A, k, c, hj, rfl, hO, hR, hbig, hbel⟩ := hrel
  have hzr := hbel.size
  obtain ⟨o0, o1, of0, of1, oz⟩ := box2 hO
  have hnl := numL_lt HD.out j (by simpa using hj)
  have hn40 : numL (s.data.toList.take j) < 10 ^ 40 := Nat.lt_of_lt_of_le hnl (Nat.pow_le_pow_right (by omega) (by omega))
  have hsm : Small ((numL (s.data.toList.take j) : Nat) : Int) := by
   have h4 : (10 : Nat) ^ 40 = 10000000000000000000000000000000000000000 := by decide
   exact small_of_le (by omega) (by omega)
  have hsm2 : Small (((numL (s.data.toList.take j) : Nat) : Int) * 10) := by
   unfold Small
   have h4 : (10 : Nat) ^ 41 < 10 ^ 200 := by decide
   have h5 : (10 : Nat) ^ 41 = 10 ^ 40 * 10 := Nat.pow_succ ..
   omega
  clear hnl hn40
  rcases Nat.lt_or_ge j s.size with hjn | hjn
  ·have hb := inB_at HD.out j hjn
   have hi1 : (0 : Int) <= (j : Int) := by omega
   have hi2 : (j : Int) < (s.size : Int) := by omega
   have hd1 : (48 : Int) <= (s[j].toNat : Int) := by omega
   have hd2 : (s[j].toNat : Int) <= 57 := by omega
   have hdig : IntKind.i64.wrap (IntKind.u8.wrap ((s[j].toNat : Int) - 48)) = ((s[j].toNat - 48 : Nat) : Int) := by rw [IntWalk.u8_in _ (by omega), IntWalk.i64_in _ (by omega)]; omega
   have HG := Lib.hid hdig; clear hdig hb
   have hcond : ¬ 9223372036854775807 < a.size + b.size := by omega
   go_wp2_with fail
   go_region_with
    (first
     | (go_at_call_of 155 (Value.int .i64 10); refine (of_c 10 _ (by omega) (by omega)).mono ?_; rintro e w4 ⟨s4, A4, n4, c4, rfl, hv4, hb4⟩; (have hO4 := heap_below (w := wr.drew) hO hb4); (have hR4 := heap_below (w := wr.drew) hR hb4); (have hbel4 := below_then hb4 hbel.drew hzr); obtain ⟨r10, r11, -, -, -⟩ := box2 hO4)
     | (go_at_call 156; refine (times_c _ (by exact Big.below (w := wr.drew) hbig hb4) hv4 hsm (small_of_le (by omega) (by omega))).mono ?_; rintro e w5 ⟨s5, A5, n5, c5, rfl, hv5, hb5⟩; (have hO5 := heap_below hO4 hb5); (have hR5 := heap_below hR4 hb5); (have hbel5 := below_then hb5 hbel4 hbel4.size))
     | (go_at_call 155; rw [HG.out]; refine (of_c _ _ (by omega) (by omega)).mono ?_; rintro e w6 ⟨s6, A6, n6, c6, rfl, hv6, hb6⟩; (have hO6 := heap_below hO5 hb6); (have hR6 := heap_below hR5 hb6); (have hbel6 := below_then hb6 hbel5 hbel5.size))
     | (go_at_call 157; refine (plus_c _ (hv5.below hb6) hv6 hsm2 (small_of_le (by omega) (by omega))).mono ?_; rintro e w7 ⟨s7, A7, n7, c7, rfl, hv7, hb7⟩; (have hO7 := heap_below hO6 hb7); (have hR7 := heap_below hR6 hb7); (have hbel7 := below_then hb7 hbel6 hbel6.size); obtain ⟨g0, g1, g2, g3, g4⟩ := box2 hO7))
   all_goals
    have hstep : ((numL (s.data.toList.take j) : Nat) : Int) * 10 + ((s[j].toNat - 48 : Nat) : Int) = ((numL (s.data.toList.take (j + 1)) : Nat) : Int) := by
     rw [numL_step (l := s.data.toList) (by simpa using hjn), data_get s j hjn]; omega
    rw [hstep] at hv7
    clear hstep
    have hN := hv7.box2 hO7 (by decide) (.bool s7) (.slice A7 n7 c7)
    have hO8 := heap_set (heap_set hO7 0 (.bool s7)) 1 (.slice A7 n7 c7)
    have hR8 := heap_far (heap_far hR7 (p := ⟨w2.heap.size, 0, none⟩) (by dsimp only; omega) (.bool s7)) (p := ⟨w2.heap.size, 1, none⟩) (by dsimp only; omega) (.slice A7 n7 c7)
    have hb' := (hbel7.setCell (p := ⟨w2.heap.size, 0, none⟩) hz2 (.bool s7)).setCell (p := ⟨w2.heap.size, 1, none⟩) hz2 (.slice A7 n7 c7)
    generalize (w7.setCell ⟨w2.heap.size, 0, none⟩ (.bool s7)).setCell ⟨w2.heap.size, 1, none⟩ (.slice A7 n7 c7) = w8 at hN hO8 hR8 hb' ⊢
    clear hv7 hO7 hR7 hb7 hbel7 g0 g1 g2 g3 g4 hv6 hv5 hv4 hO6 hO5 hO4 hR6 hR5 hR4 hb6 hb5 hb4 hbel6 hbel5 hbel4
    go_wp2
    go_roundw
    case rel => exact ⟨j + 1, s7, A7, n7, c7, by omega, by go_num, hO8, hR8, hN, hb'⟩
    case measure => simp [intOf]; omega
  ·obtain rfl : j = s.size := by omega
   rw [show s.data.toList.take s.size = s.data.toList from List.take_of_length_le (by simp)] at hbig
   obtain ⟨g0, g1, g2, g3, g4⟩ := box2 hR
   cases neg with
   | false =>
    go_wp2_with fail
    refine (mk_c _ (b.size : Int) hbig).mono ?_
    rintro e w3 ⟨rfl, hb3⟩
    have hR3 := heap_below hR hb3
    obtain ⟨g0, g1, g2, g3, g4⟩ := box2 hR3
    have hbel3 := below_then hb3 hbel hzr
    rw [show made ((numL s.data.toList : Nat) : Int) (b.size : Int) = readR false s.data.toList (b.size : Int) from rfl]
    generalize readR false s.data.toList (b.size : Int) = R at *
    obtain ⟨R1, R2, R3⟩ := R
    go_wp2
    refine bodyPost_ret (v := .tuple #[.agg #[.int .i64 R1, .int .i64 R2], .int .i64 R3]) (by simp [results, Tryz.results109, go_sem, g0, g1]) rfl ⟨rfl, ?_⟩
    go_grown
   | true =>
    by_cases hz0 : numL s.data.toList = 0
    ·have e : readR true s.data.toList (b.size : Int) = (0, 0, 10) := by unfold readR; rw [if_pos rfl, if_pos hz0]
     have HE := Lib.hid e
     clear e
     have hsg : ((numL s.data.toList : Nat) : Int).sign = 0 := by rw [hz0]; rfl
     have HS := Lib.hid hsg; clear hsg hz0
     go_wp2_with fail
     refine (sign_c _ hbig).mono ?_
     rintro e w3 ⟨rfl, hb3⟩
     rw [HS.out]
     have hR3 := heap_below hR hb3
     obtain ⟨g0, g1, g2, g3, g4⟩ := box2 hR3
     have hbel3 := below_then hb3 hbel hzr
     go_wp2
     refine bodyPost_ret (v := .tuple #[.agg #[.int .i64 0, .int .i64 0], .int .i64 10]) (by simp [results, Tryz.results109, go_sem, g0, g1]) rfl ⟨by rw [HE.out], ?_⟩
     go_grown
    ·have e : readR true s.data.toList (b.size : Int) = made (-((numL s.data.toList : Nat) : Int)) (b.size : Int) := by unfold readR; rw [if_pos rfl, if_neg hz0]
     have HE := Lib.hid e
     clear e
     have hsg : ((numL s.data.toList : Nat) : Int).sign = 1 := Int.sign_eq_one_of_pos (by omega)
     have HS := Lib.hid hsg; clear hsg hz0
     go_wp2_with fail
     refine (sign_c _ hbig).mono ?_
     rintro e w3 ⟨rfl, hb3⟩
     rw [HS.out]
     have hR3 := heap_below hR hb3
     have hO3 := heap_below hO hb3
     have hbel3 := below_then hb3 hbel hzr
     have hbig3 := hbig.below hb3
     obtain ⟨g0, g1, g2, g3, g4⟩ := box2 hR3
     obtain ⟨o0, o1, of0, of1, oz⟩ := box2 hO3
     go_wp2_with fail
     refine (minus_c _ hbig3).mono ?_
     rintro e w4 ⟨s4, A4, n4, c4, rfl, hv4, hb4⟩
     have hR4 := heap_below hR3 hb4
     have hO4 := heap_below hO3 hb4
     have hbel4 := below_then hb4 hbel3 hbel3.size
     obtain ⟨g0, g1, g2, g3, g4⟩ := box2 hR4
     obtain ⟨o0, o1, of0, of1, oz⟩ := box2 hO4
     have hN := hv4.box2 hO4 (by decide) (.bool s4) (.slice A4 n4 c4)
     have hR8 := heap_far (heap_far hR4 (p := ⟨w2.heap.size, 0, none⟩) (by dsimp only; omega) (.bool s4)) (p := ⟨w2.heap.size, 1, none⟩) (by dsimp only; omega) (.slice A4 n4 c4)
     have hb' := (hbel4.setCell (p := ⟨w2.heap.size, 0, none⟩) hz2 (.bool s4)).setCell (p := ⟨w2.heap.size, 1, none⟩) hz2 (.slice A4 n4 c4)
     go_wp2_with fail
     refine (mk_c _ (b.size : Int) hN).mono ?_
     rintro e w5 ⟨rfl, hb5⟩
     have hR5 := heap_below hR8 hb5
     obtain ⟨g0, g1, g2, g3, g4⟩ := box2 hR5
     have hbel5 := below_then hb5 hb' hb'.size
     rw [<- HE.out]
     clear HE
     generalize readR true s.data.toList (b.size : Int) = R at *
     obtain ⟨R1, R2, R3⟩ := R
     go_wp2
     refine bodyPost_ret (v := .tuple #[.agg #[.int .i64 R1, .int .i64 R2], .int .i64 R3]) (by simp [results, Tryz.results109, go_sem, g0, g1]) rfl ⟨rfl, ?_⟩
     go_grown
end Go.Proofs.YthjlleifpnpfgaaGreatDoor
