
/- slices.SortedFunc over maps.Keys: the keys in order. -/
import Derived.Test.YthjlleifpnpfgaaGreatDoorDFJ
import Derived.Test.YthjlleifpnpfgaaGreatDoorDFM
import Derived.Test.YthjlleifpnpfgaaGreatDoorShelfS
import Derived.Test.YthjlleifpnpfgaaGreatDoorM2
import Derived.Shelf.SlSortCmp.WholeK
import Derived.Sort.LotA
namespace Go.Proofs.YthjlleifpnpfgaaGreatDoor
open Go.RowKit Go.Maps Go.Shelf
open Go.Sort (flatK get_flatK size_flatK HoldsK putRowK size_putRowK SWO)
set_option linter.unusedVariables false
set_option linter.unusedSimpArgs false
theorem below_sortK {α : Type} [Inhabited α] {enc : α -> List Value} {k : Nat} {w : World} {base g n : Nat} {d : Array α} {os : Array Obj} (hg : base <= g) (hb : base <= w.heap.size) : Below base w (sortWorldK enc k w g 0 n d os) := by
 refine ⟨rfl, rfl, rfl, ?_, fun j hj => ?_⟩
 ·unfold sortWorldK
  rw [Sort.size_grow, size_putRowK]
  show w.heap.size <= w.heap.size + _
  omega
 ·show ((w.heap.modify g _) ++ os)[j]? = _
  rw [Array.getElem?_append_left (by simp; omega), Array.getElem?_modify, if_neg (by omega)]
def kyA (ks : List KeyP) (j : Nat) : KeyP := ks.getD j default
theorem kyA_get {ks : List KeyP} {j : Nat} (h : j < ks.length) : ks[j] = kyA ks j := by simp [kyA, List.getD_eq_getElem?_getD, h]
def keyVi (ks : List KeyP) (j i : Nat) : Value := match i with | 0 => .string (kyA ks j).tag | _ => .string (kyA ks j).key
theorem keyC_at : ∀ {r : List KeyP} {j : Nat}, j < r.length -> ∀ i, i < 2 -> (r.flatMap keyC)[j * 2 + i]? = some (keyVi r j i)
 | [], j, h, i, hi => by simp at h
 | s :: r, 0, h, i, hi => by
  match i, hi with
  | 0, _ => rfl
  | 1, _ => rfl
 | s :: r, j + 1, h, i, hi => by
  have ih := keyC_at (r := r) (j := j) (by simpa using h) i hi
  have e : ((s :: r).flatMap keyC)[(j + 1) * 2 + i]? = (r.flatMap keyC)[j * 2 + i]? := by
   show (keyC s ++ r.flatMap keyC)[(j + 1) * 2 + i]? = _
   rw [List.getElem?_append_right (by simp [keyC]; omega)]
   congr 1
   simp [keyC]
   omega
  rw [e, ih]
  unfold keyVi
  have : kyA (s :: r) (j + 1) = kyA r j := by simp [kyA]
  rw [this]
theorem flatK_at (ks : List KeyP) (t : Nat) (h : t < ks.length * 2) : (flatK keyC 2 ks.toArray)[t]! = keyVi ks (t / 2) (t % 2) := by
 rw [get_flatK _ _ _ _ (by simpa using h)]
 have h2 : t / 2 < ks.length := by omega
 have e : ks.toArray[t / 2]! = kyA ks (t / 2) := by simp [kyA, List.getD_eq_getElem?_getD, h2]
 rw [e]
 rcases Nat.mod_two_eq_zero_or_one t with h3 | h3
 ·rw [h3]; rfl
 ·rw [h3]; rfl
theorem holds_keys {w : World} {base g cap : Nat} {ks : List KeyP} (h : w.ownsRow base 54 2 (.slice (some ⟨g, 0, none⟩) ks.length cap) ks.length (ks.flatMap keyC)) : HoldsK keyC 2 w g 0 ks.toArray := by
 obtain ⟨-, h2⟩ := h
 rcases h2 with ⟨h2, -⟩ | ⟨g', cap', cur, hv, hb, hh, hn, hm, hs, ht⟩
 ·cases h2
 cases hv
 intro j hj
 have hj2 : j < ks.length * 2 := by simpa using hj
 have hc : cur[j]? = some (keyVi ks (j / 2) (j % 2)) := by
  have e := congrArg (fun l => l[j]?) ht
  simp only [List.getElem?_take, if_pos hj2] at e
  rw [show j = j / 2 * 2 + j % 2 by omega, keyC_at (by omega) _ (by omega)] at e
  rw [show j / 2 * 2 + j % 2 = j by omega] at e
  simpa using e
 refine ⟨?_, by simp [World.frozen?, hh]⟩
 rw [Nat.zero_add, cell_of_row _ _ _ _ _ _ hh, hc]
 show _ = some (id _)
 rw [flatK_at ks j hj2]; rfl
theorem rws_keys {w : World} {g : Nat} {ks : List KeyP} (hg : g < w.heap.size) (h : HoldsK keyC 2 w g 0 ks.toArray) : Rws w (some ⟨g, 0, none⟩) 2 ks.length (keyVi ks) := fun hn => by
 refine ⟨g, 0, rfl, hg, fun j hj i hi => ?_⟩
 obtain ⟨h1, -⟩ := h (j * 2 + i) (by simp; omega)
 rw [show 0 + j * 2 + i = 0 + (j * 2 + i) by omega, h1]
 show some (id _) = _
 rw [id, flatK_at ks _ (by omega), show (j * 2 + i) / 2 = j by omega, show (j * 2 + i) % 2 = i by omega]
theorem swoK : SWO (ltOf cfK) := ⟨fun x => ltK_irr x, fun x y z => ltK_tr x y z, fun x y z => ltK_ntr x y z⟩
set_option maxHeartbeats 2000000 in
theorem sortnil1_c (c : Nat) (fv : Value) (w : World) : Calls Tryz.prog 138 #[.slice none 0 c, .int .i64 0, .int .i64 0, fv] w fun e w' => e = .returned (.tuple #[]) /\ w' = w := by
 go_enter Tryz.func138, Tryz.ntmps138
 go_wp2
 refine wp_loop_rounds 1 ?_
 rw [rounds_succ]
 go_wp2
 go_end0
 exact ⟨rfl, rfl⟩
set_option maxHeartbeats 2000000 in
theorem sortnil2_c (c : Nat) (lim : Int) (fv : Value) (w : World) : Calls Tryz.prog 90 #[.slice none 0 c, .int .i64 0, .int .i64 0, .int .i64 lim, fv] w fun e w' => e = .returned (.tuple #[]) /\ w' = w := by
 go_enter Tryz.func90, Tryz.ntmps90
 go_wp2
 refine wp_loop_rounds 1 ?_
 rw [rounds_succ]
 go_wp2_with (go_at_call 138; refine (sortnil1_c _ _ _).mono ?_; rintro e w' ⟨rfl, rfl⟩)
 (try simp only [Exit.inBlock, Exit.then]); refine bodyPost_ret (results_none rfl _ _ _) rfl ?_
 exact ⟨rfl, rfl⟩
set_option maxHeartbeats 2000000 in
theorem sortnil_c (c : Nat) (fv : Value) (w : World) : Calls Tryz.prog 59 #[.slice none 0 c, fv] w fun e w' => e = .returned (.tuple #[]) /\ w' = w := by
 have hl : ∀ W, Calls Tryz.prog 91 #[.int .u64 0] W fun e w' => e = .returned (.int .i64 (Lib.bitLen 0 : Nat)) /\ w' = W := fun W => by
  have h := Any.bits_Len (SlLaysF0.n15.bits (P := Tryz.prog) (ρ := Tryz.srtK_ren) { Tryz.srtK with }) 0 W (by omega) (by omega)
  exact h
 go_enter Tryz.func59, Tryz.ntmps59
 go_wp2_with (first | (go_at_call 91; refine (hl _).mono ?_; rintro e w' ⟨rfl, rfl⟩) | (go_at_call 90; refine (sortnil2_c _ _ _ _).mono ?_; rintro e w' ⟨rfl, rfl⟩))
 go_end0
 exact ⟨rfl, rfl⟩
set_option maxHeartbeats 4000000 in
set_option maxRecDepth 100000 in
theorem sortf_c (Bm b nn : Nat) (S : KeyP -> Prop) (w : World) (hBm : Bm < w.heap.size) (hm : w.cell? ⟨Bm, 0, none⟩ = some (.map (some b))) (hown : MapS Tryz.prog 54 w b nn S) (hnn : nn <= 1000000) :
  Calls Tryz.prog 24 #[.func (.func 60) #[] #[.pointer (some ⟨Bm, 0, none⟩)], .func (.func 26) #[] #[]] w
   fun e w' => ∃ (A : Option Addr) (c : Nat) (ks : List KeyP), e = .returned (.slice A ks.length c) /\ (∃ ss : List KeyP, ss.Nodup /\ (∀ x, KeyZ x -> (x ∈ ss ↔ S x)) /\ (∀ x ∈ ss, KeyZ x) /\ ks = srtK ss) /\ ks.length <= nn /\ Rws w' A 2 ks.length (keyVi ks) /\ Below w.heap.size w w' := by
 have HCL := Lib.hid (collect_c Bm b nn S w hBm hm hown hnn)
 clear hm hown
 go_enter Tryz.func24, Tryz.ntmps24
 go_wp2_with fail
 refine HCL.out.mono ?_
 rintro _ w2 ⟨v, ss, rfl, hle, hS, hrow, hz, hb⟩
 clear HCL
 have HS := Lib.hid hS; have HZ := Lib.hid hz; have HB := Lib.hid hb
 have HLE := Lib.hid hle
 have h2 := hrow.2
 rcases h2 with ⟨rfl, hn⟩ | ⟨g, cap, cur, rfl, hg, hh, hnc, hcm, hsz, ht⟩
 ·have HN := Lib.hid (show srtK ss = [] by rw [List.length_eq_zero_iff.1 hn]; simp [srtK])
  clear hrow hS hz hb hn hBm hnn hle
  go_wp2_with fail
  refine (sortnil_c _ _ _).mono ?_
  rintro _ w3 ⟨rfl, rfl⟩
  go_wp2
  go_ret
  exact ⟨none, 0, srtK ss, by rw [HN.out]; rfl, ⟨ss, HS.out.1, HS.out.2, HZ.out, rfl⟩, by rw [HN.out]; exact Nat.zero_le _, by rw [HN.out]; exact fun h => absurd h (Nat.lt_irrefl _), HB.out⟩
 ·have hH := holds_keys hrow
  have hgl : g < w2.heap.size := (Array.getElem?_eq_some_iff.1 hh).1
  have hcon := AnyQ.slices_SortFunc (P := Tryz.prog) (ρ := Tryz.srtK_ren) Tryz.srtK 2 Tryz.isAgg54 Tryz.sizeOf54 keyC (fun _ => rfl) (fun x v hv => by simp [keyC] at hv; rcases hv with rfl | rfl <;> rfl) cfK swoK 26 #[] g 0 cap ss.toArray w2
   (enters_of Tryz.func26 (by kernel_rfl) rfl) (fun _ _ _ _ x y => cmpk_c x y _) hH hgl (by show ss.length < _; omega)
  change Calls Tryz.prog 59 _ _ _ at hcon
  have HCON := Lib.hid hcon
  have HH := Lib.hid hH
  clear hrow hS hz hb hh hnc hcm hsz ht hH hcon hBm hnn hle
  obtain ⟨nk, hnk⟩ : ∃ x, ss.length = x := ⟨_, rfl⟩
  have HNK := Lib.hid hnk
  rw [hnk]
  rw [show ss.toArray.size = nk from hnk] at HCON
  clear hnk
  go_wp2_with fail
  refine HCON.out.mono ?_
  rintro _ w3 ⟨rfl, d', n, os, hp, hs, hw3⟩
  have hd := Sort.sorted_unique_holds (lt := ltOf cfK) swoK (fun x y h1 h2 => ltK_anti h1 h2) ss.toArray d' (by show Sort.PermIn 0 ss.length ss.toArray d'; rw [HNK.out]; exact hp) (by show Sort.SortedIn _ 0 ss.length d'; rw [HNK.out]; exact hs)
  have HD := Lib.hid (show d'.toList = srtK ss from hd)
  have HL := Lib.hid (show (srtK ss).length = nk by rw [<- HNK.out]; exact (List.mergeSort_perm ss _).length_eq)
  have hds : d'.size = ss.toArray.size := by show d'.toList.length = ss.length; rw [HD.out, HL.out, HNK.out]
  have HH3 := Lib.hid (show HoldsK keyC 2 w3 g 0 (srtK ss).toArray by rw [<- HD.out, hw3]; exact holdsK_sortWorldK keyC 2 w2 g 0 n ss.toArray d' os hgl HH.out hds)
  have HB3 := Lib.hid (show Below w.heap.size w w3 by rw [hw3]; exact ⟨HB.out.os, HB.out.tape, HB.out.output, Nat.le_trans HB.out.size (below_sortK (w := w2) (enc := keyC) (k := 2) (n := n) (d := d') (os := os) hg HB.out.size).size, fun k hk => ((below_sortK (w := w2) (enc := keyC) (k := 2) (n := n) (d := d') (os := os) hg HB.out.size).block k hk).trans (HB.out.block k hk)⟩)
  have HG3 := Lib.hid (show g < w3.heap.size by rw [hw3]; exact Nat.lt_of_lt_of_le hgl (below_sortK (w := w2) (enc := keyC) (k := 2) (n := n) (d := d') (os := os) (base := 0) (Nat.zero_le _) (Nat.zero_le _)).size)
  clear hw3 hd hds hp hs hgl
  go_wp2
  go_ret
  exact ⟨some ⟨g, 0, none⟩, cap, srtK ss, by rw [HL.out]; rfl, ⟨ss, HS.out.1, HS.out.2, HZ.out, rfl⟩, by rw [HL.out, <- HNK.out]; exact HLE.out, rws_keys HG3.out HH3.out, HB3.out⟩
end Go.Proofs.YthjlleifpnpfgaaGreatDoor
