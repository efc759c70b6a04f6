
/- The walks of package whole: less. -/
import Derived.Test.YtlkidhfjkgppoaaDoorW2
import Derived.WalkSmall
namespace Go.Proofs.YtlkidhfjkgppoaaDoor
open Go.RowKit Limb

theorem u64w (x : Int) : IntKind.u64.wrap x = x % 18446744073709551616 := by simp [IntKind.wrap, IntKind.bits, IntKind.signed]
theorem sub_digit (p br q : Nat) (hbr : br ≤ 1) (hp : p < 4294967296) (hq : q < 4294967296) :
    IntKind.u64.wrap (IntKind.u64.wrap ((p : Int) - br) - q) % 4294967296 = ((dig B32 br p q : Nat) : Int) := by
  rw [u64w, u64w]; unfold dig B32; split <;> omega
theorem sub_borrow (p br q : Nat) (hbr : br ≤ 1) (hp : p < 4294967296) (hq : q < 4294967296) :
    bits BinOp.and IntKind.u64 (IntKind.u64.wrap (IntKind.u64.wrap ((p : Int) - br) - q) / 4294967296) 1 = ((bor br p q : Nat) : Int) := by
  have h : 0 ≤ IntKind.u64.wrap (IntKind.u64.wrap ((p : Int) - br) - q) ∧ IntKind.u64.wrap (IntKind.u64.wrap ((p : Int) - br) - q) ≤ 18446744073709551615 := by rw [u64w]; omega
  rw [and_one_u64 _ (by omega) (by omega), u64w, u64w]
  unfold bor; split <;> omega
theorem sub_digit0 (p br : Nat) (hbr : br ≤ 1) (hp : p < 4294967296) : IntKind.u64.wrap ((p : Int) - br) % 4294967296 = ((dig B32 br p 0 : Nat) : Int) := by
  rw [u64w]; unfold dig B32; split <;> omega
theorem sub_borrow0 (p br : Nat) (hbr : br ≤ 1) (hp : p < 4294967296) : bits BinOp.and IntKind.u64 (IntKind.u64.wrap ((p : Int) - br) / 4294967296) 1 = ((bor br p 0 : Nat) : Int) := by
  have h : 0 ≤ IntKind.u64.wrap ((p : Int) - br) ∧ IntKind.u64.wrap ((p : Int) - br) ≤ 18446744073709551615 := by rw [u64w]; omega
  rw [and_one_u64 _ (by omega) (by omega), u64w]
  unfold bor; split <;> omega

theorem less_rel {l m os : List Nat} {j br p q : Nat} (hos : os.length = j) (hval : val B32 (l.take j) + B32 ^ j * br = val B32 os + val B32 (m.take j)) (hp : p = dg l j) (hq : q = dg m j) (gos : Digs B32 os) (hbr : br ≤ 1) (b1 : p < 4294967296) (b2 : q < 4294967296) :
    (os ++ [dig B32 br p q]).length = j + 1 ∧ Digs B32 (os ++ [dig B32 br p q]) ∧ val B32 (l.take (j + 1)) + B32 ^ (j + 1) * bor br p q = val B32 (os ++ [dig B32 br p q]) + val B32 (m.take (j + 1)) := by
  subst hos
  refine ⟨by simp, gos.snoc (dig_lt hbr b1 b2), ?_⟩
  have h := diff_step hval hbr (b := B32) (p := p) (q := q) b1 b2
  rw [val_take_succ, val_take_succ]
  rw [hp, hq] at h ⊢
  exact h

set_option maxHeartbeats 1000000 in
set_option maxRecDepth 100000 in
theorem less_c (l m : List Nat) (A B : Option Addr) (n c k d : Nat) (w : World) (hd : Dig w .u32 92 A n l) (he : Dig w .u32 92 B k m)
    (gl : Digs B32 l) (gm : Digs B32 m) (hn : n ≤ 2000) (hkn : k ≤ n) (hle : val B32 m ≤ val B32 l) :
    Calls Tryd.prog 43 #[.slice A n c, .slice B k d] w fun e w' => ∃ v os, e = .returned v ∧ Row 92 w.heap.size w' v os ∧ Digs B32 os ∧ Norm os ∧ val B32 os = val B32 l - val B32 m ∧ Below w.heap.size w w' := by
  have hll := hd.1
  have hml := he.1
  obtain ⟨i0, hi, hz0, hz1, hz2⟩ := info_parts Tryd.info92
  have HL := Lib.hid hle; clear hle
  go_enter Tryd.func43, Tryd.ntmps43
  go_wp2_with (first
      | (at_make; refine wpList_make_own _ rfl _ _ 74 rfl w.heap.size 92 i0 (.int .u32 0) 1 Tryd.underlying74 hi hz0 hz1 .i64 .i64 _ n rfl rfl (by omega) (by rw [hz2]; omega) (by unfold maxLen; omega) (Nat.le_refl _) ?_; intro w1 hown1 hg1))
  have hg0 : Below w.heap.size w w1 := (Below.refl _ _).grown hg1 (Nat.le_refl _) (fun _ h => by cases h)
  go_loopw [5, 6, 15] (fun v cv i wr => ∃ (j br : Nat) (os : List Nat), j ≤ n ∧ i = .int .i64 j ∧ cv = .int .u64 br ∧ os.length = j ∧ v = .slice (some ⟨w.heap.size, 0, none⟩) j n ∧
      wr.ownsRow w.heap.size 92 1 (.slice (some ⟨w.heap.size, 0, none⟩) j n) j (digV .u32 os) ∧ Digs B32 os ∧ br ≤ 1 ∧ val B32 (l.take j) + B32 ^ j * br = val B32 os + val B32 (m.take j) ∧ Below w.heap.size w wr)
    (fun _ _ i _ => n - (intOf i).toNat)
  case atStart => exact ⟨0, 0, [], Nat.zero_le _, rfl, rfl, rfl, rfl, hown1, Digs.nil _, by omega, by simp [val], hg0⟩
  case round =>
    obtain ⟨j, br, os, hj, rfl, rfl, hos, rfl, hown, gos, hbr, hval, hbel⟩ := hrel
    have HV := Lib.hid hval; have HO := Lib.hid hos; clear hval hos
    rcases Nat.lt_or_ge j n with hjn | hjn
    · obtain ⟨g, rfl, hg, hc1⟩ := hd.at_ (by omega)
      have hx := (hbel.cell (p := ⟨g, j, none⟩) hg).trans (hc1 j hjn)
      have b1 : dg l j < 4294967296 := dg_lt gl (by decide) j
      have b2 : dg m j < 4294967296 := dg_lt gm (by decide) j
      have hwr := hbel.size
      clear hc1
      rcases Nat.lt_or_ge j k with hjk | hjk
      · obtain ⟨g', rfl, hg', hc2⟩ := he.at_ (by omega)
        have hy := (hbel.cell (p := ⟨g', j, none⟩) hg').trans (hc2 j hjk)
        clear hc2
        go_wp2_with (first
          | (at_builtin; refine wpList_push_fits rfl _ _ 74 rfl w.heap.size 92 i0 Tryd.underlying74 hi hz1 w.heap.size j n (digV .u32 os) rfl hown _ rfl rfl (by omega) ?_; intro w2 hown2 hg2))
        go_roundw
        case rel =>
          obtain ⟨r1, r2, r3⟩ := less_rel HO.out HV.out rfl rfl gos hbr b1 b2
          exact ⟨j + 1, bor br (dg l j) (dg m j), os ++ [dig B32 br (dg l j) (dg m j)], by omega, by go_num, congrArg _ (sub_borrow _ _ _ hbr b1 b2), r1, rfl,
            row_cast hown2 (sub_digit _ _ _ hbr b1 b2), r2, bor_le _ _ _, r3, hbel.grown hg2 hwr (by intro g h; injection h with h; omega)⟩
        case measure => simp [intOf]; omega
      · go_wp2_with (first
          | (at_builtin; refine wpList_push_fits rfl _ _ 74 rfl w.heap.size 92 i0 Tryd.underlying74 hi hz1 w.heap.size j n (digV .u32 os) rfl hown _ rfl rfl (by omega) ?_; intro w2 hown2 hg2))
        go_roundw
        case rel =>
          obtain ⟨r1, r2, r3⟩ := less_rel (q := 0) HO.out HV.out rfl (dg_out (by omega)).symm gos hbr b1 (by omega)
          exact ⟨j + 1, bor br (dg l j) 0, os ++ [dig B32 br (dg l j) 0], by omega, by go_num, congrArg _ (sub_borrow0 _ _ hbr b1), r1, rfl,
            row_cast hown2 (sub_digit0 _ _ hbr b1), r2, bor_le _ _ _, r3, hbel.grown hg2 hwr (by intro g h; injection h with h; omega)⟩
        case measure => simp [intOf]; omega
    · obtain rfl : j = n := by omega
      have hcap := (own_cap hown).2
      go_wp2_with fail
      refine (trimmed_c os _ j j _ (Dig.of_own hown) (Nat.le_refl _) hcap).mono ?_
      rintro e w' ⟨rfl, q, hq, ht, rfl⟩
      have HT := Lib.hid ht; clear ht
      go_wp2
      go_ret
      have hv := HV.out
      rw [List.take_of_length_le (by omega), List.take_of_length_le (by omega)] at hv
      have hlen : (trim os).length = q := by rw [HT.out, List.length_take, HO.out]; omega
      refine ⟨_, trim os, rfl, ?_, digs_trim gos, norm_trim os, ?_, hbel⟩
      · unfold Row
        rw [hlen, HT.out]
        exact own_take hown hq
      · rw [val_trim]
        have hO := HO.out
        rw [← hO] at hv
        exact diff_end hv gos HL.out

end Go.Proofs.YtlkidhfjkgppoaaDoor
