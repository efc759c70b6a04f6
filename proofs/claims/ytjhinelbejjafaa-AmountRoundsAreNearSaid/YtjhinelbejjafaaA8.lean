
/- The walks of Below, and of Clone and Reverse at decimals. -/
import Derived.Test.YtjhinelbejjafaaA7
import Derived.WalkSpells
namespace Go.Proofs.Ytjhinelbejjafaa
open Go.RowKit Limb

set_option maxRecDepth 100000 in
theorem below_c (x n : Int) (w : World) (hx : -9223372036854775808 ≤ x ∧ x ≤ 9223372036854775807) (hn : 1 ≤ n) (hn2 : n ≤ 4611686018427387904) :
    Calls Try.prog 11 #[.int .i64 x, .int .i64 n] w fun e w' => w = w' ∧ e = .returned (.int .i64 (x % n)) := by
  have h0 : (n == 0) = false := by simp; omega
  by_cases hp : 0 ≤ x
  · have h1 : 0 ≤ x % n := Int.emod_nonneg _ (by omega)
    go_enter Try.func11, Try.ntmps11
    go_wp2
    go_ret
    exact ⟨rfl, rfl⟩
  · by_cases hz : x % n = 0
    · have ht : x.tmod n = 0 := by rw [Int.tmod_eq_emod]; simp [hz, Int.dvd_of_emod_eq_zero hz]
      have HT := Lib.hid ht; have HZ := Lib.hid hz; clear ht hz
      have ht := HT.out
      go_enter Try.func11, Try.ntmps11
      go_wp2
      go_ret
      exact ⟨rfl, by rw [HZ.out]; rfl⟩
    · have ht : x.tmod n = x % n - n := by
        rw [Int.tmod_eq_emod]
        have h3 : ¬ n ∣ x := fun h => hz (Int.emod_eq_zero_of_dvd h)
        simp [hp, h3]
        omega
      have h4 : 0 ≤ x % n := Int.emod_nonneg _ (by omega)
      have h5 : x % n < n := Int.emod_lt_of_pos _ (by omega)
      have HT := Lib.hid ht
      generalize hr : x % n = r at *
      have h6 : r - n < 0 := by omega
      clear hz hr
      go_enter Try.func11, Try.ntmps11
      go_wp2
      go_ret
      exact ⟨rfl, rfl⟩

theorem Try.info24 : (Try.prog.info? 24).map (fun i => (i.zero, i.size, i.bytes)) = some (some (.agg #[.int .i64 0, .int .i64 0]), 2, 16) := by kernel_rfl

/-- Decimals as cells. -/
def decV (ds : List (Int × Int)) : List Value := ds.flatMap fun d => [.int .i64 d.1, .int .i64 d.2]
theorem decV_length (ds : List (Int × Int)) : (decV ds).length = ds.length * 2 := by
  induction ds with
  | nil => rfl
  | cons d ds ih => simp [decV] at ih ⊢; omega
theorem decV_get (ds : List (Int × Int)) (j : Nat) (h : j < ds.length) : (decV ds)[j * 2]? = some (.int .i64 (dU ds j)) ∧ (decV ds)[j * 2 + 1]? = some (.int .i64 (dP ds j)) := by
  induction ds generalizing j with
  | nil => simp at h
  | cons d ds ih =>
    cases j with
    | zero => simp [decV, dU, dP]
    | succ j =>
      have := ih j (by simpa using h)
      have e1 : (j + 1) * 2 = j * 2 + 2 := by omega
      rw [e1]
      simpa [decV, dU, dP, List.getD_eq_getElem?_getD] using this
theorem decV_one (ds : List (Int × Int)) : ∀ u ∈ decV ds, u.oneCell' = true := by
  intro u hu
  simp only [decV, List.mem_flatMap] at hu
  obtain ⟨d, _, hd⟩ := hu
  simp at hd
  rcases hd with rfl | rfl <;> rfl
theorem Decs.news {w : World} {b off n : Nat} {ds : List (Int × Int)} (h : Decs w (some ⟨b, off, none⟩) n ds) : ∀ j u, (decV ds)[j]? = some u → w.cell? ((⟨b, off, none⟩ : Addr).add j) = some u := by
  intro j u hj
  have hlt : j < (decV ds).length := by
    rcases Nat.lt_or_ge j (decV ds).length with h1 | h1
    · exact h1
    · rw [List.getElem?_eq_none h1] at hj; cases hj
  rw [decV_length] at hlt
  have hn := h.1
  obtain ⟨b', off', e, _, hc⟩ := h.2.2 (by omega)
  injection e with e
  injection e with e1 e2
  subst e1; subst e2
  have hadd : (⟨b, off, none⟩ : Addr).add j = ⟨b, off + j, none⟩ := by unfold Addr.add; split <;> simp_all
  rw [hadd]
  have h1 := hc (j / 2) (by omega)
  have h2 := decV_get ds (j / 2) (by omega)
  rcases Nat.mod_two_eq_zero_or_one j with hm | hm
  · have ej : j / 2 * 2 = j := by omega
    rw [ej] at h1 h2
    rw [h2.1] at hj
    rw [← hj]
    exact h1.1
  · have ej : j / 2 * 2 + 1 = j := by omega
    have e3 : off + j / 2 * 2 + 1 = off + j := by omega
    rw [ej] at h2
    rw [e3] at h1
    rw [h2.2] at hj
    rw [← hj]
    exact h1.2

theorem decV_set (ds : List (Int × Int)) (i : Nat) (u p : Int) : decV (ds.set i (u, p)) = ((decV ds).set (i * 2) (.int .i64 u)).set (i * 2 + 1) (.int .i64 p) := by
  induction ds generalizing i with
  | nil => simp [decV]
  | cons d ds ih =>
    cases i with
    | zero => simp [decV]
    | succ i =>
      have := ih i
      have e1 : (i + 1) * 2 = i * 2 + 2 := by omega
      rw [e1]
      simpa [decV] using this

/-- What Clone comes to. -/
def Cloned (ds : List (Int × Int)) (w : World) (e : Ending) (w' : World) : Prop :=
  ∃ A c, e = .returned (.slice A ds.length c) ∧ w'.ownsRow w.heap.size 24 2 (.slice A ds.length c) ds.length (decV ds) ∧ Below w.heap.size w w'

set_option maxHeartbeats 1000000 in
set_option maxRecDepth 100000 in
theorem clone_c (ds : List (Int × Int)) (A : Option Addr) (n c : Nat) (w : World) (hd : Decs w A n ds) (hA : A = none → n = 0 ∧ c = 0) (hnc : n ≤ c) (hA2 : ∀ a, A = some a → 0 < c → ∃ b off, a = ⟨b, off, none⟩) (hn : n ≤ 1000) :
    Calls Try.prog 12 #[.slice A n c] w (Cloned ds w) := by
  obtain ⟨i0, hi, hz0, hz1, hz2⟩ := info_parts Try.info24
  cases A with
  | none =>
    obtain ⟨rfl, rfl⟩ := hA rfl
    have h0 : ds = [] := List.length_eq_zero_iff.1 hd.1
    subst h0
    clear hA hA2 hd
    have hnil : ∀ w, (binOp .eql 22 (.slice none 0 0) (.slice none 0 0)).run Try.prog w = .ok (.bool true) w := fun w => Lib.run_eql_slice_nil w _ _ _ _ _ _ _ Try.underlying22
    go_enter Try.func12, Try.ntmps12
    go_wp2
    go_ret
    exact ⟨none, 0, rfl, World.ownsRow_nil _ _ _ _, Below.refl _ _⟩
  | some a =>
    rcases Nat.eq_zero_or_pos c with hc0 | hc0
    · subst hc0
      have hn0 : n = 0 := by omega
      subst hn0
      have h0 : ds = [] := List.length_eq_zero_iff.1 hd.1
      subst h0
      clear hA hA2 hd
      have hnil : ∀ w, (binOp .eql 22 (.slice (some a) 0 0) (.slice none 0 0)).run Try.prog w = .ok (.bool false) w := fun w => Lib.run_eql_slice_nil w _ _ _ _ _ _ _ Try.underlying22
      go_enter Try.func12, Try.ntmps12
      go_wp2_with (first
        | (at_builtin; refine wpList_append_own _ rfl _ _ 22 rfl w.heap.size 24 i0 (.agg #[.int .i64 0, .int .i64 0]) 2 16 Try.underlying22 hi hz0 hz1 hz2 rfl (by omega) _ 0 [] rfl (World.ownsRow_lit w #[] 0 (Nat.le_refl _) (by unfold maxLen; omega) (by simp)) a 0 0 (decV []) rfl ?c1 ?c2 (decV_one []) ?c3 ?c4 ?c5 ?_))
      case c1 => rfl
      case c2 => intro j u hj; simp [decV] at hj
      case c3 => unfold maxLen; omega
      case c4 => omega
      case c5 => simp
      intro v' w1 hown hg _
      obtain ⟨A', c', rfl⟩ := own_slice hown
      have hb : Below w.heap.size w w1 := ((Below.refl _ _).alloc (Nat.le_refl _) _).grown hg (by simp) (by intro k hk; simp [Value.ownBlock] at hk; omega)
      clear hg
      go_wp2
      go_ret
      exact ⟨A', c', rfl, hown, hb⟩
    · obtain ⟨b, off, rfl⟩ := hA2 a rfl hc0
      clear hA hA2
      have hnil : ∀ w, (binOp .eql 22 (.slice (some ⟨b, off, none⟩) n c) (.slice none 0 0)).run Try.prog w = .ok (.bool false) w := fun w => Lib.run_eql_slice_nil w _ _ _ _ _ _ _ Try.underlying22
      go_enter Try.func12, Try.ntmps12
      go_wp2_with (first
        | (at_builtin; refine wpList_append_own _ rfl _ _ 22 rfl w.heap.size 24 i0 (.agg #[.int .i64 0, .int .i64 0]) 2 16 Try.underlying22 hi hz0 hz1 hz2 rfl (by omega) _ 0 [] rfl (World.ownsRow_lit w #[] 0 (Nat.le_refl _) (by unfold maxLen; omega) (by simp)) ⟨b, off, none⟩ n c (decV ds) rfl ?c1 ?c2 (decV_one ds) ?c3 ?c4 ?c5 ?_))
      case c1 => rw [decV_length, hd.1]
      case c2 => exact (hd.alloc _).news
      case c3 => unfold maxLen; omega
      case c4 => omega
      case c5 => simp
      intro v' w1 hown hg _
      obtain ⟨A', c', rfl⟩ := own_slice hown
      have hb : Below w.heap.size w w1 := ((Below.refl _ _).alloc (Nat.le_refl _) _).grown hg (by simp) (by intro k hk; simp [Value.ownBlock] at hk; omega)
      have hlen := hd.1
      subst hlen
      clear hg hd
      go_wp2
      go_ret
      exact ⟨A', c', rfl, hown, hb⟩

set_option maxHeartbeats 2000000 in
set_option maxRecDepth 100000 in
/-- Reverse of a row of the call's own. -/
theorem reverse_c (ds : List (Int × Int)) (B : Nat) (A : Option Addr) (n c : Nat) (w : World) (hown : w.ownsRow B 24 2 (.slice A n c) n (decV ds)) (hl : ds.length = n) (hn : n ≤ 1000) (hn0 : 0 < n) :
    Calls Try.prog 13 #[.slice A n c] w fun e w' => e = .returned (.tuple #[]) ∧ w'.ownsRow B 24 2 (.slice A n c) n (decV ds.reverse) ∧ Below B w w' := by
  obtain ⟨g, hA, hbg⟩ : ∃ g, A = some ⟨g, 0, none⟩ ∧ B ≤ g := by
    rcases hown.2 with ⟨_, h0⟩ | ⟨g, cap, cur, hv, hbg, _⟩
    · omega
    · injection hv with hA
      exact ⟨g, hA, hbg⟩
  subst hA
  go_enter Try.func13, Try.ntmps13
  go_wp2
  go_loopw [2, 3] (fun x y wr => ∃ (i j : Nat) (cs : List (Int × Int)), i + j + 1 = n ∧ x = .int .i64 (i : Int) ∧ y = .int .i64 (j : Int) ∧ i ≤ j + 1 ∧ cs.length = n ∧ wr.ownsRow B 24 2 (.slice (some ⟨g, 0, none⟩) n c) n (decV cs) ∧ (∀ p, p < n → cs[p]? = if p < i ∨ j < p then ds[n - 1 - p]? else ds[p]?) ∧ Below B w wr)
    (fun x y _ => (intOf y + 1 - intOf x).toNat)
  case atStart => exact ⟨0, n - 1, ds, by omega, rfl, by go_num, by omega, hl, hown, fun p hp => by rw [if_neg (by omega)], Below.refl _ _⟩
  case round =>
    obtain ⟨i, j, cs, hij, rfl, rfl, hle, hcl, hown, hperm, hbel⟩ := hrel
    have HP := Lib.hid hperm; have HC := Lib.hid hcl; have HI := Lib.hid hij; clear hperm hcl
    rcases Nat.lt_or_ge i j with hlt | hge
    · have hgi := decV_get cs i (by rw [HC.out]; omega)
      have hgj := decV_get cs j (by rw [HC.out]; omega)
      have hi0 := (hown.cellAt (i * 2) (by omega)).trans hgi.1
      have hi1 := (hown.cellAt (i * 2 + 1) (by omega)).trans hgi.2
      have hj0 := (hown.cellAt (j * 2) (by omega)).trans hgj.1
      have hj1 := (hown.cellAt (j * 2 + 1) (by omega)).trans hgj.2
      have fi0 := hown.frozenAt (i * 2)
      have fi1 := hown.frozenAt (i * 2 + 1)
      have fj0 := hown.frozenAt (j * 2)
      have fj1 := hown.frozenAt (j * 2 + 1)
      have b1 : (0 : Int) ≤ (i : Int) := by omega
      have b2 : (i : Int) < (n : Int) := by omega
      have b3 : (0 : Int) ≤ (j : Int) := by omega
      have b4 : (j : Int) < (n : Int) := by omega
      have b5 : (i : Int) < (j : Int) := by omega
      clear hgi hgj hij
      go_wp2_with fail
      go_region
      have hnew := (((hown.stored (i * 2) (.int .i64 (dU cs j))).1.stored (i * 2 + 1) (.int .i64 (dP cs j))).1.stored (j * 2) (.int .i64 (dU cs i))).1.stored (j * 2 + 1) (.int .i64 (dP cs i))
      have hnew := hnew.1
      rw [← decV_set, ← decV_set] at hnew
      have hb' := (((hbel.setCell (p := ⟨g, i * 2, none⟩) hbg (.int .i64 (dU cs j))).setCell (p := ⟨g, i * 2 + 1, none⟩) hbg (.int .i64 (dP cs j))).setCell (p := ⟨g, j * 2, none⟩) hbg (.int .i64 (dU cs i))).setCell (p := ⟨g, j * 2 + 1, none⟩) hbg (.int .i64 (dP cs i))
      generalize (((wr.setCell ⟨g, i * 2, none⟩ (.int .i64 (dU cs j))).setCell ⟨g, i * 2 + 1, none⟩ (.int .i64 (dP cs j))).setCell ⟨g, j * 2, none⟩ (.int .i64 (dU cs i))).setCell ⟨g, j * 2 + 1, none⟩ (.int .i64 (dP cs i)) = w5 at hnew hb' ⊢
      clear hi0 hi1 hj0 hj1 fi0 fi1 fj0 fj1 hown hbel
      go_wp2
      go_roundw
      case rel =>
        have hI := HI.out
        have hC := HC.out
        refine ⟨i + 1, j - 1, (cs.set i (dU cs j, dP cs j)).set j (dU cs i, dP cs i), by omega, by go_num, congrArg _ (by omega), by omega, by simp [hC], hnew.drew, fun p hp => ?_, hb'.drew⟩
        have hpi := HP.out i (by omega)
        have hpj := HP.out j (by omega)
        have hpp := HP.out p hp
        rw [if_neg (by omega)] at hpi hpj
        have ei : cs[i]? = some (dU cs i, dP cs i) := by rw [List.getElem?_eq_getElem (by omega), dec_get (by omega)]
        have ej : cs[j]? = some (dU cs j, dP cs j) := by rw [List.getElem?_eq_getElem (by omega), dec_get (by omega)]
        rw [List.getElem?_set, List.getElem?_set]
        simp only [List.length_set]
        by_cases h1 : j = p
        · subst h1
          rw [if_pos rfl, if_pos (by omega), if_pos (by omega), ← ei, hpi]
          congr 1
          omega
        · rw [if_neg h1]
          by_cases h2 : i = p
          · subst h2
            rw [if_pos rfl, if_pos (by omega), if_pos (by omega), ← ej, hpj]
            congr 1
            omega
          · rw [if_neg h2, hpp]
            by_cases h3 : p < i ∨ j < p
            · rw [if_pos h3, if_pos (by omega)]
            · rw [if_neg h3, if_neg (by omega)]
      case measure => simp [intOf]; omega
    · have hrev : cs = ds.reverse := by
        apply List.ext_getElem?
        intro p
        have hC := HC.out
        rcases Nat.lt_or_ge p n with hp | hp
        · rw [HP.out p hp, List.getElem?_reverse (by omega), hl]
          split
          · rfl
          · congr 1; omega
        · rw [List.getElem?_eq_none (by omega), List.getElem?_eq_none (by simp; omega)]
      subst hrev
      clear HP HC HI
      go_wp2
      go_end0
      exact ⟨rfl, hown, hbel⟩

end Go.Proofs.Ytjhinelbejjafaa
