
/- The walk of package amount: steps. -/
import Derived.Test.YtegobkaldedhhaaGreatDoorU4
import Derived.Test.YtegobkaldedhhaaGreatDoorR1
import Derived.Laws.OwnMore
namespace Go.Proofs.YtegobkaldedhhaaGreatDoor
open Go.RowKit Limb
set_option linter.unusedVariables false
set_option linter.unusedSimpArgs false

def asInts (l : List Nat) : List Int := l.map fun x : Nat => (x : Int)
theorem asInts_get {l : List Nat} {j : Nat} (h : j < l.length) : (asInts l).getD j 0 = ((dg l j : Nat) : Int) := by
  unfold asInts
  rw [List.getD_eq_getElem?_getD, List.getElem?_map, dg_get h]; rfl
theorem asInts_contains (l : List Nat) (x : Nat) : (asInts l).contains (x : Int) = l.contains x := by
  induction l with
  | nil => rfl
  | cons a l ih =>
    unfold asInts at ih ⊢
    rw [List.map_cons, List.contains_cons, List.contains_cons, ih]
    congr 1
    rw [Bool.eq_iff_iff]; simp; omega
theorem contains_c (l : List Nat) (A : Option Addr) (n c x : Nat) (w : World) (hd : Dig w .i64 3 A n l) (hn : 0 < n) (hb : n ≤ 1000) :
    Calls Tryz.prog 88 #[.slice A n c, .int .i64 (x : Int)] w fun e w' => w = w' ∧ e = .returned (.bool (l.contains x)) := by
  have hl := hd.1
  obtain ⟨g, rfl, hg, hc⟩ := hd.at_ hn
  refine (Tryz.slices_Contains_int g 0 n c (asInts l) (x : Int) w (by unfold asInts; simp; omega) (by omega) (fun j hj => ?_)).mono ?_
  · have hj' : j < l.length := by unfold asInts at hj; simpa using hj
    rw [asInts_get hj', Nat.zero_add]
    exact hc j (by omega)
  · rintro e w' ⟨rfl, rfl⟩
    refine ⟨rfl, ?_⟩
    rw [List.take_of_length_le (by unfold asInts; simp; omega), asInts_contains]

/-- What steps comes to. -/
def StepR (us : List Unt) (i : Nat) (w : World) (e : Ending) (w' : World) : Prop :=
  Below w.heap.size w w' ∧ ((chainU us i = none ∧ e = .returned (.tuple #[.slice none 0 0, .bool false])) ∨
    ∃ l A c, chainU us i = some l ∧ 0 < l.length ∧ l.length ≤ us.length ∧ (∀ x ∈ l, x < us.length) ∧ e = .returned (.tuple #[.slice A l.length c, .bool true]) ∧ Dig w' .i64 3 A l.length l)
/-- What has been gone through so far. -/
structure Gone (us : List Unt) (n i : Nat) (l : List Nat) (k : Nat) : Prop where
  path : PathU (nxtU us) (l ++ [k])
  head : (l ++ [k]).head? = some i
  nodup : (l ++ [k]).Nodup
  lt : ∀ x ∈ l ++ [k], x < n
theorem Gone.len {us : List Unt} {n i k : Nat} {l : List Nat} (h : Gone us n i l k) : l.length + 1 ≤ n := by
  have := nodup_le n _ h.nodup h.lt
  simpa using this
theorem Gone.step {us : List Unt} {n i k j : Nat} {l : List Nat} (h : Gone us n i l k) (hj : nxtU us k = some j) (hn : j < n) (hc : j ∉ l ++ [k]) : Gone us n i (l ++ [k]) j := by
  refine ⟨h.path.snoc hj, ?_, ?_, ?_⟩
  · have := h.head
    cases l with
    | nil => simpa using this
    | cons a l => simpa using this
  · rw [List.nodup_append]
    refine ⟨h.nodup, by simp, ?_⟩
    intro a ha b hb
    simp at hb
    subst hb
    rintro rfl
    exact hc ha
  · intro x hx
    rcases List.mem_append.1 hx with g | g
    · exact h.lt x g
    · simp at g; subst g; exact hn
theorem Gone.done {us : List Unt} {n i k : Nat} {l : List Nat} (h : Gone us n i l k) (hl : us.length = n) (hk : nxtU us k = none) : chainU us i = some (l ++ [k]) := by
  have := h.len
  exact chainF_path h.path hk h.head (by omega)
theorem Gone.back {us : List Unt} {n i k j : Nat} {l : List Nat} (h : Gone us n i l k) (hk : nxtU us k = some j) (hj : j ∈ l ++ [k]) : chainU us i = none := by
  refine chainF_back h.path hk hj ?_
  exact List.mem_of_head? h.head
theorem Gone.start {us : List Unt} {n i : Nat} (hi : i < n) : Gone us n i [] i := ⟨trivial, rfl, by simp, by simpa using hi⟩

set_option maxHeartbeats 4000000 in
set_option maxRecDepth 100000 in
theorem steps_c (us : List Unt) (A : Option Addr) (n c i : Nat) (w : World) (hU : Uns w A n us) (hn : n ≤ 200) (hS : SortU us) (hk : ∀ j, j < n → knownU us j = true) (hi : i < n) :
    Calls Tryz.prog 36 #[.slice A n c, .int .i64 (i : Int)] w (StepR us i w) := by
  obtain ⟨i0, hi0, hz0, hz1, hz2⟩ := info_parts Tryz.info3
  have HL := Lib.hid hU.1; have HS := Lib.hid hS; have HK := Lib.hid hk; clear hS hk
  have HU := Lib.hid hU; clear hU
  go_enter Tryz.func36, Tryz.ntmps36
  go_wp2
  go_loopw [1, 6] (fun v1 v6 wr => ∃ (l : List Nat) (k : Nat) (B : Option Addr) (d : Nat), v1 = .int .i64 (k : Int) ∧ v6 = .slice B (l.length + 1) d ∧ k < n ∧ Hid (Gone us n i l k) ∧
      wr.ownsRow w.heap.size 3 1 (.slice B (l.length + 1) d) (l.length + 1) (digV .i64 (l ++ [k])) ∧ Below w.heap.size w wr) (fun _ v6 _ => n + 1 - slen v6)
  case atStart =>
    refine ⟨[], i, some ⟨w.heap.size, 0, none⟩, 1, rfl, rfl, hi, Lib.hid (Gone.start hi), ?_, by go_grown⟩
    exact World.ownsRow_lit w #[.int .i64 (i : Int)] 1 (Nat.le_refl _) (by unfold maxLen; omega) rfl
  case round =>
    obtain ⟨l, k, B, d, rfl, rfl, hkn, HG, hown, hbel⟩ := hrel
    have hzr := hbel.size
    have hlen := HG.out.len
    obtain ⟨b, off, rfl, hbl, hx0, hx1, hx2, hx3⟩ := (HU.out.below hbel).at_ hkn
    cases he : (uA us k).of.toList.isEmpty with
    | true =>
      have hnx : nxtU us k = none := by unfold nxtU; rw [if_pos (of_empty.1 he)]
      have HC := Lib.hid (HG.out.done HL.out hnx)
      clear hnx
      go_wp2
      go_ret2
      refine ⟨hbel, .inr ⟨l ++ [k], B, d, HC.out, by simp, by rw [HL.out]; simpa using hlen, by rw [HL.out]; exact HG.out.lt, by simp, ?_⟩⟩
      have := Dig.of_own hown
      simpa using this
    | false =>
      have hne : ofU us k ≠ [] := fun g => by rw [of_empty.2 g] at he; cases he
      obtain ⟨j, hj⟩ : ∃ j, idxU us (ofU us k) = some j := by
        have := HK.out k hkn
        unfold knownU at this
        have h2 : (ofU us k).isEmpty = false := by simpa using hne
        rw [h2] at this
        exact Option.isSome_iff_exists.1 (by simpa using this)
      have hnx : nxtU us k = some j := by unfold nxtU; rw [if_neg hne, hj]
      have hjn : j < n := by rw [← HL.out]; exact (idxU_some hj).1
      have hf : foundU us (uA us k).of.data.toList = true := by
        have h2 : idxU us (uA us k).of.data.toList = some j := hj
        unfold foundU; rw [h2]; rfl
      have HF := Lib.hid hf; have HJ := Lib.hid hj; have HN := Lib.hid hnx
      clear hf hj hnx hne
      go_wp2_with fail
      refine (unitat_c us _ _ n c _ (HU.out.below hbel) hn HS.out).mono ?_
      rintro e w2 ⟨hb2, j', hj', rfl, hix⟩
      obtain rfl : j' = j := by
        have h1 := hix HF.out
        have h2 : idxU us (uA us k).of.data.toList = some j := HJ.out
        rw [h2] at h1
        injection h1 with h1; exact h1.symm
      clear hix
      rw [HF.out]
      have hown2 := own_below hown hb2
      have hbel2 := below_then hb2 hbel hzr
      have hz2' := hbel2.size
      clear hown
      go_wp2_with fail
      refine (contains_c (l ++ [k]) _ (l.length + 1) d j' _ (Dig.of_own hown2) (by omega) (by omega)).mono ?_
      rintro e w3 ⟨rfl, rfl⟩
      cases hc : (l ++ [k]).contains j' with
      | true =>
        have HC := Lib.hid (HG.out.back HN.out (by simpa using hc))
        clear hc
        go_wp2
        go_ret2
        exact ⟨hbel2, .inl ⟨HC.out, rfl⟩⟩
      | false =>
        have HC := Lib.hid (HG.out.step HN.out hjn (by simpa using hc))
        clear hc
        go_wp2_with (at_builtin; refine wpList_push_own rfl _ _ 49 rfl w.heap.size 3 i0 (.int .i64 0) 8 Tryz.underlying49 hi0 hz0 hz1 hz2 rfl (.slice B (l.length + 1) d) (l.length + 1) (digV .i64 (l ++ [k])) rfl hown2 (.int .i64 (j' : Int)) rfl rfl (by unfold maxLen; omega) (by omega) hz2' ?_; intro B3 d3 w3 hown3 hg3; have hB3 := hbel2.grown hg3 hz2' (own_ge hown2))
        go_roundw
        case rel =>
          rw [← digV_snoc] at hown3
          exact ⟨l ++ [k], j', B3, d3, rfl, by simp, hjn, HC, by simpa using hown3, hB3⟩
        case measure => simp [slen]; omega
end Go.Proofs.YtegobkaldedhhaaGreatDoor
