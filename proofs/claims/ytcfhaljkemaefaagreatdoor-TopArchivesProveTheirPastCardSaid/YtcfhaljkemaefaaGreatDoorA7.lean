
/- The walk of ReadText, and awake. -/
import Derived.Test.YtcfhaljkemaefaaGreatDoorA6
namespace Go.Proofs.YtcfhaljkemaefaaGreatDoor
open Go.RowKit Limb

/-- ReadText in plain lists. -/
def readText (l : List UInt8) : Int × Int × Int :=
  let neg := l.head? == some 45
  let rest := if neg then l.tail else l
  let c := cutL rest 46
  if decide (40 < l.length) || !wholeB c.1 || (c.2.2 && (!digB c.2.1 || decide (9 < c.2.1.length))) then (0, 0, 10) else readR neg (c.1 ++ c.2.1) c.2.1.length

theorem cutL_len (l : List UInt8) (c : UInt8) : (cutL l c).1.length + (cutL l c).2.1.length ≤ l.length ∧ ((cutL l c).2.2 = false → (cutL l c).2.1 = []) := by
  rcases cutL_index l c with ⟨_, h⟩ | ⟨o, ho, _, h⟩
  · rw [h]; simp
  · rw [h]; simp; omega
theorem inB_append (a b : List UInt8) (x y : Nat) : inB (a ++ b) x y = (inB a x y && inB b x y) := by unfold inB; rw [List.all_append]

set_option maxHeartbeats 4000000 in
set_option maxRecDepth 100000 in
theorem readtext_c (s : ByteArray) (w : World) (hs : s.size ≤ 9223372036854775807) :
    Calls Tryz.prog 14 #[.string s] w (RetD (readText s.data.toList) w) := by
  have hsl : s.data.toList.length = s.size := by simp
  go_enter Tryz.func14, Tryz.ntmps14
  go_wp2_with fail
  refine (cutp_c s 45 _ hs).mono ?_
  rintro e w1 ⟨rfl, t, rfl, ht⟩
  have htl : t.size ≤ s.size := by
    have h1 : t.data.toList.length = t.size := by simp
    rw [← h1, ht, ← hsl]
    split
    · simp
    · exact Nat.le_refl _
  have HT := Lib.hid ht; clear ht
  go_wp2_with fail
  refine (cut_c t 46 _ (by omega)).mono ?_
  rintro e w2 ⟨⟨n, rfl⟩, a, b, rfl, ha, hb⟩
  have hlen := cutL_len t.data.toList 46
  have htl2 : t.data.toList.length = t.size := by simp
  rw [← ha, ← hb, htl2] at hlen
  have hal : a.data.toList.length = a.size := by simp
  have hbl : b.data.toList.length = b.size := by simp
  rw [hal, hbl] at hlen
  have hlen1 := hlen.1
  have HN := Lib.hid hlen.2
  have HA := Lib.hid ha; have HB := Lib.hid hb
  clear ha hb hlen htl2 hal hbl hsl
  have hfin : readText s.data.toList = if decide (40 < s.size) || !wholeB a.data.toList || ((cutL t.data.toList 46).2.2 && (!digB b.data.toList || decide (9 < b.size))) then (0, 0, 10) else readR (hasB s 45) (a.data.toList ++ b.data.toList) b.size := by
    unfold readText
    simp only
    have h2 : (if (s.data.toList.head? == some 45) = true then s.data.toList.tail else s.data.toList) = t.data.toList := HT.out.symm
    rw [h2, ← HA.out, ← HB.out]
    have h3 : s.data.toList.length = s.size := by simp
    have h4 : b.data.toList.length = b.size := by simp
    rw [h3, h4]
    rfl
  have HF := Lib.hid hfin; clear hfin
  by_cases h1 : 40 < s.size
  · have h1' : (40 : Int) < (s.size : Int) := by omega
    go_wp2_with (first | (go_at_call 28; refine (iswhole_c a _ (by omega)).mono ?_; rintro e w1 ⟨rfl, rfl⟩; rw [HW.out]) | (go_at_call 29; refine (isdig_c b _ (by omega)).mono ?_; rintro e w1 ⟨rfl, rfl⟩; rw [HG.out]))
    refine bodyPost_ret (v := .tuple #[.agg #[.int .i64 0, .int .i64 0], .int .i64 10]) (by simp [results, Tryz.results14, go_sem]) rfl ⟨by rw [HF.out]; simp [h1], ?_⟩
    go_grown
    exact below_drewN ((Below.refl _ _).alloc (Nat.le_refl _) _) _
  have h1' : ¬ (40 : Int) < (s.size : Int) := by omega
  by_cases hw : wholeB a.data.toList = false
  · have HW := Lib.hid hw; clear hw
    go_wp2_with (first | (go_at_call 28; refine (iswhole_c a _ (by omega)).mono ?_; rintro e w1 ⟨rfl, rfl⟩; rw [HW.out]) | (go_at_call 29; refine (isdig_c b _ (by omega)).mono ?_; rintro e w1 ⟨rfl, rfl⟩; rw [HG.out]))
    refine bodyPost_ret (v := .tuple #[.agg #[.int .i64 0, .int .i64 0], .int .i64 10]) (by simp [results, Tryz.results14, go_sem]) rfl ⟨by rw [HF.out]; simp [h1, HW.out], ?_⟩
    go_grown
    exact below_drewN ((Below.refl _ _).alloc (Nat.le_refl _) _) _
  have hw : wholeB a.data.toList = true := by simpa using hw
  have hda : digB a.data.toList = true := by unfold wholeB at hw; cases h : digB a.data.toList with | true => rfl | false => rw [h] at hw; cases hw
  have hia : inB a.data.toList 48 57 = true := by unfold digB at hda; cases h : inB a.data.toList 48 57 with | true => rfl | false => rw [h] at hda; simp at hda
  have HW := Lib.hid hw; have HI := Lib.hid hia; clear hw hda hia
  by_cases hf : (cutL t.data.toList 46).2.2 = false
  · have hb0 := HN.out hf
    have hbz : b.size = 0 := by
      have : b.data.toList.length = b.size := by simp
      rw [← this, hb0]; rfl
    have HB0 := Lib.hid hb0; have HBZ := Lib.hid hbz; have HFF := Lib.hid hf; clear hb0 hbz
    have e : readText s.data.toList = readR (hasB s 45) (a.data.toList ++ b.data.toList) b.size := by rw [HF.out]; simp [h1, HW.out, HFF.out]
    have HE := Lib.hid e; clear e
    go_wp2_with (first | (go_at_call 28; refine (iswhole_c a _ (by omega)).mono ?_; rintro e w1 ⟨rfl, rfl⟩; rw [HW.out]) | (go_at_call 29; refine (isdig_c b _ (by omega)).mono ?_; rintro e w1 ⟨rfl, rfl⟩; rw [HG.out]))
    refine (read_c (hasB s 45) a b _ (by rw [HB0.out, List.append_nil]; exact HI.out) (by omega)).mono ?_
    rintro e w3 ⟨rfl, hb3⟩
    have hR3 : w3.heap[w.heap.size]? = some (.cells #[.int .i64 0, .int .i64 0] 40 (0, 0)) := heap_below (by exact heap_new w _ rfl) hb3
    obtain ⟨g0, g1, g2, g3, g4⟩ := box2 hR3
    rw [← HE.out]
    clear HE
    generalize readText s.data.toList = R at *
    obtain ⟨R1, R2, R3⟩ := R
    go_wp2
    refine bodyPost_ret (v := .tuple #[.agg #[.int .i64 R1, .int .i64 R2], .int .i64 R3]) (by simp [results, Tryz.results14, go_sem, g0, g1]) rfl ⟨rfl, ?_⟩
    go_grown
    exact below_then hb3 (below_drewN (by go_grown) _) (by simp)
  have hf : (cutL t.data.toList 46).2.2 = true := by simpa using hf
  have HFF := Lib.hid hf
  by_cases hg : digB b.data.toList = false
  · have HG := Lib.hid hg; clear hg
    go_wp2_with (first | (go_at_call 28; refine (iswhole_c a _ (by omega)).mono ?_; rintro e w1 ⟨rfl, rfl⟩; rw [HW.out]) | (go_at_call 29; refine (isdig_c b _ (by omega)).mono ?_; rintro e w1 ⟨rfl, rfl⟩; rw [HG.out]))
    refine bodyPost_ret (v := .tuple #[.agg #[.int .i64 0, .int .i64 0], .int .i64 10]) (by simp [results, Tryz.results14, go_sem]) rfl ⟨by rw [HF.out]; simp [h1, HW.out, HFF.out, HG.out], ?_⟩
    go_grown
    exact below_drewN ((Below.refl _ _).alloc (Nat.le_refl _) _) _
  have hg : digB b.data.toList = true := by simpa using hg
  have hib : inB b.data.toList 48 57 = true := by unfold digB at hg; cases h : inB b.data.toList 48 57 with | true => rfl | false => rw [h] at hg; simp at hg
  have HG := Lib.hid hg; have HJ := Lib.hid hib; clear hg hib
  by_cases h9 : 9 < b.size
  · have h9' : (9 : Int) < (b.size : Int) := by omega
    go_wp2_with (first | (go_at_call 28; refine (iswhole_c a _ (by omega)).mono ?_; rintro e w1 ⟨rfl, rfl⟩; rw [HW.out]) | (go_at_call 29; refine (isdig_c b _ (by omega)).mono ?_; rintro e w1 ⟨rfl, rfl⟩; rw [HG.out]))
    refine bodyPost_ret (v := .tuple #[.agg #[.int .i64 0, .int .i64 0], .int .i64 10]) (by simp [results, Tryz.results14, go_sem]) rfl ⟨by rw [HF.out]; simp [h1, HW.out, HFF.out, HG.out, h9], ?_⟩
    go_grown
    exact below_drewN ((Below.refl _ _).alloc (Nat.le_refl _) _) _
  · have h9' : ¬ (9 : Int) < (b.size : Int) := by omega
    have e : readText s.data.toList = readR (hasB s 45) (a.data.toList ++ b.data.toList) b.size := by rw [HF.out]; simp [h1, HW.out, HFF.out, HG.out, h9]
    have HE := Lib.hid e; clear e
    go_wp2_with (first | (go_at_call 28; refine (iswhole_c a _ (by omega)).mono ?_; rintro e w1 ⟨rfl, rfl⟩; rw [HW.out]) | (go_at_call 29; refine (isdig_c b _ (by omega)).mono ?_; rintro e w1 ⟨rfl, rfl⟩; rw [HG.out]))
    refine (read_c (hasB s 45) a b _ (by rw [inB_append, HI.out, HJ.out]; rfl) (by omega)).mono ?_
    rintro e w3 ⟨rfl, hb3⟩
    have hR3 : w3.heap[w.heap.size]? = some (.cells #[.int .i64 0, .int .i64 0] 40 (0, 0)) := heap_below (by exact heap_new w _ rfl) hb3
    obtain ⟨g0, g1, g2, g3, g4⟩ := box2 hR3
    rw [← HE.out]
    clear HE
    generalize readText s.data.toList = R at *
    obtain ⟨R1, R2, R3⟩ := R
    go_wp2
    refine bodyPost_ret (v := .tuple #[.agg #[.int .i64 R1, .int .i64 R2], .int .i64 R3]) (by simp [results, Tryz.results14, go_sem, g0, g1]) rfl ⟨rfl, ?_⟩
    go_grown
    exact below_then hb3 (below_drewN (by go_grown) _) (by simp)

theorem readText150 : readText [49, 46, 53, 48] = (150, 2, 0) := by decide

end Go.Proofs.YtcfhaljkemaefaaGreatDoor
